/- Contracts: cal.rest, times, Res, Coarsest, Horizon. -/
import Derived.Test.YtbefkiebdokbdaaGreatCopy4
import Derived.Deep.QuietTactic
import Derived.BigQuiet
namespace Go.Proofs.YtbefkiebdokbdaaGreat.V
open Go.RowKit
set_option linter.unusedVariables false
set_option maxRecDepth 100000

/-- How many slots a row of a level stands for. -/
def resN (k : Nat) : Int := match k with | 0 => 1 | 1 => 6 | 2 => 360 | _ => 8640
theorem resN_pos (k : Nat) : 1 ≤ resN k ∧ resN k ≤ 8640 := by unfold resN; split <;> omega
theorem C_Res (k : Nat) (hk : k < 4) (w : World) : Calls Tryz.prog 73 #[.int .i64 k] w fun e w' => e = .returned (.int .i64 (resN k)) ∧ Below w.heap.size w w' := by
  rcases k with _ | _ | _ | _ | k
  · show Calls Tryz.prog 73 #[.int .i64 0] w fun e w' => e = .returned (.int .i64 1) ∧ Below w.heap.size w w'
    go_enter Tryz.func73, Tryz.ntmps73
    go_wp2
    go_ret
    exact ⟨rfl, by (repeat (first | exact Below.refl _ _ | assumption | refine Below.drew ?_ | refine Below.alloc ?_ (by simp <;> omega) _ | refine Below.setCell ?_ (by simp <;> omega) _))⟩
  · show Calls Tryz.prog 73 #[.int .i64 1] w fun e w' => e = .returned (.int .i64 6) ∧ Below w.heap.size w w'
    go_enter Tryz.func73, Tryz.ntmps73
    go_wp2
    go_ret
    exact ⟨rfl, by (repeat (first | exact Below.refl _ _ | assumption | refine Below.drew ?_ | refine Below.alloc ?_ (by simp <;> omega) _ | refine Below.setCell ?_ (by simp <;> omega) _))⟩
  · show Calls Tryz.prog 73 #[.int .i64 2] w fun e w' => e = .returned (.int .i64 360) ∧ Below w.heap.size w w'
    go_enter Tryz.func73, Tryz.ntmps73
    go_wp2
    go_ret
    exact ⟨rfl, by (repeat (first | exact Below.refl _ _ | assumption | refine Below.drew ?_ | refine Below.alloc ?_ (by simp <;> omega) _ | refine Below.setCell ?_ (by simp <;> omega) _))⟩
  · show Calls Tryz.prog 73 #[.int .i64 3] w fun e w' => e = .returned (.int .i64 8640) ∧ Below w.heap.size w w'
    go_enter Tryz.func73, Tryz.ntmps73
    go_wp2
    go_ret
    exact ⟨rfl, by (repeat (first | exact Below.refl _ _ | assumption | refine Below.drew ?_ | refine Below.alloc ?_ (by simp <;> omega) _ | refine Below.setCell ?_ (by simp <;> omega) _))⟩
  · omega

theorem C_rest (n : Int) (w : World) (hn : I64 n) : Calls Tryz.prog 71 #[.int .i64 n, .int .i64 8640] w fun e w' => e = .returned (.int .i64 (n % 8640)) ∧ w = w' := by
  obtain ⟨n1, n2⟩ := hn
  have b1 := Int.tmod_lt_of_pos n (b := 8640) (by omega)
  have b2 : -8640 < Int.tmod n 8640 := by have := Int.tmod_lt_of_pos (-n) (b := 8640) (by omega); rw [Int.neg_tmod] at this; omega
  have e1 : (Int.tmod n 8640 + 8640) % 8640 = n % 8640 := by
    rw [Int.add_emod_right]
    by_cases h : 0 ≤ n
    · rw [Int.tmod_eq_emod_of_nonneg h]; omega
    · have e : Int.tmod n 8640 = -((-n) % 8640) := by
        rw [← Int.tmod_eq_emod_of_nonneg (by omega), Int.neg_tmod]; omega
      rw [e]; omega
  have HE := Lib.hid e1
  clear e1
  go_enter Tryz.func71, Tryz.ntmps71
  go_wp2
  go_ret
  exact ⟨ret_i (by rw [HE.out]), rfl⟩

theorem C_times (d : Int) (w : World) (h0 : 0 ≤ d) (h1 : d ≤ 1000000000) : Calls Tryz.prog 72 #[.int .i64 d] w fun e w' => e = .returned (.int .i64 (d * 8640)) ∧ w = w' := by
  go_enter Tryz.func72, Tryz.ntmps72
  go_wp2
  go_ret
  exact ⟨rfl, rfl⟩
end Go.Proofs.YtbefkiebdokbdaaGreat.V
