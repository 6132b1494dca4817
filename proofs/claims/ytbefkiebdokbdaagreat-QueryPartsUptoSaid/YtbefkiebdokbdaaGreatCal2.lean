/- Contracts: cal.Coarsest, cal.Horizon. -/
import Derived.Test.YtbefkiebdokbdaaGreatCal
namespace Go.Proofs.YtbefkiebdokbdaaGreat.V
open Go.RowKit
set_option linter.unusedVariables false
set_option maxRecDepth 100000

/-- The greatest level below k of which both are multiples. -/
def coar (start step : Int) : Nat → Nat
  | 0 => 0
  | k + 1 => if start % resN k = 0 ∧ step % resN k = 0 then k else coar start step k
theorem coar_lt (start step : Int) : ∀ k, coar start step k ≤ k
  | 0 => Nat.le_refl _
  | k + 1 => by unfold coar; split <;> have := coar_lt start step k <;> omega
theorem coar_3 (start step : Int) : coar start step 4 < 4 := by
  unfold coar
  split
  · omega
  · have := coar_lt start step 3; omega
set_option maxHeartbeats 1000000 in
theorem C_Coarsest (start step : Int) (w : World) (h0 : 0 ≤ start) (h1 : start ≤ 9223372036854775807) (h2 : 0 ≤ step) (h3 : step ≤ 9223372036854775807) :
    Calls Tryz.prog 38 #[.int .i64 start, .int .i64 step] w fun e w' => e = .returned (.int .i64 (coar start step 4)) ∧ Below w.heap.size w w' := by
  go_enter Tryz.func38, Tryz.ntmps38
  go_wp2_with fail
  go_loopw [5, 7] (fun l i wr => ∃ k : Nat, k ≤ 4 ∧ i = .int .i64 k ∧ l = .int .i64 (coar start step k) ∧ Below w.heap.size w wr) (fun _ i _ => 4 - (intOf i).toNat)
  case atStart => exact ⟨0, by omega, rfl, rfl, Below.refl _ _⟩
  case round =>
    obtain ⟨k, hk, rfl, rfl, hbl⟩ := hrel
    by_cases hlt : k < 4
    · have hr := resN_pos k
      have hrz : (resN k == 0) = false := by simp; omega
      have hrn : resN k ≠ 0 := by omega
      have hcs : coar start step (k + 1) = if start % resN k = 0 ∧ step % resN k = 0 then k else coar start step k := rfl
      have HC := Lib.hid hcs
      clear hcs
      have hsz := hbl.size
      have hwr : IntKind.i64.wrap (↑k + 1) = ↑k + 1 := IntWalk.i64_in _ (by omega)
      generalize hl : coar start step k = lv at *
      by_cases a : start % resN k = 0
      · have a1 : (start % resN k == 0) = true := by simpa using a
        by_cases b : step % resN k = 0
        · have b1 : (step % resN k == 0) = true := by simpa using b
          have HN := Lib.hid (HC.out.trans (if_pos ⟨a, b⟩))
          clear a b HC hsz
          go_wp2_with (go_at_call 73; refine (C_Res k hlt _).mono ?_; rintro e w1 ⟨rfl, hb1⟩; replace hbl := hbl.trans (hb1.mono hbl.size); clear hb1)
          go_roundw
          case rel => exact ⟨k + 1, by omega, by go_num, by rw [HN.out], hbl⟩
          case measure => simp [intOf]; omega
        · have b1 : (step % resN k == 0) = false := by simpa using b
          have HN := Lib.hid (HC.out.trans (if_neg (fun h => b h.2)))
          clear a b HC hsz
          go_wp2_with (go_at_call 73; refine (C_Res k hlt _).mono ?_; rintro e w1 ⟨rfl, hb1⟩; replace hbl := hbl.trans (hb1.mono hbl.size); clear hb1)
          go_roundw
          case rel => exact ⟨k + 1, by omega, by go_num, by rw [HN.out], hbl⟩
          case measure => simp [intOf]; omega
      · have a1 : (start % resN k == 0) = false := by simpa using a
        have HN := Lib.hid (HC.out.trans (if_neg (fun h => a h.1)))
        clear a HC hsz
        go_wp2_with (go_at_call 73; refine (C_Res k hlt _).mono ?_; rintro e w1 ⟨rfl, hb1⟩; replace hbl := hbl.trans (hb1.mono hbl.size); clear hb1)
        go_roundw
        case rel => exact ⟨k + 1, by omega, by go_num, by rw [HN.out], hbl⟩
        case measure => simp [intOf]; omega
    · obtain rfl : k = 4 := by omega
      go_wp2
      go_ret
      exact ⟨rfl, hbl⟩

structure Conf where
  slack : Int
  k0 : Int
  k1 : Int
  k2 : Int
  k3 : Int
@[reducible] def confL (c : Conf) : List Value := [.int .i64 c.slack, .int .i64 c.k0, .int .i64 c.k1, .int .i64 c.k2, .int .i64 c.k3]
def Conf.keep (c : Conf) (k : Nat) : Int := match k with | 0 => c.k0 | 1 => c.k1 | 2 => c.k2 | _ => c.k3
def hzn (keep now : Int) : Int := if now / 8640 ≤ keep then 0 else (now / 8640 - keep) * 8640
theorem C_Horizon (c : Conf) (now : Int) (k : Nat) (w : World) (hk : k < 4) (h0 : 0 ≤ now) (h1 : now ≤ 1099511627776) (hc0 : 1 ≤ c.k0 ∧ c.k0 ≤ 100000) (hc1 : 1 ≤ c.k1 ∧ c.k1 ≤ 100000) (hc2 : 1 ≤ c.k2 ∧ c.k2 ≤ 100000) (hc3 : 1 ≤ c.k3 ∧ c.k3 ≤ 100000) :
    Calls Tryz.prog 37 #[.agg (confL c).toArray, .int .i64 now, .int .i64 k] w fun e w' => e = .returned (.int .i64 (hzn (c.keep k) now)) ∧ Below w.heap.size w w' := by
  obtain ⟨sl, q0, q1, q2, q3⟩ := c
  dsimp only at hc0 hc1 hc2 hc3
  have e1 : (now - now % 8640) / 8640 = now / 8640 := by omega
  have b1 : 0 ≤ now - now % 8640 := by omega
  have key : ∀ (q : Int) (lv : Int), 1 ≤ q ∧ q ≤ 100000 → (lv = 0 ∧ q = q0 ∨ lv = 1 ∧ q = q1 ∨ lv = 2 ∧ q = q2 ∨ lv = 3 ∧ q = q3) →
      Calls Tryz.prog 37 #[.agg #[.int .i64 sl, .int .i64 q0, .int .i64 q1, .int .i64 q2, .int .i64 q3], .int .i64 now, .int .i64 lv] w fun e w' => e = .returned (.int .i64 (hzn q now)) ∧ Below w.heap.size w w' := by
    intro q lv hq hl
    obtain ⟨m1, m2⟩ := hq
    have HE := Lib.hid e1
    have HH := Lib.hid (show hzn q now = if now / 8640 ≤ q then 0 else (now / 8640 - q) * 8640 from rfl)
    generalize hd : now / 8640 = d at *
    have hd1 : 0 ≤ d ∧ d ≤ 200000000 := by omega
    obtain ⟨hd1, hd2⟩ := hd1
    have hr1 : 0 ≤ now % 8640 := by omega
    have hr2 : now % 8640 ≤ now := by omega
    clear hd HE
    have mx0 : max (0 : Int) (min 0 3) = 0 := by decide
    have mx1 : max (0 : Int) (min 1 3) = 1 := by decide
    have mx2 : max (0 : Int) (min 2 3) = 2 := by decide
    have mx3 : max (0 : Int) (min 3 3) = 3 := by decide
    have mx4 : max (0 : Int) 3 = 3 := by decide
    rcases hl with ⟨rfl, rfl⟩ | ⟨rfl, rfl⟩ | ⟨rfl, rfl⟩ | ⟨rfl, rfl⟩
    all_goals
      by_cases hle : d ≤ q
      · have HR := Lib.hid (HH.out.trans (if_pos hle))
        go_enter Tryz.func37, Tryz.ntmps37
        go_wp2_with (go_at_call 71; refine (C_rest now _ ⟨by omega, by omega⟩).mono ?_; rintro e w1 ⟨rfl, rfl⟩)
        go_ret
        exact ⟨ret_i (by rw [HR.out]), by (repeat (first | exact Below.refl _ _ | assumption | refine Below.drew ?_ | refine Below.alloc ?_ (by simp <;> omega) _ | refine Below.setCell ?_ (by simp <;> omega) _))⟩
      · have HR := Lib.hid (HH.out.trans (if_neg hle))
        go_enter Tryz.func37, Tryz.ntmps37
        go_wp2_with (go_at_call 71; refine (C_rest now _ ⟨by omega, by omega⟩).mono ?_; rintro e w1 ⟨rfl, rfl⟩)
        rw [e1]
        refine (C_times (d - q) _ (by omega) (by omega)).mono ?_
        rintro e w1 ⟨rfl, rfl⟩
        go_wp2
        go_ret
        exact ⟨ret_i (by rw [HR.out]), by (repeat (first | exact Below.refl _ _ | assumption | refine Below.drew ?_ | refine Below.alloc ?_ (by simp <;> omega) _ | refine Below.setCell ?_ (by simp <;> omega) _))⟩
  rcases k with _ | _ | _ | _ | k
  · exact key q0 0 hc0 (by simp)
  · exact key q1 1 hc1 (by simp)
  · exact key q2 2 hc2 (by simp)
  · exact key q3 3 hc3 (by simp)
  · omega
end Go.Proofs.YtbefkiebdokbdaaGreat.V
