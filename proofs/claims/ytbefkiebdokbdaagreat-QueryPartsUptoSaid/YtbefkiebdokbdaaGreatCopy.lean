/- Contracts of varvelaw00: copies of lists; Place. -/
import Derived.Test.YtbefkiebdokbdaaGreatRowC
namespace Go.Proofs.YtbefkiebdokbdaaGreat.V
open Go.RowKit
set_option linter.unusedVariables false
set_option maxRecDepth 100000

theorem C_v_Labels (A : Option Addr) (cap : Nat) (xs : List Label) (w : World) (hr : Sl (fun k => k < w.heap.size) w A xs) (hA : A = none → cap = 0) (hl : xs.length ≤ 1048576) :
    Calls Tryz.prog 91 #[.slice A xs.length cap] w fun e w' => ∃ v, e = .returned v ∧ Own w' w.heap.size 111 v xs ∧ Below w.heap.size w w' := by
  go_enter Tryz.func91, Tryz.ntmps91
  go_wp2_with (at_builtin; refine wpOwn_append rfl _ _ 65 111 32 w.heap.size rfl el_Label (xs := []) rfl (Own.nil _ _ _) rfl rfl hA (hr.mono (fun k _ h => ⟨h, fun e => by cases e⟩)) (by simp; omega) (by simp; omega) (Nat.le_refl _) ?_)
  intro v w' ho hg hat
  go_wp2
  go_ret
  exact ⟨v, rfl, by simpa using ho, (Below.refl _ _).grown hg (Nat.le_refl _) (fun j hj => by cases hj)⟩
theorem C_v_Buckets (A : Option Addr) (cap : Nat) (xs : List Bucket) (w : World) (hr : Sl (fun k => k < w.heap.size) w A xs) (hA : A = none → cap = 0) (hl : xs.length ≤ 1048576) :
    Calls Tryz.prog 50 #[.slice A xs.length cap] w fun e w' => ∃ v, e = .returned v ∧ Own w' w.heap.size 120 v xs ∧ Below w.heap.size w w' := by
  go_enter Tryz.func50, Tryz.ntmps50
  go_wp2_with (at_builtin; refine wpOwn_append rfl _ _ 39 120 16 w.heap.size rfl el_Bucket (xs := []) rfl (Own.nil _ _ _) rfl rfl hA (hr.mono (fun k _ h => ⟨h, fun e => by cases e⟩)) (by simp; omega) (by simp; omega) (Nat.le_refl _) ?_)
  intro v w' ho hg hat
  go_wp2
  go_ret
  exact ⟨v, rfl, by simpa using ho, (Below.refl _ _).grown hg (Nat.le_refl _) (fun j hj => by cases hj)⟩
theorem C_v_Nums (A : Option Addr) (cap : Nat) (xs : List Int) (w : World) (hr : Sl (fun k => k < w.heap.size) w A xs) (hA : A = none → cap = 0) (hl : xs.length ≤ 1048576) :
    Calls Tryz.prog 51 #[.slice A xs.length cap] w fun e w' => ∃ v, e = .returned v ∧ Own w' w.heap.size 29 v xs ∧ Below w.heap.size w w' := by
  go_enter Tryz.func51, Tryz.ntmps51
  go_wp2_with (at_builtin; refine wpOwn_append rfl _ _ 40 29 8 w.heap.size rfl el_U64 (xs := []) rfl (Own.nil _ _ _) rfl rfl hA (hr.mono (fun k _ h => ⟨h, fun e => by cases e⟩)) (by simp; omega) (by simp; omega) (Nat.le_refl _) ?_)
  intro v w' ho hg hat
  go_wp2
  go_ret
  exact ⟨v, rfl, by simpa using ho, (Below.refl _ _).grown hg (Nat.le_refl _) (fun j hj => by cases hj)⟩

def place (x n : Int) : Int := if Int.tmod x n < 0 then Int.tmod x n + n else Int.tmod x n
end Go.Proofs.YtbefkiebdokbdaaGreat.V
