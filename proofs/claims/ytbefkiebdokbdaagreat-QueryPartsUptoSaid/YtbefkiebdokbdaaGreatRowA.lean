/- Contracts: plain.List at labels, buckets, hashes. -/
import Derived.Test.YtbefkiebdokbdaaGreatPair2
namespace Go.Proofs.YtbefkiebdokbdaaGreat.V
open Go.RowKit
set_option linter.unusedVariables false
set_option maxRecDepth 100000

theorem el_Label : ElemOf Tryz.prog 65 111 (Rep.sz Label) 32 := ElemOf.mk' (z := .agg #[.string ⟨#[]⟩, .string ⟨#[]⟩]) Tryz.underlying65 (by kernel_rfl) rfl

theorem C_List_Label (A : Option Addr) (cap : Nat) (xs : List Label) (w : World) (hr : Sl (fun k => k < w.heap.size) w A xs) (hA : A = none → cap = 0) (hl : xs.length ≤ 1048576) :
    Calls Tryz.prog 113 #[.slice A xs.length cap] w fun e w' => ∃ v, e = .returned v ∧ Own w' w.heap.size 111 v xs ∧ Below w.heap.size w w' := by
  go_enter Tryz.func113, Tryz.ntmps113
  go_wp2_with (at_builtin; refine wpOwn_append rfl _ _ 65 111 32 w.heap.size rfl el_Label (xs := []) rfl (Own.nil _ _ _) rfl rfl hA (hr.mono (fun k _ h => ⟨h, fun e => by cases e⟩)) (by simp; omega) (by simp; omega) (Nat.le_refl _) ?_)
  intro v w' ho hg hat
  go_wp2
  go_ret
  exact ⟨v, rfl, by simpa using ho, (Below.refl _ _).grown hg (Nat.le_refl _) (fun j hj => by cases hj)⟩
theorem C_List_Bucket (A : Option Addr) (cap : Nat) (xs : List Bucket) (w : World) (hr : Sl (fun k => k < w.heap.size) w A xs) (hA : A = none → cap = 0) (hl : xs.length ≤ 1048576) :
    Calls Tryz.prog 114 #[.slice A xs.length cap] w fun e w' => ∃ v, e = .returned v ∧ Own w' w.heap.size 120 v xs ∧ Below w.heap.size w w' := by
  go_enter Tryz.func114, Tryz.ntmps114
  go_wp2_with (at_builtin; refine wpOwn_append rfl _ _ 39 120 16 w.heap.size rfl el_Bucket (xs := []) rfl (Own.nil _ _ _) rfl rfl hA (hr.mono (fun k _ h => ⟨h, fun e => by cases e⟩)) (by simp; omega) (by simp; omega) (Nat.le_refl _) ?_)
  intro v w' ho hg hat
  go_wp2
  go_ret
  exact ⟨v, rfl, by simpa using ho, (Below.refl _ _).grown hg (Nat.le_refl _) (fun j hj => by cases hj)⟩
theorem C_List_num (A : Option Addr) (cap : Nat) (xs : List Int) (w : World) (hr : Sl (fun k => k < w.heap.size) w A xs) (hA : A = none → cap = 0) (hl : xs.length ≤ 1048576) :
    Calls Tryz.prog 115 #[.slice A xs.length cap] w fun e w' => ∃ v, e = .returned v ∧ Own w' w.heap.size 29 v xs ∧ Below w.heap.size w w' := by
  go_enter Tryz.func115, Tryz.ntmps115
  go_wp2_with (at_builtin; refine wpOwn_append rfl _ _ 40 29 8 w.heap.size rfl el_U64 (xs := []) rfl (Own.nil _ _ _) rfl rfl hA (hr.mono (fun k _ h => ⟨h, fun e => by cases e⟩)) (by simp; omega) (by simp; omega) (Nat.le_refl _) ?_)
  intro v w' ho hg hat
  go_wp2
  go_ret
  exact ⟨v, rfl, by simpa using ho, (Below.refl _ _).grown hg (Nat.le_refl _) (fun j hj => by cases hj)⟩
end Go.Proofs.YtbefkiebdokbdaaGreat.V
