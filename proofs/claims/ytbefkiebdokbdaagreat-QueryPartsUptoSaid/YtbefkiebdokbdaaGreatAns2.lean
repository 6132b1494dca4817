/- query.Answers at a count, the zero matcher. -/
import Derived.Test.YtbefkiebdokbdaaGreatAns1
namespace Go.Proofs.YtbefkiebdokbdaaGreat.V
open Go.RowKit
set_option linter.unusedVariables false
set_option maxRecDepth 100000

set_option maxHeartbeats 2000000 in
theorem C_Answers (A : Option Addr) (cap : Nat) (xs : List Row) (step : Int) (w : World) (hr : Sl (fun k => k < w.heap.size) w A xs) (hl : xs.length ≤ 1048576) (hs : ∀ r ∈ xs, r.small) :
    Calls Tryz.prog 23 #[.agg (askL 0 step 1).toArray, .slice A xs.length cap] w fun e w' => ∃ ba bi B c, e = .returned (.func (.func 59) #[] #[.pointer (some ⟨ba, 0, none⟩), .pointer (some ⟨bi, 0, none⟩)]) ∧
      Blk w' ba (askL 0 step 1) 31 ∧ w'.cell? ⟨bi, 0, none⟩ = some (.slice B (xs.filter mayB).length c) ∧ bi < w'.heap.size ∧ Sl (fun k => k < w'.heap.size) w' B (xs.filter mayB) ∧ Below w.heap.size w w' := by
  go_enter Tryz.func23, Tryz.ntmps23
  go_wp2_with fail
  obtain ⟨W, hW⟩ : ∃ W, W = w.alloc (.cells (askL 0 step 1).toArray 31) := ⟨_, rfl⟩
  have hbW : Below w.heap.size w W := hW ▸ (Below.refl _ _).alloc (Nat.le_refl _) _
  have hB : Blk W w.heap.size (askL 0 step 1) 31 := hW ▸ Blk.new _ _ _
  show Calls _ _ _ (w.alloc (.cells (askL 0 step 1).toArray 31)) _
  rw [← hW]
  clear hW
  refine (C_Meant_z A cap xs W (Sl.up hr hbW) hl).mono ?_
  rintro e w1 ⟨v, rfl, ho1, hb1⟩
  have hz1 := hbW.size
  obtain ⟨B1, c1, rfl, hsl1⟩ := ho1.sl hb1.size
  have hbw1 := hbW.trans (hb1.mono hz1)
  have hfl : (xs.filter mayB).length ≤ xs.length := List.length_filter_le _ _
  have hsm : ∀ r ∈ xs.filter mayB, r.small := fun r h => hs r (List.mem_filter.1 h).1
  obtain ⟨ys, hys⟩ : ∃ ys, ys = xs.filter mayB := ⟨_, rfl⟩
  rw [← hys] at hsl1 hfl hsm ho1 ⊢
  have HY := Lib.hid hys
  clear hys
  go_wp2_with fail
  refine (C_rows_Own B1 c1 ys w1 hsl1 (by omega) hsm).mono ?_
  rintro e w2 ⟨v, rfl, ho2, hb2⟩
  obtain ⟨B2, c2, rfl, hsl2⟩ := ho2.sl hb2.size
  have hB2 := (hB.below hb1).below hb2
  have hbw2 := hbw1.trans (hb2.mono hbw1.size)
  go_wp2
  go_ret
  have ha : Below w2.heap.size w2 (w2.alloc (.cells #[.slice B2 ys.length c2] 51)) := (Below.refl _ _).alloc (Nat.le_refl _) _
  rw [← HY.out]
  exact ⟨_, _, B2, c2, rfl, hB2.below ha, by simp, by simp, Sl.up hsl2 ha, hbw2.trans (ha.mono hbw2.size)⟩
end Go.Proofs.YtbefkiebdokbdaaGreat.V
