/- Part 27 of the proof: Awake. -/
import Derived.Test.YtbefkiebdokbdaaGreatB17
import Derived.Test.YtbefkiebdokbdaaGreatB26

section
/- varvelaw23.awake is true. -/
namespace Go.Proofs.YtbefkiebdokbdaaGreat.V
open Go.RowKit
set_option linter.unusedVariables false
set_option maxRecDepth 100000

theorem cntS_nil : cntS [] = 0 := by rw [cntS_eq (fun s h => by cases h)]; rfl
theorem cntA_0 : cntA 0 = ⟨0, true, 0, 0⟩ := by unfold cntA satErr; rfl
theorem winS_nil (a b : Int) : winS a b [] = [] := rfl
/-- query.Check at awake's two questions. -/
@[reducible] def conf1 : Conf := ⟨0, 1, 1, 1, 1⟩
theorem C_Check_a1 (w : World) : Calls Tryz.prog 14 #[.agg (confL conf1).toArray, .int .i64 0, .agg (askL 0 1 1).toArray] w fun e w' => e = .returned (.int .i64 0) ∧ Below w.heap.size w w' := by
  have h := C_Check_end (.int .i64 0) (.string ⟨#[]⟩) (.string ⟨#[]⟩) (.slice none 0 0) (.slice none 0 0) true conf1 0 0 1 1 1 0 0 w (fun W _ => C_match_Check_z W) ⟨by omega, by omega⟩ ⟨by omega, by omega⟩ ⟨by omega, by omega⟩
    (by unfold qBad; simp) (by unfold qBig; simp) (by omega) (by omega) (by decide) (by decide) (by decide) (by decide) (by omega)
  refine h.mono fun e w' hh => ⟨hh.1.trans (ret_i ?_), hh.2⟩
  decide
/-- The zero question. -/
@[reducible] def askZ : List Value := mz ++ [.int .i64 0, .int .i64 0, .int .i64 0, .int .i64 0, .int .u64 0, .int .u64 0]
theorem C_Check_a2 (w : World) : Calls Tryz.prog 14 #[.agg (confL conf1).toArray, .int .i64 0, .agg askZ.toArray] w fun e w' => e = .returned (.int .i64 5) ∧ Below w.heap.size w w' := by
  exact C_Check_bad (.int .i64 0) (.string ⟨#[]⟩) (.string ⟨#[]⟩) (.slice none 0 0) (.slice none 0 0) true conf1 0 0 0 0 0 0 0 w (fun W _ => C_match_Check_z W) ⟨by omega, by omega⟩ ⟨by omega, by omega⟩ (by unfold qBad; simp)

theorem C_awake (w : World) : Calls Tryz.prog 13 #[] w fun e w' => e = .returned (.bool true) ∧ Below w.heap.size w w' := by
  go_enter Tryz.func13, Tryz.ntmps13
  go_wp2_with fail
  obtain ⟨W, hW⟩ : ∃ W, W = w.alloc (.cells (askL 0 1 1).toArray 31) := ⟨_, rfl⟩
  have hbW : Below w.heap.size w W := hW ▸ (Below.refl _ _).alloc (Nat.le_refl _) _
  have hA : Blk W w.heap.size (askL 0 1 1) 31 := hW ▸ Blk.new _ _ _
  show Calls _ _ _ (w.alloc (.cells (askL 0 1 1).toArray 31)) _
  rw [← hW]
  clear hW
  refine (C_Answers none 0 [] 1 W (Sl.nil _ _ _) (by simp) (fun r h => by cases h)).mono ?_
  rintro e w1 ⟨ba, bi, B, c, rfl, hask, hin, hbi, hsl, hb1⟩
  have hbw1 := hbW.trans (hb1.mono hbW.size)
  have hA1 := hA.below hb1
  go_wp2_with fail
  refine (C_told ba bi B c [] 1 9 w1 (by omega) (by omega) (by omega) (by omega) hask hin hbi hsl (by simp) (fun r h => by cases h) (fun r h => by cases h) (fun r h => by cases h)).mono ?_
  rintro e w2 ⟨g, o, c2, rfl, hans, hg, hb2⟩
  rw [winS_nil, cntS_nil, cntA_0] at hans
  obtain ⟨n0, n1, n2, n3⟩ := hans
  have hbw2 := hbw1.trans (hb2.mono hbw1.size)
  have hA2 := hA1.below hb2
  have hgl : g < w2.heap.size := by
    by_cases h : g < w2.heap.size
    · exact h
    · have : w2.heap[g]? = none := by rw [Array.getElem?_eq_none_iff]; omega
      simp [World.cell?, this] at n0
  have hAl := hA2.lt
  clear hask hin hsl hb1 hA hA1
  have a0 := hA2.c 0 rfl
  have a1 := hA2.c 1 rfl
  have a2 := hA2.c 2 rfl
  have a3 := hA2.c 3 rfl
  have a4 := hA2.c 4 rfl
  have a5 := hA2.c 5 rfl
  have a6 := hA2.c 6 rfl
  have a7 := hA2.c 7 rfl
  have a8 := hA2.c 8 rfl
  have a9 := hA2.c 9 rfl
  have a10 := hA2.c 10 rfl
  have ne1 : g ≠ w2.heap.size := by omega
  have ne2 : w.heap.size ≠ w2.heap.size := by omega
  go_wp2_with fail
  obtain ⟨W3, hW3⟩ : ∃ W, W = w2.alloc (.cells (confL conf1).toArray 24) := ⟨_, rfl⟩
  have hb3 : Below w2.heap.size w2 W3 := hW3 ▸ (Below.refl _ _).alloc (Nat.le_refl _) _
  have hC3 : Blk W3 w2.heap.size (confL conf1) 24 := hW3 ▸ Blk.new _ _ _
  show Calls _ _ _ (w2.alloc (.cells (confL conf1).toArray 24)) _
  rw [← hW3]
  clear hW3
  refine (C_Check_a1 W3).mono ?_
  rintro e w4 ⟨rfl, hb4⟩
  have hC4 := hC3.below hb4
  have c0 := hC4.c 0 rfl
  have c1 := hC4.c 1 rfl
  have c2 := hC4.c 2 rfl
  have c3 := hC4.c 3 rfl
  have c4 := hC4.c 4 rfl
  have hbw4 := (hbw2.trans (hb3.mono hbw2.size)).trans (hb4.mono (Nat.le_trans hbw2.size hb3.size))
  clear a0 a1 a2 a3 a4 a5 a6 a7 a8 a9 a10 n0 n1 n2 n3 hA2 hb2 hC3 hC4 hb3 hb4
  go_wp2_with (go_at_call 14; refine (C_Check_a2 _).mono ?_; rintro e w5 ⟨rfl, hb5⟩)
  go_ret
  exact ⟨rfl, hbw4.trans (hb5.mono hbw4.size)⟩
end Go.Proofs.YtbefkiebdokbdaaGreat.V
end
