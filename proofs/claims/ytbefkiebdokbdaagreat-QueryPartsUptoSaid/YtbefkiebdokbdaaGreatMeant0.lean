/- query.Meant at the matcher that means all. -/
import Derived.Test.YtbefkiebdokbdaaGreatMatch0
namespace Go.Proofs.YtbefkiebdokbdaaGreat.V
open Go.RowKit
set_option linter.unusedVariables false
set_option maxRecDepth 100000

/-- Do a row's labels and sketch stand? -/
noncomputable def mayB (r : Row) : Bool := tr (LabelsP r.labels) && pCheck r.s

theorem Frm.of_grown' {w w' : World} {row : Option Nat} (h : w.grownBy w' row) : Frm (fun k => row = some k) w w' := ⟨h.os, h.tape, h.output, h.size, fun i hi hn => h.block i hi (fun e => hn e.symm)⟩

set_option maxHeartbeats 4000000 in
theorem C_Meant_z (A : Option Addr) (cap : Nat) (xs : List Row) (w : World) (hr : Sl (fun k => k < w.heap.size) w A xs) (hl : xs.length ≤ 1048576) :
    Calls Tryz.prog 58 #[.agg mz.toArray, .slice A xs.length cap] w fun e w' => ∃ v, e = .returned v ∧ Own w' w.heap.size 67 v (xs.filter mayB) ∧ Below w.heap.size w w' := by
  have hlen := hr.1
  go_enter Tryz.func58, Tryz.ntmps58
  go_wp2_with fail
  have hB := Blk.new w mz 28
  have hb : Below w.heap.size w (w.alloc (.cells mz.toArray 28)) := (Below.refl _ _).alloc (Nat.le_refl _) _
  generalize w.alloc (.cells mz.toArray 28) = W at hB hb ⊢
  go_step3
  go_wp2_with fail
  go_step3
  go_wp2_with fail
  go_loopw [5, 7, 10] (fun v _ i wr => ∃ (k : Nat), k ≤ xs.length ∧ i = .int .i64 k ∧ Own wr (w.heap.size + 1) 67 v ((xs.take k).filter mayB) ∧ Below w.heap.size w wr ∧ Blk wr w.heap.size mz 28) (fun _ _ i _ => xs.length - (intOf i).toNat)
  case atStart => exact ⟨0, Nat.zero_le _, rfl, Own.nil _ _ _, hb, hB⟩
  case round =>
    clear hB hb
    obtain ⟨k, hk, rfl, hown, hbl, hB⟩ := hrel
    by_cases hlt : k < xs.length
    · obtain ⟨b, off, A0, c0, A1, c1, A2, c2, rfl, hob, hlb, y0, y1, y2, y3, y4, y5, y6, y7, s0, hi, s1, s2, hg, m0, m1, m2⟩ := (hr.below hbl).row hlt
      have htk : xs.take (k + 1) = xs.take k ++ [xs[k]] := List.take_succ_eq_append_getElem hlt
      have hle : ((xs.take k).filter mayB).length ≤ k := by
        have := List.length_filter_le mayB (xs.take k); simp at this; omega
      have hfl : (xs.take (k + 1)).filter mayB = (xs.take k).filter mayB ++ (if mayB xs[k] = true then [xs[k]] else []) := by
        rw [htk, List.filter_append]; simp only [List.filter_cons, List.filter_nil]
      have HT := Lib.hid hfl
      clear htk hfl
      generalize (xs.take k).filter mayB = pre at *
      generalize xs[k] = r at *
      go_wp2_with fail
      obtain ⟨W, hW⟩ : ∃ W, W = wr.alloc (.cells (rowL A0 c0 A1 c1 A2 c2 r).toArray 67) := ⟨_, rfl⟩
      have hbW : Below wr.heap.size wr W := hW ▸ (Below.refl _ _).alloc (Nat.le_refl _) _
      have hBW : Blk W wr.heap.size (rowL A0 c0 A1 c1 A2 c2 r) 67 := hW ▸ Blk.new _ _ _
      rw [← hW]
      clear hW y0 y1 y2 y3 y4 y5 y6 y7
      have hws := hbl.size
      have hwz := hbW.size
      refine (C_rows_May _ A0 c0 A1 c1 A2 c2 r _ (s0.below hbW) (s1.below hbW) (s2.below hbW) hg).mono ?_
      rintro e w1 ⟨rfl, hb1⟩
      have hb2 : Below w.heap.size w w1 := (hbl.trans (hbW.mono hws)).trans (hb1.mono (by omega))
      have hz1 := hb1.size
      have hB1 := (hB.below hbW).below hb1
      have hBr := hBW.below hb1
      have t0 := (s0.below hbW).below hb1
      have t1 := (s1.below hbW).below hb1
      have t2 := (s2.below hbW).below hb1
      have hown1 := (hown.below hbW).below hb1
      have hub : ∀ j, u5.ownBlock = some j → w.heap.size + 1 ≤ j ∧ j < wr.heap.size := fun j hj => by obtain ⟨cs, _, ho'⟩ := hown; exact ho'.lt j hj
      clear hown hbl hb1 hbW hBW hB s0 s1 s2
      have emb : mayB r = (tr (LabelsP r.labels) && pCheck r.s) := rfl
      rw [← emb]
      have z0 := hB1.c 0 rfl
      have z1 := hB1.c 1 rfl
      have z2 := hB1.c 2 rfl
      have z3 := hB1.c 3 rfl
      have z4 := hB1.c 4 rfl
      have x0 := hBr.c 0 rfl
      clear emb
      cases hm : mayB r
      · have HM := Lib.hid hm
        clear hm
        go_wp2
        go_roundw
        case rel => exact ⟨k + 1, by omega, by go_num, by rw [HT.out, HM.out]; simpa using hown1, hb2, hB1⟩
        case measure => simp [intOf]; omega
      · have HM := Lib.hid hm
        clear hm
        go_wp2_with fail
        refine (C_match_Eval_z _ A0 c0 r.labels _ t0).mono ?_
        rintro e w2 ⟨rfl, hbe⟩
        have hB2 := hB1.below hbe
        have hBr2 := hBr.below hbe
        have q0 := hBr2.c 0 rfl
        have q1 := hBr2.c 1 rfl
        have q2 := hBr2.c 2 rfl
        have q3 := hBr2.c 3 rfl
        have q4 := hBr2.c 4 rfl
        have q5 := hBr2.c 5 rfl
        have q6 := hBr2.c 6 rfl
        have q7 := hBr2.c 7 rfl
        have hown2 := hown1.below hbe
        have hb3 := hb2.trans (hbe.mono hb2.size)
        have hz2 := hbe.size
        have hrow1 : Rep.rep (fun k => k < w2.heap.size ∧ some k ≠ u5.ownBlock) w2 (rowL A0 c0 A1 c1 A2 c2 r) r := by
          have hf : ∀ k, k < w2.heap.size → k < w.heap.size → (k < w2.heap.size ∧ some k ≠ u5.ownBlock) := fun k h1 h2 => ⟨h1, fun e => by have := (hub k e.symm).1; omega⟩
          exact ⟨A0, c0, A1, c1, A2, c2, rfl, (t0.below hbe).mono hf, hi, (t1.below hbe).mono hf, (t2.below hbe).mono hf, hg, m0, m1, m2⟩
        have hA1 : pre.length + 1 ≤ 9223372036854775807 := by omega
        have hA2 : (pre.length + 1) * 112 ≤ 140737488355328 := by omega
        have hA3 : w.heap.size + 1 ≤ w2.heap.size := by have := hB2.lt; omega
        clear z0 z1 z2 z3 z4 x0 hBr2 hBr hown1 hb2 hbe hB1 t0 t1 t2
        go_wp2_with (at_builtin; refine wpOwn_append1 (rowL A0 c0 A1 c1 A2 c2 r) r rfl _ _ 51 67 67 112 (w.heap.size + 1) rfl rfl el_Row rfl hown2 rfl hrow1 hA1 hA2 hA3 ?_)
        intro v' w3 ho2 hg2 hat2
        go_wp2
        go_roundw
        case rel => exact ⟨k + 1, by omega, by go_num, by rw [HT.out, HM.out]; simpa using ho2, hb3.grown hg2 hb3.size (fun j hj => by have := hub j hj; omega), hB2.frm (Frm.of_grown' hg2) (fun e => by have := hub _ e; omega)⟩
        case measure => simp [intOf]; omega
    · have hkk : k = xs.length := by omega
      rw [hkk, List.take_length] at hown
      go_wp2
      rw [Exit.noGoto_ret]
      go_ret
      exact ⟨_, rfl, hown.lower (by omega), hbl⟩
end Go.Proofs.YtbefkiebdokbdaaGreat.V
