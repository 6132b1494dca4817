/- Part 19 of the proof: Match0, Meant0, One0, Win0, Told. -/
import Derived.Test.YtbefkiebdokbdaaGreatB16

section
/- Contracts of package match at the matcher that means all: the zero value. -/
namespace Go.Proofs.YtbefkiebdokbdaaGreat.V
open Go.RowKit
set_option linter.unusedVariables false
set_option maxRecDepth 100000

@[reducible] def mz : List Value := [.int .i64 0, .string ⟨#[]⟩, .string ⟨#[]⟩, .slice none 0 0, .slice none 0 0]
theorem empty_no : ¬ NameP ⟨#[]⟩ := fun h => by have := h.1; simp [ByteArray.size] at this

theorem C_alone_z (w : World) : Calls Tryz.prog 103 #[.agg mz.toArray] w fun e w' => e = .returned (.bool true) ∧ Below w.heap.size w w' := by
  have hcall : ∀ w, Calls Tryz.prog 124 #[.string ⟨#[]⟩] w fun e w' => e = .returned (.bool false) ∧ w = w' := fun w => (C_label_Name _ w (by simp [StrOk, ByteArray.size])).mono fun e w' h => ⟨by rw [h.1, tr_no empty_no], h.2⟩
  have HC := Lib.hid hcall
  clear hcall
  go_enter Tryz.func103, Tryz.ntmps103
  go_wp2_with (go_at_call 124; refine (HC.out _).mono ?_; rintro e w' ⟨rfl, rfl⟩)
  go_ret
  exact ⟨rfl, (Below.refl _ _).alloc (Nat.le_refl _) _⟩

theorem C_holds_z (g : Nat) (w : World) (hB : Blk w g [.int .i64 64, .int .i64 4096] 116) :
    Calls Tryz.prog 70 #[.pointer (some ⟨g, 0, none⟩), .agg mz.toArray, .int .i64 1] w fun e w' => e = .returned (.bool true) ∧ Frm (fun k => k = g) w w' := by
  have hg := hB.lt
  go_enter Tryz.func70, Tryz.ntmps70
  have x0 := hB.c 0 rfl
  have x1 := hB.c 1 rfl
  have f0 := hB.f 0
  have f1 := hB.f 1
  have hne : g ≠ w.heap.size := by omega
  have hne' : w.heap.size ≠ g := by omega
  go_wp2_with fail
  obtain ⟨Z, hZ⟩ : ∃ Z, Z = (w.setCell ⟨g, 0, none⟩ (.int .i64 63)).alloc (.cells mz.toArray 28) := ⟨_, rfl⟩
  have hFZ : Frm (fun k => k = g) w Z := by
    rw [hZ]; exact ((Frm.refl (fun k => k = g) w).one rfl 0 (.int .i64 63)).alloc _
  have hBZ : Blk Z g [.int .i64 63, .int .i64 4096] 116 := by
    rw [hZ]; exact (hB.set 0 (.int .i64 63)).below ((Below.refl _ _).alloc (Nat.le_refl _) _)
  have hMZ : Blk Z w.heap.size mz 28 := by
    rw [hZ]
    have := Blk.new (w.setCell ⟨g, 0, none⟩ (.int .i64 63)) mz 28
    simpa [World.setCell] using this
  rw [← hZ]
  clear hZ x0 x1 f0 f1
  refine (C_alone_z Z).mono ?_
  rintro e w1 ⟨rfl, hb1⟩
  have hF1 := hFZ.trans (.of_below hb1)
  have hB1 := hBZ.below hb1
  have hM1 := hMZ.below hb1
  clear hFZ hBZ hMZ hb1
  have x1 := hB1.c 1 rfl
  have f1 := hB1.f 1
  have y1 := hM1.c 1 rfl
  have y2 := hM1.c 2 rfl
  go_wp2_with fail
  refine wp_region_still_tail 14 (by kernel_rfl) (by kernel_rfl) ?_
  simp only [List.take_succ_cons, List.take_zero, List.drop_succ_cons, List.drop_zero]
  change wpStill _ _ w1.drew _ _ _
  repeat still_step
  refine wpStill_nil ?_
  change wpList _ _ _ _ _ w1.drew
  have y3 := hM1.c 3 rfl
  have y4 := hM1.c 4 rfl
  go_wp2
  refine wp_loop_rounds 1 ?_
  rw [rounds_succ]
  go_wp2
  refine wp_loop_rounds 1 ?_
  rw [rounds_succ]
  go_wp2
  go_ret
  exact ⟨rfl, hF1.drew.one rfl 1 _⟩

theorem C_match_Check_z (w : World) : Calls Tryz.prog 36 #[.agg mz.toArray] w fun e w' => e = .returned (.bool true) ∧ Below w.heap.size w w' := by
  go_enter Tryz.func36, Tryz.ntmps36
  go_wp2_with fail
  have hB := Blk.new (w.alloc (.cells mz.toArray 28)) [.int .i64 64, .int .i64 4096] 116
  have hs : (w.alloc (.cells mz.toArray 28)).heap.size = w.heap.size + 1 := by simp
  rw [hs] at hB
  have hb : Below w.heap.size w ((w.alloc (.cells mz.toArray 28)).alloc (.cells [.int .i64 64, .int .i64 4096].toArray 116)) := ((Below.refl _ _).alloc (Nat.le_refl _) _).alloc (by omega) _
  refine (C_holds_z _ _ hB).mono ?_
  rintro e w1 ⟨rfl, hf⟩
  go_wp2
  go_ret
  exact ⟨rfl, hf.to_below hb (fun k _ e => by omega)⟩
theorem C_match_eval_z (ok : Nat → Prop) (A : Option Addr) (cap : Nat) (xs : List Label) (w : World) (hr : Sl ok w A xs) : Calls Tryz.prog 118 #[.agg mz.toArray, .slice A xs.length cap] w fun e w' => e = .returned (.bool true) ∧ Below w.heap.size w w' := by
  have hc := fun w h => C_label_Value ok A cap xs ⟨#[]⟩ w h
  go_enter Tryz.func118, Tryz.ntmps118
  go_wp2_with fail
  have hB := Blk.new w mz 28
  have hb : Below w.heap.size w (w.alloc (.cells mz.toArray 28)) := (Below.refl _ _).alloc (Nat.le_refl _) _
  refine (hc _ (hr.below hb)).mono ?_
  rintro e w1 ⟨rfl, hb1⟩
  have hB1 := hB.below hb1
  have x0 := hB1.c 0 rfl
  have hb2 := hb.trans (hb1.mono hb.size)
  clear hB hB1
  go_wp2
  go_ret
  exact ⟨rfl, hb2⟩
theorem C_match_Eval_z (ok : Nat → Prop) (A : Option Addr) (cap : Nat) (xs : List Label) (w : World) (hr : Sl ok w A xs) : Calls Tryz.prog 94 #[.agg mz.toArray, .slice A xs.length cap] w fun e w' => e = .returned (.bool true) ∧ Below w.heap.size w w' := by
  have hc := fun w h => C_match_eval_z ok A cap xs w h
  go_enter Tryz.func94, Tryz.ntmps94
  go_wp2_with fail
  have hB := Blk.new w mz 28
  have hb : Below w.heap.size w (w.alloc (.cells mz.toArray 28)) := (Below.refl _ _).alloc (Nat.le_refl _) _
  refine (C_match_Check_z _).mono ?_
  rintro e w1 ⟨rfl, hb1⟩
  have hB1 := hB.below hb1
  have hb2 := hb.trans (hb1.mono hb.size)
  have x0 := hB1.c 0 rfl
  have x1 := hB1.c 1 rfl
  have x2 := hB1.c 2 rfl
  have x3 := hB1.c 3 rfl
  have x4 := hB1.c 4 rfl
  clear hB hB1
  go_wp2_with fail
  refine (hc _ (hr.below hb2)).mono ?_
  rintro e w2 ⟨rfl, hb3⟩
  go_wp2
  go_ret
  exact ⟨rfl, hb2.trans (hb3.mono hb2.size)⟩
end Go.Proofs.YtbefkiebdokbdaaGreat.V
end

section
/- query.Meant at the matcher that means all. -/
namespace Go.Proofs.YtbefkiebdokbdaaGreat.V
open Go.RowKit
set_option linter.unusedVariables false
set_option maxRecDepth 100000

/-- Do a row's labels and sketch stand? -/
noncomputable def mayB (r : Row) : Bool := tr (LabelsP r.labels) && pCheck r.s

theorem Frm.of_grown' {w w' : World} {row : Option Nat} (h : w.grownBy w' row) : Frm (fun k => row = some k) w w' := ⟨h.os, h.tape, h.output, h.size, fun i hi hn => h.block i hi (fun e => hn e.symm)⟩

set_option maxHeartbeats 4000000 in
theorem C_Meant_z (A : Option Addr) (cap : Nat) (xs : List Row) (w : World) (hr : Sl (fun k => k < w.heap.size) w A xs) (hl : xs.length ≤ 1048576) :
    Calls Tryz.prog 58 #[.agg mz.toArray, .slice A xs.length cap] w fun e w' => ∃ v, e = .returned v ∧ Own w' w.heap.size 67 v (xs.filter mayB) ∧ Below w.heap.size w w' := by
  have hlen := hr.1
  go_enter Tryz.func58, Tryz.ntmps58
  go_wp2_with fail
  have hB := Blk.new w mz 28
  have hb : Below w.heap.size w (w.alloc (.cells mz.toArray 28)) := (Below.refl _ _).alloc (Nat.le_refl _) _
  generalize w.alloc (.cells mz.toArray 28) = W at hB hb ⊢
  go_step3
  go_wp2_with fail
  go_step3
  go_wp2_with fail
  go_loopw [5, 7, 10] (fun v _ i wr => ∃ (k : Nat), k ≤ xs.length ∧ i = .int .i64 k ∧ Own wr (w.heap.size + 1) 67 v ((xs.take k).filter mayB) ∧ Below w.heap.size w wr ∧ Blk wr w.heap.size mz 28) (fun _ _ i _ => xs.length - (intOf i).toNat)
  case atStart => exact ⟨0, Nat.zero_le _, rfl, Own.nil _ _ _, hb, hB⟩
  case round =>
    clear hB hb
    obtain ⟨k, hk, rfl, hown, hbl, hB⟩ := hrel
    by_cases hlt : k < xs.length
    · obtain ⟨b, off, A0, c0, A1, c1, A2, c2, rfl, hob, hlb, y0, y1, y2, y3, y4, y5, y6, y7, s0, hi, s1, s2, hg, m0, m1, m2⟩ := (hr.below hbl).row hlt
      have htk : xs.take (k + 1) = xs.take k ++ [xs[k]] := List.take_succ_eq_append_getElem hlt
      have hle : ((xs.take k).filter mayB).length ≤ k := by
        have := List.length_filter_le mayB (xs.take k); simp at this; omega
      have hfl : (xs.take (k + 1)).filter mayB = (xs.take k).filter mayB ++ (if mayB xs[k] = true then [xs[k]] else []) := by
        rw [htk, List.filter_append]; simp only [List.filter_cons, List.filter_nil]
      have HT := Lib.hid hfl
      clear htk hfl
      generalize (xs.take k).filter mayB = pre at *
      generalize xs[k] = r at *
      go_wp2_with fail
      obtain ⟨W, hW⟩ : ∃ W, W = wr.alloc (.cells (rowL A0 c0 A1 c1 A2 c2 r).toArray 67) := ⟨_, rfl⟩
      have hbW : Below wr.heap.size wr W := hW ▸ (Below.refl _ _).alloc (Nat.le_refl _) _
      have hBW : Blk W wr.heap.size (rowL A0 c0 A1 c1 A2 c2 r) 67 := hW ▸ Blk.new _ _ _
      rw [← hW]
      clear hW y0 y1 y2 y3 y4 y5 y6 y7
      have hws := hbl.size
      have hwz := hbW.size
      refine (C_rows_May _ A0 c0 A1 c1 A2 c2 r _ (s0.below hbW) (s1.below hbW) (s2.below hbW) hg).mono ?_
      rintro e w1 ⟨rfl, hb1⟩
      have hb2 : Below w.heap.size w w1 := (hbl.trans (hbW.mono hws)).trans (hb1.mono (by omega))
      have hz1 := hb1.size
      have hB1 := (hB.below hbW).below hb1
      have hBr := hBW.below hb1
      have t0 := (s0.below hbW).below hb1
      have t1 := (s1.below hbW).below hb1
      have t2 := (s2.below hbW).below hb1
      have hown1 := (hown.below hbW).below hb1
      have hub : ∀ j, u5.ownBlock = some j → w.heap.size + 1 ≤ j ∧ j < wr.heap.size := fun j hj => by obtain ⟨cs, _, ho'⟩ := hown; exact ho'.lt j hj
      clear hown hbl hb1 hbW hBW hB s0 s1 s2
      have emb : mayB r = (tr (LabelsP r.labels) && pCheck r.s) := rfl
      rw [← emb]
      have z0 := hB1.c 0 rfl
      have z1 := hB1.c 1 rfl
      have z2 := hB1.c 2 rfl
      have z3 := hB1.c 3 rfl
      have z4 := hB1.c 4 rfl
      have x0 := hBr.c 0 rfl
      clear emb
      cases hm : mayB r
      · have HM := Lib.hid hm
        clear hm
        go_wp2
        go_roundw
        case rel => exact ⟨k + 1, by omega, by go_num, by rw [HT.out, HM.out]; simpa using hown1, hb2, hB1⟩
        case measure => simp [intOf]; omega
      · have HM := Lib.hid hm
        clear hm
        go_wp2_with fail
        refine (C_match_Eval_z _ A0 c0 r.labels _ t0).mono ?_
        rintro e w2 ⟨rfl, hbe⟩
        have hB2 := hB1.below hbe
        have hBr2 := hBr.below hbe
        have q0 := hBr2.c 0 rfl
        have q1 := hBr2.c 1 rfl
        have q2 := hBr2.c 2 rfl
        have q3 := hBr2.c 3 rfl
        have q4 := hBr2.c 4 rfl
        have q5 := hBr2.c 5 rfl
        have q6 := hBr2.c 6 rfl
        have q7 := hBr2.c 7 rfl
        have hown2 := hown1.below hbe
        have hb3 := hb2.trans (hbe.mono hb2.size)
        have hz2 := hbe.size
        have hrow1 : Rep.rep (fun k => k < w2.heap.size ∧ some k ≠ u5.ownBlock) w2 (rowL A0 c0 A1 c1 A2 c2 r) r := by
          have hf : ∀ k, k < w2.heap.size → k < w.heap.size → (k < w2.heap.size ∧ some k ≠ u5.ownBlock) := fun k h1 h2 => ⟨h1, fun e => by have := (hub k e.symm).1; omega⟩
          exact ⟨A0, c0, A1, c1, A2, c2, rfl, (t0.below hbe).mono hf, hi, (t1.below hbe).mono hf, (t2.below hbe).mono hf, hg, m0, m1, m2⟩
        have hA1 : pre.length + 1 ≤ 9223372036854775807 := by omega
        have hA2 : (pre.length + 1) * 112 ≤ 140737488355328 := by omega
        have hA3 : w.heap.size + 1 ≤ w2.heap.size := by have := hB2.lt; omega
        clear z0 z1 z2 z3 z4 x0 hBr2 hBr hown1 hb2 hbe hB1 t0 t1 t2
        go_wp2_with (at_builtin; refine wpOwn_append1 (rowL A0 c0 A1 c1 A2 c2 r) r rfl _ _ 51 67 67 112 (w.heap.size + 1) rfl rfl el_Row rfl hown2 rfl hrow1 hA1 hA2 hA3 ?_)
        intro v' w3 ho2 hg2 hat2
        go_wp2
        go_roundw
        case rel => exact ⟨k + 1, by omega, by go_num, by rw [HT.out, HM.out]; simpa using ho2, hb3.grown hg2 hb3.size (fun j hj => by have := hub j hj; omega), hB2.frm (Frm.of_grown' hg2) (fun e => by have := hub _ e; omega)⟩
        case measure => simp [intOf]; omega
    · have hkk : k = xs.length := by omega
      rw [hkk, List.take_length] at hown
      go_wp2
      rw [Exit.noGoto_ret]
      go_ret
      exact ⟨_, rfl, hown.lower (by omega), hbl⟩
end Go.Proofs.YtbefkiebdokbdaaGreat.V
end

section
/- query.One at a count. -/
namespace Go.Proofs.YtbefkiebdokbdaaGreat.V
open Go.RowKit
set_option linter.unusedVariables false
set_option maxRecDepth 100000

/-- An Ask for a count, as cells. -/
@[reducible] def askL (start step n : Int) : List Value := mz ++ [.int .i64 start, .int .i64 step, .int .i64 n, .int .i64 1, .int .u64 0, .int .u64 0]
@[reducible] def sketchL (A1 : Option Addr) (c1 : Nat) (A2 : Option Addr) (c2 : Nat) (s : Sketch) : List Value :=
  [.slice A1 s.hist.length c1, .slice A2 s.hashes.length c2, .int .u64 s.gauge.n, .int .u64 s.gauge.nans, .int .u64 s.gauge.lo, .int .u64 s.gauge.hi]
@[reducible] def ansL (frm : Int) (has : Bool) (v err : Int) : List Value := [.int .i64 frm, .bool has, .int .u64 v, .int .i64 err]

theorem Sl.up {α : Type} [Rep α] {w X : World} {B : Option Addr} {zs : List α} (h : Sl (fun k => k < w.heap.size) w B zs) (hb : Below w.heap.size w X) : Sl (fun k => k < X.heap.size) X B zs := (h.below hb).mono (fun k _ h => Nat.lt_of_lt_of_le h hb.size)
/-- What query.One has in hand: its ask, its sketch, its result, its 'out'. -/
structure QI (w X : World) (ask sk out : List Value) : Prop where
  ask : Blk X w.heap.size ask 31
  sk : Blk X (w.heap.size + 1) sk 44
  res : Blk X (w.heap.size + 2) (ansL 0 false 0 0) 47
  out : Blk X (w.heap.size + 3) out 47
  below : Below w.heap.size w X
section
variable {w X X' : World} {ask sk out : List Value}
theorem QI.step (h : QI w X ask sk out) (hb : Below X.heap.size X X') : QI w X' ask sk out := ⟨h.ask.below hb, h.sk.below hb, h.res.below hb, h.out.below hb, h.below.trans (hb.mono h.below.size)⟩
theorem QI.set (h : QI w X ask sk out) (i : Nat) (x : Value) : QI w (X.setCell ⟨w.heap.size + 3, i, none⟩ x) ask sk (out.set i x) := by
  have a0 : Frm (fun k => k = w.heap.size + 3) X X := Frm.refl _ X
  have a1 := a0.one rfl i x
  exact ⟨h.ask.other i x (by omega), h.sk.other i x (by omega), h.res.other i x (by omega), h.out.set i x, a1.to_below h.below (fun k _ e => by omega)⟩
theorem QI.new (w : World) (ask sk : List Value) : QI w ((((w.alloc (.cells ask.toArray 31)).alloc (.cells sk.toArray 44)).alloc (.cells (ansL 0 false 0 0).toArray 47)).alloc (.cells (ansL 0 false 0 0).toArray 47)) ask sk (ansL 0 false 0 0) := by
  have ba : ∀ (X : World) (o : Obj), Below X.heap.size X (X.alloc o) := fun X o => (Below.refl _ _).alloc (Nat.le_refl _) o
  have sa : ∀ (X : World) (o : Obj), (X.alloc o).heap.size = X.heap.size + 1 := fun X o => by simp
  have e1 := sa w (.cells ask.toArray 31)
  have n0 := Blk.new w ask 31
  have n1 := Blk.new (w.alloc (.cells ask.toArray 31)) sk 44
  have b1 := ba w (.cells ask.toArray 31)
  generalize w.alloc (.cells ask.toArray 31) = w1 at *
  have e2 := sa w1 (.cells sk.toArray 44)
  have n2 := Blk.new (w1.alloc (.cells sk.toArray 44)) (ansL 0 false 0 0) 47
  have b2 := ba w1 (.cells sk.toArray 44)
  generalize w1.alloc (.cells sk.toArray 44) = w2 at *
  have e3 := sa w2 (.cells (ansL 0 false 0 0).toArray 47)
  have n3 := Blk.new (w2.alloc (.cells (ansL 0 false 0 0).toArray 47)) (ansL 0 false 0 0) 47
  have b3 := ba w2 (.cells (ansL 0 false 0 0).toArray 47)
  generalize w2.alloc (.cells (ansL 0 false 0 0).toArray 47) = w3 at *
  have b4 := ba w3 (.cells (ansL 0 false 0 0).toArray 47)
  generalize w3.alloc (.cells (ansL 0 false 0 0).toArray 47) = w4 at *
  rw [e1] at n1
  rw [e2, e1] at n2
  rw [e3, e2, e1] at n3
  exact ⟨((n0.below b2).below b3).below b4, (n1.below b3).below b4, n2.below b4, n3, ((b1.trans (b2.mono (by omega))).trans (b3.mono (by omega))).trans (b4.mono (by omega))⟩
end

theorem QI.fin {w X : World} {ask sk out : List Value} (h : QI w X ask sk out) (v0 v1 v2 v3 : Value) :
    Blk ((((X.setCell ⟨w.heap.size + 2, 0, none⟩ v0).setCell ⟨w.heap.size + 2, 1, none⟩ v1).setCell ⟨w.heap.size + 2, 2, none⟩ v2).setCell ⟨w.heap.size + 2, 3, none⟩ v3) (w.heap.size + 2) [v0, v1, v2, v3] 47 ∧
    Below w.heap.size w ((((X.setCell ⟨w.heap.size + 2, 0, none⟩ v0).setCell ⟨w.heap.size + 2, 1, none⟩ v1).setCell ⟨w.heap.size + 2, 2, none⟩ v2).setCell ⟨w.heap.size + 2, 3, none⟩ v3) := by
  have a0 : Frm (fun k => k = w.heap.size + 2) X X := Frm.refl _ X
  exact ⟨(((h.res.set 0 v0).set 1 v1).set 2 v2).set 3 v3, ((((a0.one rfl 0 v0).one rfl 1 v1).one rfl 2 v2).one rfl 3 v3).to_below h.below (fun k _ e => by omega)⟩
/-- What query.One answers at a count v. -/
def RCount (w : World) (v : Int) (e : Ending) (w' : World) : Prop :=
  e = .returned (.agg (ansL 0 (satErr v == 0) (if satErr v = 0 then v else 0) (satErr v)).toArray) ∧ Below w.heap.size w w'

set_option maxHeartbeats 4000000 in
theorem C_One_count (A1 : Option Addr) (c1 : Nat) (A2 : Option Addr) (c2 : Nat) (s : Sketch) (start step n : Int) (w : World) (h1 : Sl (fun k => k < w.heap.size) w A1 s.hist) (h2 : Sl (fun k => k < w.heap.size) w A2 s.hashes) (hg : s.gauge.wf) (hc : pCheck s = true) :
    Calls Tryz.prog 18 #[.agg (askL start step n).toArray, .agg (sketchL A1 c1 A2 c2 s).toArray] w (RCount w (hUp (hAdd h0 s.hist) 7424)) := by
  have p0 := hc
  unfold pCheck at hc
  rw [Bool.and_eq_true, Bool.and_eq_true] at hc
  obtain ⟨⟨p1, p2⟩, p3⟩ := hc
  generalize hv : hUp (hAdd h0 s.hist) 7424 = v
  have HV := Lib.hid hv
  clear hv
  go_enter Tryz.func18, Tryz.ntmps18
  go_wp2_with fail
  obtain ⟨W, hW⟩ : ∃ W, W = ((((w.alloc (.cells (askL start step n).toArray 31)).alloc (.cells (sketchL A1 c1 A2 c2 s).toArray 44)).alloc (.cells (ansL 0 false 0 0).toArray 47)).alloc (.cells (ansL 0 false 0 0).toArray 47)) := ⟨_, rfl⟩
  have hI : QI w W (askL start step n) (sketchL A1 c1 A2 c2 s) (ansL 0 false 0 0) := hW ▸ QI.new w _ _
  show Calls _ _ _ ((((w.alloc (.cells (askL start step n).toArray 31)).alloc (.cells (sketchL A1 c1 A2 c2 s).toArray 44)).alloc (.cells (ansL 0 false 0 0).toArray 47)).alloc (.cells (ansL 0 false 0 0).toArray 47)) _
  rw [← hW]
  clear hW
  refine (C_hist_From (fun k => k < W.heap.size) A1 c1 s.hist W (h1.up hI.below) (fun k h => h) p1).mono ?_
  rintro e w1 ⟨g, rfl, hH, hgn, hb1⟩
  have hI1 := hI.step hb1
  have a1 := hI1.sk.c 1 rfl
  clear hI
  go_wp2_with fail
  refine (C_kmv_Check _ A2 c2 s.hashes w1 (h2.up hI1.below)).mono ?_
  rintro e w2 ⟨rfl, hb2⟩
  rw [p2]
  have hH2 := hH.below hb2
  have hI2 := hI1.step hb2
  have a2 := hI2.sk.c 2 rfl
  have a3 := hI2.sk.c 3 rfl
  have a4 := hI2.sk.c 4 rfl
  have a5 := hI2.sk.c 5 rfl
  clear hI1 hH a1
  go_wp2_with fail
  refine (C_gauge_Check s.gauge w2 hg).mono ?_
  rintro e w3 ⟨rfl, hb3⟩
  rw [p3]
  have hH3 := hH2.below hb3
  have hI3 := hI2.step hb3
  have a8 := hI3.ask.c 8 rfl
  clear hI2 hH2 a2 a3 a4 a5
  go_wp2_with fail
  refine (C_hist_Count g _ w3 hH3).mono ?_
  rintro e w4 ⟨rfl, rfl⟩
  have h3 := hI3
  rw [HV.out]
  obtain ⟨er, he⟩ : ∃ er, er = satErr v := ⟨_, rfl⟩
  rw [← he]
  have HE := Lib.hid he
  have o0 : w3.cell? ⟨w.heap.size + 1 + 1 + 1, 0, none⟩ = some (.int .i64 0) := hI3.out.c 0 rfl
  have o1 : w3.cell? ⟨w.heap.size + 1 + 1 + 1, 1, none⟩ = some (.bool false) := hI3.out.c 1 rfl
  have o2 : w3.cell? ⟨w.heap.size + 1 + 1 + 1, 2, none⟩ = some (.int .u64 0) := hI3.out.c 2 rfl
  have o3 : w3.cell? ⟨w.heap.size + 1 + 1 + 1, 3, none⟩ = some (.int .i64 0) := hI3.out.c 3 rfl
  have r0 : w3.cell? ⟨w.heap.size + 1 + 1, 0, none⟩ = some (.int .i64 0) := hI3.res.c 0 rfl
  have r1 : w3.cell? ⟨w.heap.size + 1 + 1, 1, none⟩ = some (.bool false) := hI3.res.c 1 rfl
  have r2 : w3.cell? ⟨w.heap.size + 1 + 1, 2, none⟩ = some (.int .u64 0) := hI3.res.c 2 rfl
  have r3 : w3.cell? ⟨w.heap.size + 1 + 1, 3, none⟩ = some (.int .i64 0) := hI3.res.c 3 rfl
  have of1 : w3.frozen? ⟨w.heap.size + 1 + 1 + 1, 1, none⟩ = false := hI3.out.f 1
  have of2 : w3.frozen? ⟨w.heap.size + 1 + 1 + 1, 2, none⟩ = false := hI3.out.f 2
  have of3 : w3.frozen? ⟨w.heap.size + 1 + 1 + 1, 3, none⟩ = false := hI3.out.f 3
  have rf0 : w3.frozen? ⟨w.heap.size + 1 + 1, 0, none⟩ = false := hI3.res.f 0
  have rf1 : w3.frozen? ⟨w.heap.size + 1 + 1, 1, none⟩ = false := hI3.res.f 1
  have rf2 : w3.frozen? ⟨w.heap.size + 1 + 1, 2, none⟩ = false := hI3.res.f 2
  have rf3 : w3.frozen? ⟨w.heap.size + 1 + 1, 3, none⟩ = false := hI3.res.f 3
  clear he hH3 a8 hI3 hb1 hb2 hb3 h1 h2 p0 p1 p2 p3
  cases he0 : (er == 0)
  · have hQ := ((((h3.set 2 (.int .u64 v)).set 3 (.int .i64 er)).set 1 (.bool false)).set 2 (.int .u64 0)).fin (.int .i64 0) (.bool false) (.int .u64 0) (.int .i64 er)
    have HQ := Lib.hid hQ
    have HE0 := Lib.hid he0
    clear hQ h3
    go_wp2_with fail
    obtain ⟨q1, q2⟩ := HQ.out
    revert q1 q2
    clear HQ o0 o1 o2 o3 r0 r1 r2 r3 of1 of2 of3 rf0 rf1 rf2 rf3
    generalize (World.setCell _ ⟨w.heap.size + 1 + 1, 3, none⟩ (.int .i64 er)) = Y
    intro q1 q2
    have k0 : Y.cell? ⟨w.heap.size + 1 + 1, 0, none⟩ = some (.int .i64 0) := q1.c 0 rfl
    have k1 : Y.cell? ⟨w.heap.size + 1 + 1, 1, none⟩ = some (.bool false) := q1.c 1 rfl
    have k2 : Y.cell? ⟨w.heap.size + 1 + 1, 2, none⟩ = some (.int .u64 0) := q1.c 2 rfl
    have k3 : Y.cell? ⟨w.heap.size + 1 + 1, 3, none⟩ = some (.int .i64 er) := q1.c 3 rfl
    refine bodyPost_ret (v := .agg (ansL 0 false 0 er).toArray) (by simp [results, Tryz.results18, go_sem, k0, k1, k2, k3]) rfl ⟨?_, q2⟩
    rw [← HE.out, HE0.out, if_neg (fun e => by have := HE0.out; rw [e] at this; cases this)]
  · have hQ := (((h3.set 2 (.int .u64 v)).set 3 (.int .i64 er)).set 1 (.bool true)).fin (.int .i64 0) (.bool true) (.int .u64 v) (.int .i64 er)
    have HQ := Lib.hid hQ
    have HE0 := Lib.hid he0
    clear hQ h3
    go_wp2_with fail
    obtain ⟨q1, q2⟩ := HQ.out
    revert q1 q2
    clear HQ o0 o1 o2 o3 r0 r1 r2 r3 of1 of2 of3 rf0 rf1 rf2 rf3
    generalize (World.setCell _ ⟨w.heap.size + 1 + 1, 3, none⟩ (.int .i64 er)) = Y
    intro q1 q2
    have k0 : Y.cell? ⟨w.heap.size + 1 + 1, 0, none⟩ = some (.int .i64 0) := q1.c 0 rfl
    have k1 : Y.cell? ⟨w.heap.size + 1 + 1, 1, none⟩ = some (.bool true) := q1.c 1 rfl
    have k2 : Y.cell? ⟨w.heap.size + 1 + 1, 2, none⟩ = some (.int .u64 v) := q1.c 2 rfl
    have k3 : Y.cell? ⟨w.heap.size + 1 + 1, 3, none⟩ = some (.int .i64 er) := q1.c 3 rfl
    refine bodyPost_ret (v := .agg (ansL 0 true v er).toArray) (by simp [results, Tryz.results18, go_sem, k0, k1, k2, k3]) rfl ⟨?_, q2⟩
    rw [← HE.out, HE0.out, if_pos (by simpa using HE0.out)]
end Go.Proofs.YtbefkiebdokbdaaGreat.V
end

section
/- query.Window at a count. -/
namespace Go.Proofs.YtbefkiebdokbdaaGreat.V
open Go.RowKit
set_option linter.unusedVariables false
set_option maxRecDepth 100000

theorem el_Sketch : ElemOf Tryz.prog 141 44 (Rep.sz Sketch) 80 := ElemOf.mk' (z := .agg #[.slice none 0 0, .slice none 0 0, .int .u64 0, .int .u64 0, .int .u64 0, .int .u64 0]) Tryz.underlying141 (by kernel_rfl) rfl
def inW (frm to : Int) (r : Row) : Bool := decide (frm ≤ r.at_) && decide (r.at_ < to)
/-- The sketches of a window. -/
def winS (frm to : Int) (l : List Row) : List Sketch := (l.filter (inW frm to)).map (·.s)
/-- The sum of sketches, as a sketch. -/
def sumS (l : List Sketch) : Sketch := ⟨hBk (sumH l) 7424, sumK l, sumG l⟩
/-- A sketch's buckets stand. -/
def HistOk (s : Sketch) : Prop := ∀ b ∈ s.hist, U64 b.n ∧ 0 ≤ b.at_ ∧ b.at_ < 7424
/-- What a window counts. -/
def cntS (l : List Sketch) : Int := hUp (hAdd h0 (hBk (sumH l) 7424)) 7424
def RWin (w : World) (frm v : Int) (e : Ending) (w' : World) : Prop :=
  e = .returned (.agg (ansL frm (satErr v == 0) (if satErr v = 0 then v else 0) (satErr v)).toArray) ∧ Below w.heap.size w w'

structure WI (w X : World) (ask : List Value) : Prop where
  ask : Blk X w.heap.size ask 31
  res : Blk X (w.heap.size + 1) (ansL 0 false 0 0) 47
  below : Below w.heap.size w X
theorem WI.step {w X X' : World} {ask : List Value} (h : WI w X ask) (hb : Below X.heap.size X X') : WI w X' ask := ⟨h.ask.below hb, h.res.below hb, h.below.trans (hb.mono h.below.size)⟩
theorem WI.frm {w X X' : World} {ask : List Value} (h : WI w X ask) (hf : Frm (fun k => w.heap.size + 2 ≤ k) X X') : WI w X' ask :=
  ⟨h.ask.frm hf (by omega), h.res.frm hf (by omega), hf.to_below h.below (fun k _ e => by omega)⟩
theorem WI.new (w : World) (ask : List Value) : WI w ((w.alloc (.cells ask.toArray 31)).alloc (.cells (ansL 0 false 0 0).toArray 47)) ask := by
  have hs : (w.alloc (.cells ask.toArray 31)).heap.size = w.heap.size + 1 := by simp
  have hr := Blk.new (w.alloc (.cells ask.toArray 31)) (ansL 0 false 0 0) 47
  rw [hs] at hr
  exact ⟨(Blk.new w ask _).below ((Below.refl _ _).alloc (Nat.le_refl _) _), hr, ((Below.refl _ _).alloc (Nat.le_refl _) _).alloc (by omega) _⟩

set_option maxHeartbeats 4000000 in
theorem C_Window_count (A : Option Addr) (cap : Nat) (xs : List Row) (start step n frm to : Int) (w : World) (hr : Sl (fun k => k < w.heap.size) w A xs) (hl : xs.length ≤ 1048576)
    (hc : ∀ r ∈ xs, pCheck r.s = true) (hg : ∀ r ∈ xs, r.s.gauge.wf) (hb : ∀ r ∈ xs, HistOk r.s) (hp : ∀ l : List Sketch, (∀ s ∈ l, HistOk s) → (∀ s ∈ l, s.gauge.wf) → (∀ s ∈ l, pCheck s = true) → pCheck (sumS l) = true ∧ (sumG l).wf) :
    Calls Tryz.prog 61 #[.agg (askL start step n).toArray, .slice A xs.length cap, .int .i64 frm, .int .i64 to] w (RWin w frm (cntS (winS frm to xs))) := by
  have hlen := hr.1
  have hP : pCheck (sumS (winS frm to xs)) = true ∧ (sumG (winS frm to xs)).wf := hp _ (fun s hs => by
    obtain ⟨r, hr, rfl⟩ := List.mem_map.1 hs
    exact hb r (List.mem_filter.1 hr).1) (fun s hs => by
    obtain ⟨r, hr, rfl⟩ := List.mem_map.1 hs
    exact hg r (List.mem_filter.1 hr).1) (fun s hs => by
    obtain ⟨r, hr, rfl⟩ := List.mem_map.1 hs
    exact hc r (List.mem_filter.1 hr).1)
  have hQ : ∀ s ∈ winS frm to xs, pCheck s = true := fun s hs => by
    obtain ⟨r, hr, rfl⟩ := List.mem_map.1 hs
    exact hc r (List.mem_filter.1 hr).1
  have HP := Lib.hid hP
  have HQ := Lib.hid hQ
  clear hP hQ hp hc hg hb
  go_enter Tryz.func61, Tryz.ntmps61
  go_wp2_with fail
  obtain ⟨W, hW⟩ : ∃ W, W = (w.alloc (.cells (askL start step n).toArray 31)).alloc (.cells (ansL 0 false 0 0).toArray 47) := ⟨_, rfl⟩
  have hI : WI w W (askL start step n) := hW ▸ WI.new w _
  have hWs : W.heap.size = w.heap.size + 2 := by rw [hW]; simp
  show Code.wp _ _ _ _ ((w.alloc (.cells (askL start step n).toArray 31)).alloc (.cells (ansL 0 false 0 0).toArray 47))
  rw [← hW]
  clear hW
  go_loopw [9, 11, 17] (fun v _ i wr => ∃ (k : Nat), k ≤ xs.length ∧ i = .int .i64 k ∧ Own wr (w.heap.size + 2) 44 v (winS frm to (xs.take k)) ∧ WI w wr (askL start step n)) (fun _ _ i _ => xs.length - (intOf i).toNat)
  case atStart => exact ⟨0, Nat.zero_le _, rfl, Own.nil _ _ _, hI⟩
  case round =>
    clear hI
    obtain ⟨k, hk, rfl, hown, hI⟩ := hrel
    by_cases hlt : k < xs.length
    · obtain ⟨b, off, A0, c0, A1, c1, A2, c2, rfl, hob, hlb, y0, y1, y2, y3, y4, y5, y6, y7, s0, hi, s1, s2, hgw, m0, m1, m2⟩ := (hr.below hI.below).row hlt
      have htk : xs.take (k + 1) = xs.take k ++ [xs[k]] := List.take_succ_eq_append_getElem hlt
      have hle : (winS frm to (xs.take k)).length ≤ k := by
        unfold winS; rw [List.length_map]
        have := List.length_filter_le (inW frm to) (xs.take k); simp at this; omega
      have hfl : winS frm to (xs.take (k + 1)) = winS frm to (xs.take k) ++ (if inW frm to xs[k] = true then [xs[k].s] else []) := by
        unfold winS
        rw [htk, List.filter_append, List.map_append]; simp only [List.filter_cons, List.filter_nil]
        split <;> rfl
      have HT := Lib.hid hfl
      clear htk hfl
      generalize winS frm to (xs.take k) = pre at *
      generalize xs[k] = r at *
      obtain ⟨W2, hW2⟩ : ∃ W2, W2 = wr.alloc (.cells (rowL A0 c0 A1 c1 A2 c2 r).toArray 67) := ⟨_, rfl⟩
      have hbW : Below wr.heap.size wr W2 := hW2 ▸ (Below.refl _ _).alloc (Nat.le_refl _) _
      have hI2 := hI.step hbW
      have hown2 := hown.below hbW
      have hBW : Blk W2 wr.heap.size (rowL A0 c0 A1 c1 A2 c2 r) 67 := hW2 ▸ Blk.new _ _ _
      by_cases ha : frm ≤ r.at_
      · by_cases hb : r.at_ < to
        · have e : inW frm to r = true := by unfold inW; simp [ha, hb]
          have HE := Lib.hid e
          clear e
          have hub : ∀ j, u9.ownBlock = some j → w.heap.size + 2 ≤ j ∧ j < wr.heap.size := fun j hj => by obtain ⟨cs, _, ho'⟩ := hown; exact ho'.lt j hj
          have hws := hI.below.size
          have hwz := hbW.size
          have hrw := hI.res.lt
          have hrow1 : Rep.rep (fun k => k < W2.heap.size ∧ some k ≠ u9.ownBlock) W2 (sketchL A1 c1 A2 c2 r.s) r.s := by
            have hf : ∀ k, k < W2.heap.size → k < w.heap.size → (k < W2.heap.size ∧ some k ≠ u9.ownBlock) := fun k h1 h2 => ⟨h1, fun e => by have := (hub k e.symm).1; omega⟩
            exact ⟨A1, c1, A2, c2, rfl, (s1.below hbW).mono hf, (s2.below hbW).mono hf, hgw, m1, m2⟩
          have hA1 : pre.length + 1 ≤ 9223372036854775807 := by omega
          have hA2 : (pre.length + 1) * 80 ≤ 140737488355328 := by omega
          have hA3 : w.heap.size + 2 ≤ W2.heap.size := by omega
          clear s0 s1 s2 hbW hBW hown hI
          have hWz : W2.heap.size = wr.heap.size + 1 := by rw [hW2]; simp
          go_wp2_with (at_builtin; rw [← hW2]; refine wpOwn_append1 (sketchL A1 c1 A2 c2 r.s) r.s rfl _ _ 141 44 44 80 (w.heap.size + 2) rfl rfl el_Sketch rfl hown2 (by rw [hWz]; rfl) hrow1 hA1 hA2 hA3 ?_)
          intro v' w3 ho2 hg2 hat2
          rw [← hW2] at hg2
          go_wp2
          go_roundw
          case rel => exact ⟨k + 1, by omega, by go_num, by rw [HT.out, HE.out]; simpa using ho2, hI2.frm ((Frm.of_grown' hg2).mono (fun k _ e => (hub _ e).1))⟩
          case measure => simp [intOf]; omega
        · have e : inW frm to r = false := by unfold inW; simp [hb]
          have HE := Lib.hid e
          clear e
          go_wp2
          rw [← hW2]
          go_roundw
          case rel => exact ⟨k + 1, by omega, by go_num, by rw [HT.out, HE.out]; simpa using hown2, hI2⟩
          case measure => simp [intOf]; omega
      · have e : inW frm to r = false := by unfold inW; simp [ha]
        have HE := Lib.hid e
        clear e
        go_wp2
        rw [← hW2]
        go_roundw
        case rel => exact ⟨k + 1, by omega, by go_num, by rw [HT.out, HE.out]; simpa using hown2, hI2⟩
        case measure => simp [intOf]; omega
    · have hkk : k = xs.length := by omega
      rw [hkk, List.take_length] at hown
      have hrw := hI.res.lt
      obtain ⟨B, c, rfl, hsl⟩ := hown.sl (by omega)
      have hq := HQ.out
      have hsumn : cntS (winS frm to xs) = hUp (hAdd h0 (sumS (winS frm to xs)).hist) 7424 := rfl
      have HCN := Lib.hid hsumn
      clear hsumn
      have hp2 := HP.out
      generalize winS frm to xs = l at *
      have HP2 := Lib.hid hp2
      have HQ2 := Lib.hid hq
      clear hp2 hq hown
      go_wp2_with fail
      refine (C_pair_Sum B c l wr hsl HQ2.out).mono ?_
      rintro e w1 ⟨A1, c1, A2, c2, v1, v2, rfl, rfl, rfl, z1, z2, m1, m2, hb1⟩
      have hI1 := hI.step hb1
      clear hI hsl
      have a0 := hI1.ask.c 0 rfl
      have a1 := hI1.ask.c 1 rfl
      have a2 := hI1.ask.c 2 rfl
      have a3 := hI1.ask.c 3 rfl
      have a4 := hI1.ask.c 4 rfl
      have a5 := hI1.ask.c 5 rfl
      have a6 := hI1.ask.c 6 rfl
      have a7 := hI1.ask.c 7 rfl
      have a8 := hI1.ask.c 8 rfl
      have a9 := hI1.ask.c 9 rfl
      have a10 := hI1.ask.c 10 rfl
      have hz1 := hb1.size
      have nea : w.heap.size ≠ w1.heap.size := by omega
      have neb : w1.heap.size ≠ w.heap.size := by omega
      have nec : w.heap.size < w1.heap.size := by omega
      go_wp2_with fail
      obtain ⟨Z, hZ⟩ : ∃ Z, Z = w1.alloc (.cells (sketchL A1 c1 A2 c2 (sumS l)).toArray 44) := ⟨_, rfl⟩
      have hbZ : Below w1.heap.size w1 Z := hZ ▸ (Below.refl _ _).alloc (Nat.le_refl _) _
      have hI2 := hI1.step hbZ
      show Calls _ _ _ (w1.alloc (.cells (sketchL A1 c1 A2 c2 (sumS l)).toArray 44)) _
      rw [← hZ]
      refine (C_One_count A1 c1 A2 c2 (sumS l) start step n Z (Sl.up z1 hbZ) (Sl.up z2 hbZ) HP2.out.2 HP2.out.1).mono ?_
      rintro e w2 ⟨rfl, hb2⟩
      rw [← HCN.out]
      have hI3 := hI2.step hb2
      have hzz := hbZ.size
      have hz2 := hb2.size
      generalize cntS l = v at *
      clear hI1 hI2 hZ hbZ z1 z2 a0 a1 a2 a3 a4 a5 a6 a7 a8 a9 a10
      obtain ⟨hs, hhs⟩ : ∃ x, x = (satErr v == 0) := ⟨_, rfl⟩
      obtain ⟨vv, hvv⟩ : ∃ x, x = (if satErr v = 0 then v else 0) := ⟨_, rfl⟩
      obtain ⟨er, her⟩ : ∃ x, x = satErr v := ⟨_, rfl⟩
      have fin : ∀ X, Below w.heap.size w X → RWin w frm v (.returned (.agg (ansL frm hs vv er).toArray)) X := fun X hb => ⟨by rw [hhs, hvv, her], hb⟩
      have FIN := Lib.hid fin
      rw [← hhs, ← hvv, ← her]
      clear fin hhs hvv her
      have r0 := hI3.res.c 0 rfl
      have r1 := hI3.res.c 1 rfl
      have r2 := hI3.res.c 2 rfl
      have r3 := hI3.res.c 3 rfl
      have f0 := hI3.res.f 0
      have f1 := hI3.res.f 1
      have f2 := hI3.res.f 2
      have f3 := hI3.res.f 3
      have ne1 : w.heap.size + 1 ≠ w2.heap.size := by omega
      have ne2 : w2.heap.size ≠ w.heap.size + 1 := by omega
      have ne3 : w.heap.size + 1 < w2.heap.size := by omega
      go_wp2_with fail
      have q1 := (((hI3.res.set 0 (.int .i64 frm)).set 1 (.bool hs)).set 2 (.int .u64 vv)).set 3 (.int .i64 er)
      have q2 := ((((Frm.refl (fun k => k = w.heap.size + 1) w2).one rfl 0 (.int .i64 frm)).one rfl 1 (.bool hs)).one rfl 2 (.int .u64 vv)).one rfl 3 (.int .i64 er)
      have q3 := q2.to_below hI3.below (fun k _ e => by omega)
      revert q1 q3
      clear q2 r0 r1 r2 r3 f0 f1 f2 f3
      generalize (World.setCell _ ⟨w.heap.size + 1, 3, none⟩ (.int .i64 er)) = Y
      intro q1 q3
      have q4 := q1.below ((Below.refl _ _).alloc (Nat.le_refl _) (.cells #[.int .i64 frm, .bool hs, .int .u64 vv, .int .i64 er] 47))
      have q5 := q3.alloc q3.size (.cells #[.int .i64 frm, .bool hs, .int .u64 vv, .int .i64 er] 47)
      clear q1 q3
      generalize Y.alloc (.cells #[.int .i64 frm, .bool hs, .int .u64 vv, .int .i64 er] 47) = X at *
      have k0 := q4.c 0 rfl
      have k1 := q4.c 1 rfl
      have k2 := q4.c 2 rfl
      have k3 := q4.c 3 rfl
      exact bodyPost_ret (v := .agg (ansL frm hs vv er).toArray) (by simp [results, Tryz.results61, go_sem, k0, k1, k2, k3]) rfl (FIN.out _ q5)
end Go.Proofs.YtbefkiebdokbdaaGreat.V
end

section
/- varvelaw23.told$1: the first answer laid. -/
namespace Go.Proofs.YtbefkiebdokbdaaGreat.V
open Go.RowKit
set_option linter.unusedVariables false
set_option maxRecDepth 100000

theorem el_Answer : ElemOf Tryz.prog 58 47 (Rep.sz Answer) 32 := ElemOf.mk' (z := .agg #[.int .i64 0, .bool false, .int .u64 0, .int .i64 0]) Tryz.underlying58 (by kernel_rfl) rfl

set_option maxHeartbeats 2000000 in
/-- The closure that told hands on, at the first answer: the list lies in block bl, its bound in block bm. -/
theorem C_told1 (bl bm : Nat) (a : Answer) (m : Int) (tl : Nat) (w : World) (ha : a.wf) (hl : Blk w bl [.slice none 0 0] tl) (hm : w.cell? ⟨bm, 0, none⟩ = some (.int .i64 m)) (hne : bl ≠ bm) (h1 : 1 < m) :
    Calls Tryz.prog 62 #[.agg (encAnswer a).toArray, .pointer (some ⟨bl, 0, none⟩), .pointer (some ⟨bm, 0, none⟩)] w fun e w' => e = .returned (.bool true) ∧
      ∃ B c, Blk w' bl [.slice B 1 c] tl ∧ Sl (fun k => w.heap.size ≤ k) w' B [a] ∧ Frm (fun k => k = bl) w w' := by
  have hbl := hl.lt
  have hbm : bm < w.heap.size := by
    by_cases h : bm < w.heap.size
    · exact h
    · have : w.heap[bm]? = none := by rw [Array.getElem?_eq_none_iff]; omega
      simp [World.cell?, this] at hm
  have x0 := hl.c 0 rfl
  have xf := hl.f 0
  have n1 : bl ≠ w.heap.size := by omega
  have n2 : bm ≠ w.heap.size := by omega
  have n3 : w.heap.size ≠ bl := by omega
  have n4 : w.heap.size ≠ bm := by omega
  unfold encAnswer
  go_enter Tryz.func62, Tryz.ntmps62
  go_wp2_with (at_builtin; (refine wpOwn_append1 (encAnswer a) a rfl _ _ 58 47 47 32 (w.heap.size + 1) rfl rfl el_Answer (xs := []) rfl (Own.nil _ _ _) (by rw [World.size_alloc]; rfl) ⟨rfl, ha⟩ (by simp) (by simp) (by simp) ?_))
  intro v' w1 ho1 hg1 hat
  obtain ⟨B, c, rfl, hsl⟩ := ho1.sl (by have := hg1.size; simp at this; omega)
  obtain ⟨W, hW⟩ : ∃ W, W = w.alloc (.cells (encAnswer a).toArray 47) := ⟨_, rfl⟩
  have hbW : Below w.heap.size w W := hW ▸ (Below.refl _ _).alloc (Nat.le_refl _) _
  have hg1' : W.grownBy w1 (Value.ownBlock (.slice none 0 0)) := by rw [hW]; exact hg1
  have hf1 : Frm (fun _ => False) w w1 := (Frm.of_below hbW).trans ⟨hg1'.os, hg1'.tape, hg1'.output, hg1'.size, fun k hk _ => hg1'.block k hk (fun e => by cases e)⟩
  have hl1 := hl.frm hf1 (fun h => h)
  have y0 := hl1.c 0 rfl
  have yf := hl1.f 0
  have hm1 : w1.cell? ⟨bm, 0, none⟩ = some (.int .i64 m) := fcell hf1 (fun h => h) hm
  clear x0 xf hm hg1 hg1' hbW hW
  have hfl := ho1.flat (w' := w1.setCell ⟨bl, 0, none⟩ (.slice B 1 c)) (fun _ _ _ _ _ _ h => h) (((Frm.refl (fun k => k = bl) w1).one rfl 0 (.slice B 1 c)).mono (fun k _ e => by omega))
  have hset := hl1.set 0 (.slice B 1 c)
  have hfin := (hf1.mono (S' := fun k => k = bl) (fun _ _ h => h.elim)).one rfl 0 (.slice B 1 c)
  clear hf1 hl1
  go_wp2
  go_ret
  exact ⟨rfl, B, c, hset, hfl.mono (fun k _ h => by omega), hfin⟩

theorem C_Windows (start step n : Int) (w : World) :
    Calls Tryz.prog 60 #[.int .i64 start, .int .i64 step, .int .i64 n] w fun e w' => e = .returned (.func (.func 95) #[] #[.pointer (some ⟨w.heap.size + 1, 0, none⟩), .pointer (some ⟨w.heap.size + 2, 0, none⟩), .pointer (some ⟨w.heap.size, 0, none⟩)]) ∧
      Blk w' w.heap.size [.int .i64 start] 3 ∧ Blk w' (w.heap.size + 1) [.int .i64 step] 3 ∧ Blk w' (w.heap.size + 2) [.int .i64 n] 3 ∧ Below w.heap.size w w' ∧ w'.heap.size = w.heap.size + 3 := by
  go_enter Tryz.func60, Tryz.ntmps60
  go_wp2
  go_ret
  have ba : ∀ (X : World) (o : Obj), Below X.heap.size X (X.alloc o) := fun X o => (Below.refl _ _).alloc (Nat.le_refl _) o
  have s1 : (w.alloc (.cells #[.int .i64 start] 3)).heap.size = w.heap.size + 1 := by simp
  have s2 : ((w.alloc (.cells #[.int .i64 start] 3)).alloc (.cells #[.int .i64 step] 3)).heap.size = w.heap.size + 2 := by simp
  have n0 := Blk.new w [.int .i64 start] 3
  have n1 := Blk.new (w.alloc (.cells #[.int .i64 start] 3)) [.int .i64 step] 3
  have n2 := Blk.new ((w.alloc (.cells #[.int .i64 start] 3)).alloc (.cells #[.int .i64 step] 3)) [.int .i64 n] 3
  rw [s1] at n1
  rw [s2] at n2
  exact ⟨rfl, (n0.below (ba _ _)).below (ba _ _), n1.below (ba _ _), n2, (((Below.refl _ _).alloc (Nat.le_refl _) _).alloc (by omega) _).alloc (by omega) _, by simp⟩
end Go.Proofs.YtbefkiebdokbdaaGreat.V
end
