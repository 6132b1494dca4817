/- query.One at a count. -/
import Derived.Test.YtbefkiebdokbdaaGreatMeant0
namespace Go.Proofs.YtbefkiebdokbdaaGreat.V
open Go.RowKit
set_option linter.unusedVariables false
set_option maxRecDepth 100000

/-- An Ask for a count, as cells. -/
@[reducible] def askL (start step n : Int) : List Value := mz ++ [.int .i64 start, .int .i64 step, .int .i64 n, .int .i64 1, .int .u64 0, .int .u64 0]
@[reducible] def sketchL (A1 : Option Addr) (c1 : Nat) (A2 : Option Addr) (c2 : Nat) (s : Sketch) : List Value :=
  [.slice A1 s.hist.length c1, .slice A2 s.hashes.length c2, .int .u64 s.gauge.n, .int .u64 s.gauge.nans, .int .u64 s.gauge.lo, .int .u64 s.gauge.hi]
@[reducible] def ansL (frm : Int) (has : Bool) (v err : Int) : List Value := [.int .i64 frm, .bool has, .int .u64 v, .int .i64 err]

theorem Sl.up {α : Type} [Rep α] {w X : World} {B : Option Addr} {zs : List α} (h : Sl (fun k => k < w.heap.size) w B zs) (hb : Below w.heap.size w X) : Sl (fun k => k < X.heap.size) X B zs := (h.below hb).mono (fun k _ h => Nat.lt_of_lt_of_le h hb.size)
/-- What query.One has in hand: its ask, its sketch, its result, its 'out'. -/
structure QI (w X : World) (ask sk out : List Value) : Prop where
  ask : Blk X w.heap.size ask 31
  sk : Blk X (w.heap.size + 1) sk 44
  res : Blk X (w.heap.size + 2) (ansL 0 false 0 0) 47
  out : Blk X (w.heap.size + 3) out 47
  below : Below w.heap.size w X
section
variable {w X X' : World} {ask sk out : List Value}
theorem QI.step (h : QI w X ask sk out) (hb : Below X.heap.size X X') : QI w X' ask sk out := ⟨h.ask.below hb, h.sk.below hb, h.res.below hb, h.out.below hb, h.below.trans (hb.mono h.below.size)⟩
theorem QI.set (h : QI w X ask sk out) (i : Nat) (x : Value) : QI w (X.setCell ⟨w.heap.size + 3, i, none⟩ x) ask sk (out.set i x) := by
  have a0 : Frm (fun k => k = w.heap.size + 3) X X := Frm.refl _ X
  have a1 := a0.one rfl i x
  exact ⟨h.ask.other i x (by omega), h.sk.other i x (by omega), h.res.other i x (by omega), h.out.set i x, a1.to_below h.below (fun k _ e => by omega)⟩
theorem QI.new (w : World) (ask sk : List Value) : QI w ((((w.alloc (.cells ask.toArray 31)).alloc (.cells sk.toArray 44)).alloc (.cells (ansL 0 false 0 0).toArray 47)).alloc (.cells (ansL 0 false 0 0).toArray 47)) ask sk (ansL 0 false 0 0) := by
  have ba : ∀ (X : World) (o : Obj), Below X.heap.size X (X.alloc o) := fun X o => (Below.refl _ _).alloc (Nat.le_refl _) o
  have sa : ∀ (X : World) (o : Obj), (X.alloc o).heap.size = X.heap.size + 1 := fun X o => by simp
  have e1 := sa w (.cells ask.toArray 31)
  have n0 := Blk.new w ask 31
  have n1 := Blk.new (w.alloc (.cells ask.toArray 31)) sk 44
  have b1 := ba w (.cells ask.toArray 31)
  generalize w.alloc (.cells ask.toArray 31) = w1 at *
  have e2 := sa w1 (.cells sk.toArray 44)
  have n2 := Blk.new (w1.alloc (.cells sk.toArray 44)) (ansL 0 false 0 0) 47
  have b2 := ba w1 (.cells sk.toArray 44)
  generalize w1.alloc (.cells sk.toArray 44) = w2 at *
  have e3 := sa w2 (.cells (ansL 0 false 0 0).toArray 47)
  have n3 := Blk.new (w2.alloc (.cells (ansL 0 false 0 0).toArray 47)) (ansL 0 false 0 0) 47
  have b3 := ba w2 (.cells (ansL 0 false 0 0).toArray 47)
  generalize w2.alloc (.cells (ansL 0 false 0 0).toArray 47) = w3 at *
  have b4 := ba w3 (.cells (ansL 0 false 0 0).toArray 47)
  generalize w3.alloc (.cells (ansL 0 false 0 0).toArray 47) = w4 at *
  rw [e1] at n1
  rw [e2, e1] at n2
  rw [e3, e2, e1] at n3
  exact ⟨((n0.below b2).below b3).below b4, (n1.below b3).below b4, n2.below b4, n3, ((b1.trans (b2.mono (by omega))).trans (b3.mono (by omega))).trans (b4.mono (by omega))⟩
end

theorem QI.fin {w X : World} {ask sk out : List Value} (h : QI w X ask sk out) (v0 v1 v2 v3 : Value) :
    Blk ((((X.setCell ⟨w.heap.size + 2, 0, none⟩ v0).setCell ⟨w.heap.size + 2, 1, none⟩ v1).setCell ⟨w.heap.size + 2, 2, none⟩ v2).setCell ⟨w.heap.size + 2, 3, none⟩ v3) (w.heap.size + 2) [v0, v1, v2, v3] 47 ∧
    Below w.heap.size w ((((X.setCell ⟨w.heap.size + 2, 0, none⟩ v0).setCell ⟨w.heap.size + 2, 1, none⟩ v1).setCell ⟨w.heap.size + 2, 2, none⟩ v2).setCell ⟨w.heap.size + 2, 3, none⟩ v3) := by
  have a0 : Frm (fun k => k = w.heap.size + 2) X X := Frm.refl _ X
  exact ⟨(((h.res.set 0 v0).set 1 v1).set 2 v2).set 3 v3, ((((a0.one rfl 0 v0).one rfl 1 v1).one rfl 2 v2).one rfl 3 v3).to_below h.below (fun k _ e => by omega)⟩
/-- What query.One answers at a count v. -/
def RCount (w : World) (v : Int) (e : Ending) (w' : World) : Prop :=
  e = .returned (.agg (ansL 0 (satErr v == 0) (if satErr v = 0 then v else 0) (satErr v)).toArray) ∧ Below w.heap.size w w'

set_option maxHeartbeats 4000000 in
theorem C_One_count (A1 : Option Addr) (c1 : Nat) (A2 : Option Addr) (c2 : Nat) (s : Sketch) (start step n : Int) (w : World) (h1 : Sl (fun k => k < w.heap.size) w A1 s.hist) (h2 : Sl (fun k => k < w.heap.size) w A2 s.hashes) (hg : s.gauge.wf) (hc : pCheck s = true) :
    Calls Tryz.prog 18 #[.agg (askL start step n).toArray, .agg (sketchL A1 c1 A2 c2 s).toArray] w (RCount w (hUp (hAdd h0 s.hist) 7424)) := by
  have p0 := hc
  unfold pCheck at hc
  rw [Bool.and_eq_true, Bool.and_eq_true] at hc
  obtain ⟨⟨p1, p2⟩, p3⟩ := hc
  generalize hv : hUp (hAdd h0 s.hist) 7424 = v
  have HV := Lib.hid hv
  clear hv
  go_enter Tryz.func18, Tryz.ntmps18
  go_wp2_with fail
  obtain ⟨W, hW⟩ : ∃ W, W = ((((w.alloc (.cells (askL start step n).toArray 31)).alloc (.cells (sketchL A1 c1 A2 c2 s).toArray 44)).alloc (.cells (ansL 0 false 0 0).toArray 47)).alloc (.cells (ansL 0 false 0 0).toArray 47)) := ⟨_, rfl⟩
  have hI : QI w W (askL start step n) (sketchL A1 c1 A2 c2 s) (ansL 0 false 0 0) := hW ▸ QI.new w _ _
  show Calls _ _ _ ((((w.alloc (.cells (askL start step n).toArray 31)).alloc (.cells (sketchL A1 c1 A2 c2 s).toArray 44)).alloc (.cells (ansL 0 false 0 0).toArray 47)).alloc (.cells (ansL 0 false 0 0).toArray 47)) _
  rw [← hW]
  clear hW
  refine (C_hist_From (fun k => k < W.heap.size) A1 c1 s.hist W (h1.up hI.below) (fun k h => h) p1).mono ?_
  rintro e w1 ⟨g, rfl, hH, hgn, hb1⟩
  have hI1 := hI.step hb1
  have a1 := hI1.sk.c 1 rfl
  clear hI
  go_wp2_with fail
  refine (C_kmv_Check _ A2 c2 s.hashes w1 (h2.up hI1.below)).mono ?_
  rintro e w2 ⟨rfl, hb2⟩
  rw [p2]
  have hH2 := hH.below hb2
  have hI2 := hI1.step hb2
  have a2 := hI2.sk.c 2 rfl
  have a3 := hI2.sk.c 3 rfl
  have a4 := hI2.sk.c 4 rfl
  have a5 := hI2.sk.c 5 rfl
  clear hI1 hH a1
  go_wp2_with fail
  refine (C_gauge_Check s.gauge w2 hg).mono ?_
  rintro e w3 ⟨rfl, hb3⟩
  rw [p3]
  have hH3 := hH2.below hb3
  have hI3 := hI2.step hb3
  have a8 := hI3.ask.c 8 rfl
  clear hI2 hH2 a2 a3 a4 a5
  go_wp2_with fail
  refine (C_hist_Count g _ w3 hH3).mono ?_
  rintro e w4 ⟨rfl, rfl⟩
  have h3 := hI3
  rw [HV.out]
  obtain ⟨er, he⟩ : ∃ er, er = satErr v := ⟨_, rfl⟩
  rw [← he]
  have HE := Lib.hid he
  have o0 : w3.cell? ⟨w.heap.size + 1 + 1 + 1, 0, none⟩ = some (.int .i64 0) := hI3.out.c 0 rfl
  have o1 : w3.cell? ⟨w.heap.size + 1 + 1 + 1, 1, none⟩ = some (.bool false) := hI3.out.c 1 rfl
  have o2 : w3.cell? ⟨w.heap.size + 1 + 1 + 1, 2, none⟩ = some (.int .u64 0) := hI3.out.c 2 rfl
  have o3 : w3.cell? ⟨w.heap.size + 1 + 1 + 1, 3, none⟩ = some (.int .i64 0) := hI3.out.c 3 rfl
  have r0 : w3.cell? ⟨w.heap.size + 1 + 1, 0, none⟩ = some (.int .i64 0) := hI3.res.c 0 rfl
  have r1 : w3.cell? ⟨w.heap.size + 1 + 1, 1, none⟩ = some (.bool false) := hI3.res.c 1 rfl
  have r2 : w3.cell? ⟨w.heap.size + 1 + 1, 2, none⟩ = some (.int .u64 0) := hI3.res.c 2 rfl
  have r3 : w3.cell? ⟨w.heap.size + 1 + 1, 3, none⟩ = some (.int .i64 0) := hI3.res.c 3 rfl
  have of1 : w3.frozen? ⟨w.heap.size + 1 + 1 + 1, 1, none⟩ = false := hI3.out.f 1
  have of2 : w3.frozen? ⟨w.heap.size + 1 + 1 + 1, 2, none⟩ = false := hI3.out.f 2
  have of3 : w3.frozen? ⟨w.heap.size + 1 + 1 + 1, 3, none⟩ = false := hI3.out.f 3
  have rf0 : w3.frozen? ⟨w.heap.size + 1 + 1, 0, none⟩ = false := hI3.res.f 0
  have rf1 : w3.frozen? ⟨w.heap.size + 1 + 1, 1, none⟩ = false := hI3.res.f 1
  have rf2 : w3.frozen? ⟨w.heap.size + 1 + 1, 2, none⟩ = false := hI3.res.f 2
  have rf3 : w3.frozen? ⟨w.heap.size + 1 + 1, 3, none⟩ = false := hI3.res.f 3
  clear he hH3 a8 hI3 hb1 hb2 hb3 h1 h2 p0 p1 p2 p3
  cases he0 : (er == 0)
  · have hQ := ((((h3.set 2 (.int .u64 v)).set 3 (.int .i64 er)).set 1 (.bool false)).set 2 (.int .u64 0)).fin (.int .i64 0) (.bool false) (.int .u64 0) (.int .i64 er)
    have HQ := Lib.hid hQ
    have HE0 := Lib.hid he0
    clear hQ h3
    go_wp2_with fail
    obtain ⟨q1, q2⟩ := HQ.out
    revert q1 q2
    clear HQ o0 o1 o2 o3 r0 r1 r2 r3 of1 of2 of3 rf0 rf1 rf2 rf3
    generalize (World.setCell _ ⟨w.heap.size + 1 + 1, 3, none⟩ (.int .i64 er)) = Y
    intro q1 q2
    have k0 : Y.cell? ⟨w.heap.size + 1 + 1, 0, none⟩ = some (.int .i64 0) := q1.c 0 rfl
    have k1 : Y.cell? ⟨w.heap.size + 1 + 1, 1, none⟩ = some (.bool false) := q1.c 1 rfl
    have k2 : Y.cell? ⟨w.heap.size + 1 + 1, 2, none⟩ = some (.int .u64 0) := q1.c 2 rfl
    have k3 : Y.cell? ⟨w.heap.size + 1 + 1, 3, none⟩ = some (.int .i64 er) := q1.c 3 rfl
    refine bodyPost_ret (v := .agg (ansL 0 false 0 er).toArray) (by simp [results, Tryz.results18, go_sem, k0, k1, k2, k3]) rfl ⟨?_, q2⟩
    rw [← HE.out, HE0.out, if_neg (fun e => by have := HE0.out; rw [e] at this; cases this)]
  · have hQ := (((h3.set 2 (.int .u64 v)).set 3 (.int .i64 er)).set 1 (.bool true)).fin (.int .i64 0) (.bool true) (.int .u64 v) (.int .i64 er)
    have HQ := Lib.hid hQ
    have HE0 := Lib.hid he0
    clear hQ h3
    go_wp2_with fail
    obtain ⟨q1, q2⟩ := HQ.out
    revert q1 q2
    clear HQ o0 o1 o2 o3 r0 r1 r2 r3 of1 of2 of3 rf0 rf1 rf2 rf3
    generalize (World.setCell _ ⟨w.heap.size + 1 + 1, 3, none⟩ (.int .i64 er)) = Y
    intro q1 q2
    have k0 : Y.cell? ⟨w.heap.size + 1 + 1, 0, none⟩ = some (.int .i64 0) := q1.c 0 rfl
    have k1 : Y.cell? ⟨w.heap.size + 1 + 1, 1, none⟩ = some (.bool true) := q1.c 1 rfl
    have k2 : Y.cell? ⟨w.heap.size + 1 + 1, 2, none⟩ = some (.int .u64 v) := q1.c 2 rfl
    have k3 : Y.cell? ⟨w.heap.size + 1 + 1, 3, none⟩ = some (.int .i64 er) := q1.c 3 rfl
    refine bodyPost_ret (v := .agg (ansL 0 true v er).toArray) (by simp [results, Tryz.results18, go_sem, k0, k1, k2, k3]) rfl ⟨?_, q2⟩
    rw [← HE.out, HE0.out, if_pos (by simpa using HE0.out)]
end Go.Proofs.YtbefkiebdokbdaaGreat.V
