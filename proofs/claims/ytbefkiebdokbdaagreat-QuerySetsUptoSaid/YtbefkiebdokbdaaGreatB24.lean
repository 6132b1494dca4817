/- Part 24 of the proof: OneG. -/
import Derived.Test.YtbefkiebdokbdaaGreatB16

section
/- query.One at a count, whatever else its question's cells hold. -/
namespace Go.Proofs.YtbefkiebdokbdaaGreat.V
open Go.RowKit
set_option linter.unusedVariables false
set_option maxRecDepth 100000

set_option maxHeartbeats 4000000 in
theorem C_One_cG (a0 a1 a2 a3 a4 a5 a6 a7 a9 a10 : Value) (A1 : Option Addr) (c1 : Nat) (A2 : Option Addr) (c2 : Nat) (s : Sketch) (w : World) (h1 : Sl (fun k => k < w.heap.size) w A1 s.hist) (h2 : Sl (fun k => k < w.heap.size) w A2 s.hashes) (hg : s.gauge.wf) (hc : pCheck s = true) :
    Calls Tryz.prog 18 #[.agg #[a0, a1, a2, a3, a4, a5, a6, a7, .int .i64 1, a9, a10], .agg (sketchL A1 c1 A2 c2 s).toArray] w (RCount w (hUp (hAdd h0 s.hist) 7424)) := by
  have p0 := hc
  unfold pCheck at hc
  rw [Bool.and_eq_true, Bool.and_eq_true] at hc
  obtain ⟨⟨p1, p2⟩, p3⟩ := hc
  generalize hv : hUp (hAdd h0 s.hist) 7424 = v
  have HV := Lib.hid hv
  clear hv
  go_enter Tryz.func18, Tryz.ntmps18
  go_wp2_with fail
  obtain ⟨W, hW⟩ : ∃ W, W = ((((w.alloc (.cells (#[a0, a1, a2, a3, a4, a5, a6, a7, .int .i64 1, a9, a10] : Array Value) 31)).alloc (.cells (sketchL A1 c1 A2 c2 s).toArray 44)).alloc (.cells (ansL 0 false 0 0).toArray 47)).alloc (.cells (ansL 0 false 0 0).toArray 47)) := ⟨_, rfl⟩
  have hI : QI w W [a0, a1, a2, a3, a4, a5, a6, a7, .int .i64 1, a9, a10] (sketchL A1 c1 A2 c2 s) (ansL 0 false 0 0) := hW ▸ QI.new w _ _
  show Calls _ _ _ ((((w.alloc (.cells (#[a0, a1, a2, a3, a4, a5, a6, a7, .int .i64 1, a9, a10] : Array Value) 31)).alloc (.cells (sketchL A1 c1 A2 c2 s).toArray 44)).alloc (.cells (ansL 0 false 0 0).toArray 47)).alloc (.cells (ansL 0 false 0 0).toArray 47)) _
  rw [← hW]
  clear hW
  refine (C_hist_From (fun k => k < W.heap.size) A1 c1 s.hist W (h1.up hI.below) (fun k h => h) p1).mono ?_
  rintro e w1 ⟨g, rfl, hH, hgn, hb1⟩
  have hI1 := hI.step hb1
  have qa1 := hI1.sk.c 1 rfl
  clear hI
  go_wp2_with fail
  refine (C_kmv_Check _ A2 c2 s.hashes w1 (h2.up hI1.below)).mono ?_
  rintro e w2 ⟨rfl, hb2⟩
  rw [p2]
  have hH2 := hH.below hb2
  have hI2 := hI1.step hb2
  have qa2 := hI2.sk.c 2 rfl
  have qa3 := hI2.sk.c 3 rfl
  have qa4 := hI2.sk.c 4 rfl
  have qa5 := hI2.sk.c 5 rfl
  clear hI1 hH qa1
  go_wp2_with fail
  refine (C_gauge_Check s.gauge w2 hg).mono ?_
  rintro e w3 ⟨rfl, hb3⟩
  rw [p3]
  have hH3 := hH2.below hb3
  have hI3 := hI2.step hb3
  have qa8 := hI3.ask.c 8 rfl
  clear hI2 hH2 qa2 qa3 qa4 qa5
  go_wp2_with fail
  refine (C_hist_Count g _ w3 hH3).mono ?_
  rintro e w4 ⟨rfl, rfl⟩
  have h3 := hI3
  rw [HV.out]
  obtain ⟨er, he⟩ : ∃ er, er = satErr v := ⟨_, rfl⟩
  rw [← he]
  have HE := Lib.hid he
  have o0 : w3.cell? ⟨w.heap.size + 1 + 1 + 1, 0, none⟩ = some (.int .i64 0) := hI3.out.c 0 rfl
  have o1 : w3.cell? ⟨w.heap.size + 1 + 1 + 1, 1, none⟩ = some (.bool false) := hI3.out.c 1 rfl
  have o2 : w3.cell? ⟨w.heap.size + 1 + 1 + 1, 2, none⟩ = some (.int .u64 0) := hI3.out.c 2 rfl
  have o3 : w3.cell? ⟨w.heap.size + 1 + 1 + 1, 3, none⟩ = some (.int .i64 0) := hI3.out.c 3 rfl
  have r0 : w3.cell? ⟨w.heap.size + 1 + 1, 0, none⟩ = some (.int .i64 0) := hI3.res.c 0 rfl
  have r1 : w3.cell? ⟨w.heap.size + 1 + 1, 1, none⟩ = some (.bool false) := hI3.res.c 1 rfl
  have r2 : w3.cell? ⟨w.heap.size + 1 + 1, 2, none⟩ = some (.int .u64 0) := hI3.res.c 2 rfl
  have r3 : w3.cell? ⟨w.heap.size + 1 + 1, 3, none⟩ = some (.int .i64 0) := hI3.res.c 3 rfl
  have of1 : w3.frozen? ⟨w.heap.size + 1 + 1 + 1, 1, none⟩ = false := hI3.out.f 1
  have of2 : w3.frozen? ⟨w.heap.size + 1 + 1 + 1, 2, none⟩ = false := hI3.out.f 2
  have of3 : w3.frozen? ⟨w.heap.size + 1 + 1 + 1, 3, none⟩ = false := hI3.out.f 3
  have rf0 : w3.frozen? ⟨w.heap.size + 1 + 1, 0, none⟩ = false := hI3.res.f 0
  have rf1 : w3.frozen? ⟨w.heap.size + 1 + 1, 1, none⟩ = false := hI3.res.f 1
  have rf2 : w3.frozen? ⟨w.heap.size + 1 + 1, 2, none⟩ = false := hI3.res.f 2
  have rf3 : w3.frozen? ⟨w.heap.size + 1 + 1, 3, none⟩ = false := hI3.res.f 3
  clear he hH3 qa8 hI3 hb1 hb2 hb3 h1 h2 p0 p1 p2 p3
  cases he0 : (er == 0)
  · have hQ := ((((h3.set 2 (.int .u64 v)).set 3 (.int .i64 er)).set 1 (.bool false)).set 2 (.int .u64 0)).fin (.int .i64 0) (.bool false) (.int .u64 0) (.int .i64 er)
    have HQ := Lib.hid hQ
    have HE0 := Lib.hid he0
    clear hQ h3
    go_wp2_with fail
    obtain ⟨q1, q2⟩ := HQ.out
    revert q1 q2
    clear HQ o0 o1 o2 o3 r0 r1 r2 r3 of1 of2 of3 rf0 rf1 rf2 rf3
    generalize (World.setCell _ ⟨w.heap.size + 1 + 1, 3, none⟩ (.int .i64 er)) = Y
    intro q1 q2
    have k0 : Y.cell? ⟨w.heap.size + 1 + 1, 0, none⟩ = some (.int .i64 0) := q1.c 0 rfl
    have k1 : Y.cell? ⟨w.heap.size + 1 + 1, 1, none⟩ = some (.bool false) := q1.c 1 rfl
    have k2 : Y.cell? ⟨w.heap.size + 1 + 1, 2, none⟩ = some (.int .u64 0) := q1.c 2 rfl
    have k3 : Y.cell? ⟨w.heap.size + 1 + 1, 3, none⟩ = some (.int .i64 er) := q1.c 3 rfl
    refine bodyPost_ret (v := .agg (ansL 0 false 0 er).toArray) (by simp [results, Tryz.results18, go_sem, k0, k1, k2, k3]) rfl ⟨?_, q2⟩
    rw [← HE.out, HE0.out, if_neg (fun e => by have := HE0.out; rw [e] at this; cases this)]
  · have hQ := (((h3.set 2 (.int .u64 v)).set 3 (.int .i64 er)).set 1 (.bool true)).fin (.int .i64 0) (.bool true) (.int .u64 v) (.int .i64 er)
    have HQ := Lib.hid hQ
    have HE0 := Lib.hid he0
    clear hQ h3
    go_wp2_with fail
    obtain ⟨q1, q2⟩ := HQ.out
    revert q1 q2
    clear HQ o0 o1 o2 o3 r0 r1 r2 r3 of1 of2 of3 rf0 rf1 rf2 rf3
    generalize (World.setCell _ ⟨w.heap.size + 1 + 1, 3, none⟩ (.int .i64 er)) = Y
    intro q1 q2
    have k0 : Y.cell? ⟨w.heap.size + 1 + 1, 0, none⟩ = some (.int .i64 0) := q1.c 0 rfl
    have k1 : Y.cell? ⟨w.heap.size + 1 + 1, 1, none⟩ = some (.bool true) := q1.c 1 rfl
    have k2 : Y.cell? ⟨w.heap.size + 1 + 1, 2, none⟩ = some (.int .u64 v) := q1.c 2 rfl
    have k3 : Y.cell? ⟨w.heap.size + 1 + 1, 3, none⟩ = some (.int .i64 er) := q1.c 3 rfl
    refine bodyPost_ret (v := .agg (ansL 0 true v er).toArray) (by simp [results, Tryz.results18, go_sem, k0, k1, k2, k3]) rfl ⟨?_, q2⟩
    rw [← HE.out, HE0.out, if_pos (by simpa using HE0.out)]
end Go.Proofs.YtbefkiebdokbdaaGreat.V
end
