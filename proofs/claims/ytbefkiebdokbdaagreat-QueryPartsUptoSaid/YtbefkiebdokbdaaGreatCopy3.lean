/- varvelaw00.Row, Rows: rows copied. -/
import Derived.Test.YtbefkiebdokbdaaGreatCopy2
namespace Go.Proofs.YtbefkiebdokbdaaGreat.V
open Go.RowKit
set_option linter.unusedVariables false
set_option maxRecDepth 100000

/-- Six cells laid into a block from place 2 on. -/
theorem CopI.set6 {w X : World} {P Z : List Value} {t : Nat} (h : CopI w X P Z t) (v0 v1 v2 v3 v4 v5 : Value) :
    CopI w ((((((X.setCell ⟨w.heap.size, 2, none⟩ v0).setCell ⟨w.heap.size, 3, none⟩ v1).setCell ⟨w.heap.size, 4, none⟩ v2).setCell ⟨w.heap.size, 5, none⟩ v3).setCell ⟨w.heap.size, 6, none⟩ v4).setCell ⟨w.heap.size, 7, none⟩ v5)
      ((((((P.set 2 v0).set 3 v1).set 4 v2).set 5 v3).set 6 v4).set 7 v5) Z t :=
  (((((h.set 2 v0).set 3 v1).set 4 v2).set 5 v3).set 6 v4).set 7 v5
theorem Frm.set6 {S : Nat → Prop} {w w' : World} (h : Frm S w w') {b : Nat} (hb : S b) (v0 v1 v2 v3 v4 v5 : Value) :
    Frm S w ((((((w'.setCell ⟨b, 2, none⟩ v0).setCell ⟨b, 3, none⟩ v1).setCell ⟨b, 4, none⟩ v2).setCell ⟨b, 5, none⟩ v3).setCell ⟨b, 6, none⟩ v4).setCell ⟨b, 7, none⟩ v5) :=
  (((((h.one hb 2 v0).one hb 3 v1).one hb 4 v2).one hb 5 v3).one hb 6 v4).one hb 7 v5

set_option maxHeartbeats 2000000 in
theorem C_v_Row (A0 : Option Addr) (c0 : Nat) (A1 : Option Addr) (c1 : Nat) (A2 : Option Addr) (c2 : Nat) (r : Row) (w : World) (h0 : Sl (fun k => k < w.heap.size) w A0 r.labels) (h1 : Sl (fun k => k < w.heap.size) w A1 r.s.hist) (h2 : Sl (fun k => k < w.heap.size) w A2 r.s.hashes) (hi : I64 r.at_) (hg : r.s.gauge.wf)
    (n0 : A0 = none → c0 = 0) (n1 : A1 = none → c1 = 0) (n2 : A2 = none → c2 = 0) (l0 : r.labels.length ≤ 1048576) (l1 : r.s.hist.length ≤ 1048576) (l2 : r.s.hashes.length ≤ 1048576) :
    Calls Tryz.prog 56 #[.agg (rowL A0 c0 A1 c1 A2 c2 r).toArray] w fun e w' => ∃ B0 d0 B1 d1 B2 d2, e = .returned (.agg (rowL B0 d0 B1 d1 B2 d2 r).toArray) ∧ RowRep (fun k => w.heap.size ≤ k) w' (rowL B0 d0 B1 d1 B2 d2 r) r ∧ Below w.heap.size w w' := by
  go_enter Tryz.func56, Tryz.ntmps56
  go_wp2_with fail
  obtain ⟨W, hW⟩ : ∃ W, W = (w.alloc (.cells (rowL A0 c0 A1 c1 A2 c2 r).toArray 67)).alloc (.cells rowZ.toArray 67) := ⟨_, rfl⟩
  have hI : CopI w W (rowL A0 c0 A1 c1 A2 c2 r) rowZ 67 := hW ▸ CopI.new w _ _ _
  have hWs : W.heap.size = w.heap.size + 2 := by rw [hW]; simp
  show Calls _ _ _ ((w.alloc (.cells (rowL A0 c0 A1 c1 A2 c2 r).toArray 67)).alloc (.cells rowZ.toArray 67)) _
  rw [← hW]
  clear hW
  refine (C_v_Labels A0 c0 r.labels _ ((h0.below hI.below).mono (fun k _ h => by omega)) n0 l0).mono ?_
  rintro e wa ⟨v0, rfl, ho0, hba⟩
  obtain ⟨B0, d0, rfl, m0⟩ := ho0.form
  have hIa := hI.step hba
  have hza := hba.size
  have x0 := hIa.blk.c 0 rfl
  have f0 := hIa.blk.f 0
  have hIb := hIa.set 0 (.slice B0 r.labels.length d0)
  have y2 := hIb.blk.c 2 rfl
  have y3 := hIb.blk.c 3 rfl
  have y4 := hIb.blk.c 4 rfl
  have y5 := hIb.blk.c 5 rfl
  have y6 := hIb.blk.c 6 rfl
  have y7 := hIb.blk.c 7 rfl
  clear hI
  go_wp2_with fail
  have hFb : Frm (fun k => k = w.heap.size) wa (wa.setCell ⟨w.heap.size, 0, none⟩ (.slice B0 r.labels.length d0)) := (Frm.refl (fun k => k = w.heap.size) wa).one rfl 0 _
  have hzb := hFb.size
  generalize wa.setCell ⟨w.heap.size, 0, none⟩ (.slice B0 r.labels.length d0) = wb at *
  refine (C_v_Sketch A1 c1 A2 c2 r.s wb ((h1.below hIb.below).mono (fun k _ h => by omega)) ((h2.below hIb.below).mono (fun k _ h => by omega)) hg n1 n2 l1 l2).mono ?_
  rintro e wc ⟨B1, d1, B2, d2, rfl, s1, s2, m1, m2, hbc⟩
  have hIc := hIb.step hbc
  have hzc := hbc.size
  have z0 := hIc.blk.c 0 rfl
  have z1 := hIc.blk.c 1 rfl
  have z2 := hIc.blk.c 2 rfl
  have z3 := hIc.blk.c 3 rfl
  have z4 := hIc.blk.c 4 rfl
  have z5 := hIc.blk.c 5 rfl
  have z6 := hIc.blk.c 6 rfl
  have z7 := hIc.blk.c 7 rfl
  have g2 := hIc.blk.f 2
  have g3 := hIc.blk.f 3
  have g4 := hIc.blk.f 4
  have g5 := hIc.blk.f 5
  have g6 := hIc.blk.f 6
  have g7 := hIc.blk.f 7
  clear x0 f0 hIa y2 y3 y4 y5 y6 y7
  have hId := hIc.set6 (.slice B1 r.s.hist.length d1) (.slice B2 r.s.hashes.length d2) (.int .u64 r.s.gauge.n) (.int .u64 r.s.gauge.nans) (.int .u64 r.s.gauge.lo) (.int .u64 r.s.gauge.hi)
  have hFd := (Frm.refl (fun k => k = w.heap.size) wc).set6 (b := w.heap.size) rfl (.slice B1 r.s.hist.length d1) (.slice B2 r.s.hashes.length d2) (.int .u64 r.s.gauge.n) (.int .u64 r.s.gauge.nans) (.int .u64 r.s.gauge.lo) (.int .u64 r.s.gauge.hi)
  have r0 := hIc.res.c 0 rfl
  have r1 := hIc.res.c 1 rfl
  have r2 := hIc.res.c 2 rfl
  have r3 := hIc.res.c 3 rfl
  have r4 := hIc.res.c 4 rfl
  have r5 := hIc.res.c 5 rfl
  have r6 := hIc.res.c 6 rfl
  have r7 := hIc.res.c 7 rfl
  have q0 := hIc.res.f 0
  have q1 := hIc.res.f 1
  have q2 := hIc.res.f 2
  have q3 := hIc.res.f 3
  have q4 := hIc.res.f 4
  have q5 := hIc.res.f 5
  have q6 := hIc.res.f 6
  have q7 := hIc.res.f 7
  have e1 : w.heap.size ≠ w.heap.size + 1 := by omega
  go_wp2
  have hblk := hId.res.set8 (.slice B0 r.labels.length d0) (.int .i64 r.at_) (.slice B1 r.s.hist.length d1) (.slice B2 r.s.hashes.length d2) (.int .u64 r.s.gauge.n) (.int .u64 r.s.gauge.nans) (.int .u64 r.s.gauge.lo) (.int .u64 r.s.gauge.hi)
  have hfrm := (hFd.mono (S' := fun k => k = w.heap.size ∨ k = w.heap.size + 1) (fun _ _ h => .inl h)).set8 (b := w.heap.size + 1) (.inr rfl) (.slice B0 r.labels.length d0) (.int .i64 r.at_) (.slice B1 r.s.hist.length d1) (.slice B2 r.s.hashes.length d2) (.int .u64 r.s.gauge.n) (.int .u64 r.s.gauge.nans) (.int .u64 r.s.gauge.lo) (.int .u64 r.s.gauge.hi)
  revert hblk hfrm
  unfold set8
  clear hId hFd r0 r1 r2 r3 r4 r5 r6 r7 q0 q1 q2 q3 q4 q5 q6 q7 z0 z1 z2 z3 z4 z5 z6 z7 g2 g3 g4 g5 g6 g7
  generalize (World.setCell _ ⟨w.heap.size + 1, 7, none⟩ (.int .u64 r.s.gauge.hi)) = Y
  intro hblk hfrm
  have hbel := hfrm.to_below hIc.below (fun k _ e => by omega)
  have hf1 : Frm (fun k => k = w.heap.size ∨ k = w.heap.size + 1) wa Y := ((hFb.mono (S' := fun k => k = w.heap.size ∨ k = w.heap.size + 1) (fun _ _ h => .inl h)).trans (.of_below hbc)).trans hfrm
  have t0 := (ho0.flat (fun _ _ _ _ _ _ h => h) (hf1.mono (fun k _ h => by omega))).mono (ok' := fun k => w.heap.size ≤ k) (fun k _ h => by omega)
  have t1 := (s1.keep (hfrm.keeps (fun k _ h => by omega))).mono (ok' := fun k => w.heap.size ≤ k) (fun k _ h => by omega)
  have t2 := (s2.keep (hfrm.keeps (fun k _ h => by omega))).mono (ok' := fun k => w.heap.size ≤ k) (fun k _ h => by omega)
  have k0 := hblk.c 0 rfl
  have k1 := hblk.c 1 rfl
  have k2 := hblk.c 2 rfl
  have k3 := hblk.c 3 rfl
  have k4 := hblk.c 4 rfl
  have k5 := hblk.c 5 rfl
  have k6 := hblk.c 6 rfl
  have k7 := hblk.c 7 rfl
  exact bodyPost_ret (v := .agg (rowL B0 d0 B1 d1 B2 d2 r).toArray) (by simp [results, Tryz.results56, go_sem, k0, k1, k2, k3, k4, k5, k6, k7]) rfl ⟨B0, d0, B1, d1, B2, d2, rfl, ⟨B0, d0, B1, d1, B2, d2, rfl, t0, hi, t1, t2, hg, fun h => (m0 h).2, m1, m2⟩, hbel⟩
end Go.Proofs.YtbefkiebdokbdaaGreat.V
