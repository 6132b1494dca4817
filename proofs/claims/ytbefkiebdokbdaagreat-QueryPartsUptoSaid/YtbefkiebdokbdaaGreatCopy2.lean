/- varvelaw00.Sketch: a sketch copied. -/
import Derived.Test.YtbefkiebdokbdaaGreatCopy
namespace Go.Proofs.YtbefkiebdokbdaaGreat.V
open Go.RowKit
set_option linter.unusedVariables false
set_option maxRecDepth 100000

@[reducible] def skL (A1 : Option Addr) (c1 : Nat) (A2 : Option Addr) (c2 : Nat) (s : Sketch) : List Value :=
  [.slice A1 s.hist.length c1, .slice A2 s.hashes.length c2, .int .u64 s.gauge.n, .int .u64 s.gauge.nans, .int .u64 s.gauge.lo, .int .u64 s.gauge.hi]
@[reducible] def skZ : List Value := [.slice none 0 0, .slice none 0 0, .int .u64 0, .int .u64 0, .int .u64 0, .int .u64 0]
/-- What a copier of a struct has in hand. -/
structure CopI (w X : World) (P Z : List Value) (t : Nat) : Prop where
  blk : Blk X w.heap.size P t
  res : Blk X (w.heap.size + 1) Z t
  below : Below w.heap.size w X
section
variable {w X X' : World} {P Z : List Value} {t : Nat}
theorem CopI.step (h : CopI w X P Z t) (hb : Below X.heap.size X X') : CopI w X' P Z t := ⟨h.blk.below hb, h.res.below hb, h.below.trans (hb.mono h.below.size)⟩
theorem CopI.set (h : CopI w X P Z t) (i : Nat) (x : Value) : CopI w (X.setCell ⟨w.heap.size, i, none⟩ x) (P.set i x) Z t := by
  have a0 : Frm (fun k => k = w.heap.size) X X := Frm.refl _ X
  exact ⟨h.blk.set i x, h.res.other i x (by omega), (a0.one rfl i x).to_below h.below (fun k _ e => by omega)⟩
theorem CopI.new (w : World) (P Z : List Value) (t : Nat) : CopI w ((w.alloc (.cells P.toArray t)).alloc (.cells Z.toArray t)) P Z t := by
  have hs : (w.alloc (.cells P.toArray t)).heap.size = w.heap.size + 1 := by simp
  have hr := Blk.new (w.alloc (.cells P.toArray t)) Z t
  rw [hs] at hr
  exact ⟨(Blk.new w _ _).below ((Below.refl _ _).alloc (Nat.le_refl _) _), hr, ((Below.refl _ _).alloc (Nat.le_refl _) _).alloc (by omega) _⟩
end

set_option maxHeartbeats 2000000 in
theorem C_v_Sketch (A1 : Option Addr) (c1 : Nat) (A2 : Option Addr) (c2 : Nat) (s : Sketch) (w : World) (h1 : Sl (fun k => k < w.heap.size) w A1 s.hist) (h2 : Sl (fun k => k < w.heap.size) w A2 s.hashes) (hg : s.gauge.wf)
    (n1 : A1 = none → c1 = 0) (n2 : A2 = none → c2 = 0) (l1 : s.hist.length ≤ 1048576) (l2 : s.hashes.length ≤ 1048576) :
    Calls Tryz.prog 19 #[.agg (skL A1 c1 A2 c2 s).toArray] w fun e w' => ∃ B1 d1 B2 d2, e = .returned (.agg (skL B1 d1 B2 d2 s).toArray) ∧ Sl (fun k => w.heap.size ≤ k) w' B1 s.hist ∧ Sl (fun k => w.heap.size ≤ k) w' B2 s.hashes ∧ (B1 = none → d1 = 0) ∧ (B2 = none → d2 = 0) ∧ Below w.heap.size w w' := by
  go_enter Tryz.func19, Tryz.ntmps19
  go_wp2_with fail
  obtain ⟨W, hW⟩ : ∃ W, W = (w.alloc (.cells (skL A1 c1 A2 c2 s).toArray 44)).alloc (.cells skZ.toArray 44) := ⟨_, rfl⟩
  have hI : CopI w W (skL A1 c1 A2 c2 s) skZ 44 := hW ▸ CopI.new w _ _ _
  have hWs : W.heap.size = w.heap.size + 2 := by rw [hW]; simp
  show Calls _ _ _ ((w.alloc (.cells (skL A1 c1 A2 c2 s).toArray 44)).alloc (.cells skZ.toArray 44)) _
  rw [← hW]
  clear hW
  refine (C_v_Buckets A1 c1 s.hist _ ((h1.below hI.below).mono (fun k _ h => by omega)) n1 l1).mono ?_
  rintro e wa ⟨v0, rfl, ho1, hba⟩
  obtain ⟨B1, d1, rfl, m1⟩ := ho1.form
  have hIa := hI.step hba
  have hza := hba.size
  have x0 := hIa.blk.c 0 rfl
  have f0 := hIa.blk.f 0
  have hIb := hIa.set 0 (.slice B1 s.hist.length d1)
  have y1 := hIb.blk.c 1 rfl
  clear hI
  go_wp2_with fail
  have hFb : Frm (fun k => k = w.heap.size) wa (wa.setCell ⟨w.heap.size, 0, none⟩ (.slice B1 s.hist.length d1)) := (Frm.refl (fun k => k = w.heap.size) wa).one rfl 0 _
  have hzb := hFb.size
  generalize wa.setCell ⟨w.heap.size, 0, none⟩ (.slice B1 s.hist.length d1) = wb at *
  refine (C_v_Nums A2 c2 s.hashes wb ((h2.below hIb.below).mono (fun k _ h => by omega)) n2 l2).mono ?_
  rintro e wc ⟨v1, rfl, ho2, hbc⟩
  obtain ⟨B2, d2, rfl, m2⟩ := ho2.form
  have hIc := hIb.step hbc
  have hzc := hbc.size
  have z0 := hIc.blk.c 0 rfl
  have z1 := hIc.blk.c 1 rfl
  have z2 := hIc.blk.c 2 rfl
  have z3 := hIc.blk.c 3 rfl
  have z4 := hIc.blk.c 4 rfl
  have z5 := hIc.blk.c 5 rfl
  have g1 := hIc.blk.f 1
  have r0 := hIc.res.c 0 rfl
  have r1 := hIc.res.c 1 rfl
  have r2 := hIc.res.c 2 rfl
  have r3 := hIc.res.c 3 rfl
  have r4 := hIc.res.c 4 rfl
  have r5 := hIc.res.c 5 rfl
  have q0 := hIc.res.f 0
  have q1 := hIc.res.f 1
  have q2 := hIc.res.f 2
  have q3 := hIc.res.f 3
  have q4 := hIc.res.f 4
  have q5 := hIc.res.f 5
  have e1 : w.heap.size ≠ w.heap.size + 1 := by omega
  clear x0 f0 hIa y1
  go_wp2
  have hId := hIc.set 1 (.slice B2 s.hashes.length d2)
  have hFd : Frm (fun k => k = w.heap.size) wc (wc.setCell ⟨w.heap.size, 1, none⟩ (.slice B2 s.hashes.length d2)) := (Frm.refl (fun k => k = w.heap.size) wc).one rfl 1 _
  have hblk := (((((hId.res.set 0 (.slice B1 s.hist.length d1)).set 1 (.slice B2 s.hashes.length d2)).set 2 (.int .u64 s.gauge.n)).set 3 (.int .u64 s.gauge.nans)).set 4 (.int .u64 s.gauge.lo)).set 5 (.int .u64 s.gauge.hi)
  have hfrm := ((((((hFd.mono (S' := fun k => k = w.heap.size ∨ k = w.heap.size + 1) (fun _ _ h => .inl h)).one (r := w.heap.size + 1) (.inr rfl) 0 (.slice B1 s.hist.length d1)).one (r := w.heap.size + 1) (.inr rfl) 1 (.slice B2 s.hashes.length d2)).one (r := w.heap.size + 1) (.inr rfl) 2 (.int .u64 s.gauge.n)).one (r := w.heap.size + 1) (.inr rfl) 3 (.int .u64 s.gauge.nans)).one (r := w.heap.size + 1) (.inr rfl) 4 (.int .u64 s.gauge.lo)).one (r := w.heap.size + 1) (.inr rfl) 5 (.int .u64 s.gauge.hi)
  revert hblk hfrm
  clear hId hFd r0 r1 r2 r3 r4 r5 q0 q1 q2 q3 q4 q5 z0 z1 z2 z3 z4 z5 g1
  generalize (World.setCell _ ⟨w.heap.size + 1, 5, none⟩ (.int .u64 s.gauge.hi)) = Y
  intro hblk hfrm
  have hbel := hfrm.to_below hIc.below (fun k _ e => by omega)
  have hf1 : Frm (fun k => k = w.heap.size ∨ k = w.heap.size + 1) wa Y := ((hFb.mono (S' := fun k => k = w.heap.size ∨ k = w.heap.size + 1) (fun _ _ h => .inl h)).trans (.of_below hbc)).trans hfrm
  have s1 := (ho1.flat (fun _ _ _ _ _ _ h => h) (hf1.mono (fun k _ h => by omega))).mono (ok' := fun k => w.heap.size ≤ k) (fun k _ h => by omega)
  have s2 := (ho2.flat (fun _ _ _ _ _ _ h => h) (hfrm.mono (fun k _ h => by omega))).mono (ok' := fun k => w.heap.size ≤ k) (fun k _ h => by omega)
  have k0 := hblk.c 0 rfl
  have k1 := hblk.c 1 rfl
  have k2 := hblk.c 2 rfl
  have k3 := hblk.c 3 rfl
  have k4 := hblk.c 4 rfl
  have k5 := hblk.c 5 rfl
  exact bodyPost_ret (v := .agg (skL B1 d1 B2 d2 s).toArray) (by simp [results, Tryz.results19, go_sem, k0, k1, k2, k3, k4, k5]) rfl ⟨B1, d1, B2, d2, rfl, s1, s2, fun h => (m1 h).2, fun h => (m2 h).2, hbel⟩
end Go.Proofs.YtbefkiebdokbdaaGreat.V
