/- Part 25 of the proof: Copy, Copy2, Copy3, Copy4, Cal, Cal2. -/
import Derived.Deep.QuietTactic
import Derived.BigQuiet
import Derived.Test.YtbefkiebdokbdaaGreatB16

section
/- Contracts of varvelaw00: copies of lists; Place. -/
namespace Go.Proofs.YtbefkiebdokbdaaGreat.V
open Go.RowKit
set_option linter.unusedVariables false
set_option maxRecDepth 100000

theorem C_v_Labels (A : Option Addr) (cap : Nat) (xs : List Label) (w : World) (hr : Sl (fun k => k < w.heap.size) w A xs) (hA : A = none → cap = 0) (hl : xs.length ≤ 1048576) :
    Calls Tryz.prog 91 #[.slice A xs.length cap] w fun e w' => ∃ v, e = .returned v ∧ Own w' w.heap.size 111 v xs ∧ Below w.heap.size w w' := by
  go_enter Tryz.func91, Tryz.ntmps91
  go_wp2_with (at_builtin; refine wpOwn_append rfl _ _ 65 111 32 w.heap.size rfl el_Label (xs := []) rfl (Own.nil _ _ _) rfl rfl hA (hr.mono (fun k _ h => ⟨h, fun e => by cases e⟩)) (by simp; omega) (by simp; omega) (Nat.le_refl _) ?_)
  intro v w' ho hg hat
  go_wp2
  go_ret
  exact ⟨v, rfl, by simpa using ho, (Below.refl _ _).grown hg (Nat.le_refl _) (fun j hj => by cases hj)⟩
theorem C_v_Buckets (A : Option Addr) (cap : Nat) (xs : List Bucket) (w : World) (hr : Sl (fun k => k < w.heap.size) w A xs) (hA : A = none → cap = 0) (hl : xs.length ≤ 1048576) :
    Calls Tryz.prog 50 #[.slice A xs.length cap] w fun e w' => ∃ v, e = .returned v ∧ Own w' w.heap.size 120 v xs ∧ Below w.heap.size w w' := by
  go_enter Tryz.func50, Tryz.ntmps50
  go_wp2_with (at_builtin; refine wpOwn_append rfl _ _ 39 120 16 w.heap.size rfl el_Bucket (xs := []) rfl (Own.nil _ _ _) rfl rfl hA (hr.mono (fun k _ h => ⟨h, fun e => by cases e⟩)) (by simp; omega) (by simp; omega) (Nat.le_refl _) ?_)
  intro v w' ho hg hat
  go_wp2
  go_ret
  exact ⟨v, rfl, by simpa using ho, (Below.refl _ _).grown hg (Nat.le_refl _) (fun j hj => by cases hj)⟩
theorem C_v_Nums (A : Option Addr) (cap : Nat) (xs : List Int) (w : World) (hr : Sl (fun k => k < w.heap.size) w A xs) (hA : A = none → cap = 0) (hl : xs.length ≤ 1048576) :
    Calls Tryz.prog 51 #[.slice A xs.length cap] w fun e w' => ∃ v, e = .returned v ∧ Own w' w.heap.size 29 v xs ∧ Below w.heap.size w w' := by
  go_enter Tryz.func51, Tryz.ntmps51
  go_wp2_with (at_builtin; refine wpOwn_append rfl _ _ 40 29 8 w.heap.size rfl el_U64 (xs := []) rfl (Own.nil _ _ _) rfl rfl hA (hr.mono (fun k _ h => ⟨h, fun e => by cases e⟩)) (by simp; omega) (by simp; omega) (Nat.le_refl _) ?_)
  intro v w' ho hg hat
  go_wp2
  go_ret
  exact ⟨v, rfl, by simpa using ho, (Below.refl _ _).grown hg (Nat.le_refl _) (fun j hj => by cases hj)⟩

def place (x n : Int) : Int := if Int.tmod x n < 0 then Int.tmod x n + n else Int.tmod x n
end Go.Proofs.YtbefkiebdokbdaaGreat.V
end

section
/- varvelaw00.Sketch: a sketch copied. -/
namespace Go.Proofs.YtbefkiebdokbdaaGreat.V
open Go.RowKit
set_option linter.unusedVariables false
set_option maxRecDepth 100000

@[reducible] def skL (A1 : Option Addr) (c1 : Nat) (A2 : Option Addr) (c2 : Nat) (s : Sketch) : List Value :=
  [.slice A1 s.hist.length c1, .slice A2 s.hashes.length c2, .int .u64 s.gauge.n, .int .u64 s.gauge.nans, .int .u64 s.gauge.lo, .int .u64 s.gauge.hi]
@[reducible] def skZ : List Value := [.slice none 0 0, .slice none 0 0, .int .u64 0, .int .u64 0, .int .u64 0, .int .u64 0]
/-- What a copier of a struct has in hand. -/
structure CopI (w X : World) (P Z : List Value) (t : Nat) : Prop where
  blk : Blk X w.heap.size P t
  res : Blk X (w.heap.size + 1) Z t
  below : Below w.heap.size w X
section
variable {w X X' : World} {P Z : List Value} {t : Nat}
theorem CopI.step (h : CopI w X P Z t) (hb : Below X.heap.size X X') : CopI w X' P Z t := ⟨h.blk.below hb, h.res.below hb, h.below.trans (hb.mono h.below.size)⟩
theorem CopI.set (h : CopI w X P Z t) (i : Nat) (x : Value) : CopI w (X.setCell ⟨w.heap.size, i, none⟩ x) (P.set i x) Z t := by
  have a0 : Frm (fun k => k = w.heap.size) X X := Frm.refl _ X
  exact ⟨h.blk.set i x, h.res.other i x (by omega), (a0.one rfl i x).to_below h.below (fun k _ e => by omega)⟩
theorem CopI.new (w : World) (P Z : List Value) (t : Nat) : CopI w ((w.alloc (.cells P.toArray t)).alloc (.cells Z.toArray t)) P Z t := by
  have hs : (w.alloc (.cells P.toArray t)).heap.size = w.heap.size + 1 := by simp
  have hr := Blk.new (w.alloc (.cells P.toArray t)) Z t
  rw [hs] at hr
  exact ⟨(Blk.new w _ _).below ((Below.refl _ _).alloc (Nat.le_refl _) _), hr, ((Below.refl _ _).alloc (Nat.le_refl _) _).alloc (by omega) _⟩
end

set_option maxHeartbeats 2000000 in
theorem C_v_Sketch (A1 : Option Addr) (c1 : Nat) (A2 : Option Addr) (c2 : Nat) (s : Sketch) (w : World) (h1 : Sl (fun k => k < w.heap.size) w A1 s.hist) (h2 : Sl (fun k => k < w.heap.size) w A2 s.hashes) (hg : s.gauge.wf)
    (n1 : A1 = none → c1 = 0) (n2 : A2 = none → c2 = 0) (l1 : s.hist.length ≤ 1048576) (l2 : s.hashes.length ≤ 1048576) :
    Calls Tryz.prog 19 #[.agg (skL A1 c1 A2 c2 s).toArray] w fun e w' => ∃ B1 d1 B2 d2, e = .returned (.agg (skL B1 d1 B2 d2 s).toArray) ∧ Sl (fun k => w.heap.size ≤ k) w' B1 s.hist ∧ Sl (fun k => w.heap.size ≤ k) w' B2 s.hashes ∧ (B1 = none → d1 = 0) ∧ (B2 = none → d2 = 0) ∧ Below w.heap.size w w' := by
  go_enter Tryz.func19, Tryz.ntmps19
  go_wp2_with fail
  obtain ⟨W, hW⟩ : ∃ W, W = (w.alloc (.cells (skL A1 c1 A2 c2 s).toArray 44)).alloc (.cells skZ.toArray 44) := ⟨_, rfl⟩
  have hI : CopI w W (skL A1 c1 A2 c2 s) skZ 44 := hW ▸ CopI.new w _ _ _
  have hWs : W.heap.size = w.heap.size + 2 := by rw [hW]; simp
  show Calls _ _ _ ((w.alloc (.cells (skL A1 c1 A2 c2 s).toArray 44)).alloc (.cells skZ.toArray 44)) _
  rw [← hW]
  clear hW
  refine (C_v_Buckets A1 c1 s.hist _ ((h1.below hI.below).mono (fun k _ h => by omega)) n1 l1).mono ?_
  rintro e wa ⟨v0, rfl, ho1, hba⟩
  obtain ⟨B1, d1, rfl, m1⟩ := ho1.form
  have hIa := hI.step hba
  have hza := hba.size
  have x0 := hIa.blk.c 0 rfl
  have f0 := hIa.blk.f 0
  have hIb := hIa.set 0 (.slice B1 s.hist.length d1)
  have y1 := hIb.blk.c 1 rfl
  clear hI
  go_wp2_with fail
  have hFb : Frm (fun k => k = w.heap.size) wa (wa.setCell ⟨w.heap.size, 0, none⟩ (.slice B1 s.hist.length d1)) := (Frm.refl (fun k => k = w.heap.size) wa).one rfl 0 _
  have hzb := hFb.size
  generalize wa.setCell ⟨w.heap.size, 0, none⟩ (.slice B1 s.hist.length d1) = wb at *
  refine (C_v_Nums A2 c2 s.hashes wb ((h2.below hIb.below).mono (fun k _ h => by omega)) n2 l2).mono ?_
  rintro e wc ⟨v1, rfl, ho2, hbc⟩
  obtain ⟨B2, d2, rfl, m2⟩ := ho2.form
  have hIc := hIb.step hbc
  have hzc := hbc.size
  have z0 := hIc.blk.c 0 rfl
  have z1 := hIc.blk.c 1 rfl
  have z2 := hIc.blk.c 2 rfl
  have z3 := hIc.blk.c 3 rfl
  have z4 := hIc.blk.c 4 rfl
  have z5 := hIc.blk.c 5 rfl
  have g1 := hIc.blk.f 1
  have r0 := hIc.res.c 0 rfl
  have r1 := hIc.res.c 1 rfl
  have r2 := hIc.res.c 2 rfl
  have r3 := hIc.res.c 3 rfl
  have r4 := hIc.res.c 4 rfl
  have r5 := hIc.res.c 5 rfl
  have q0 := hIc.res.f 0
  have q1 := hIc.res.f 1
  have q2 := hIc.res.f 2
  have q3 := hIc.res.f 3
  have q4 := hIc.res.f 4
  have q5 := hIc.res.f 5
  have e1 : w.heap.size ≠ w.heap.size + 1 := by omega
  clear x0 f0 hIa y1
  go_wp2
  have hId := hIc.set 1 (.slice B2 s.hashes.length d2)
  have hFd : Frm (fun k => k = w.heap.size) wc (wc.setCell ⟨w.heap.size, 1, none⟩ (.slice B2 s.hashes.length d2)) := (Frm.refl (fun k => k = w.heap.size) wc).one rfl 1 _
  have hblk := (((((hId.res.set 0 (.slice B1 s.hist.length d1)).set 1 (.slice B2 s.hashes.length d2)).set 2 (.int .u64 s.gauge.n)).set 3 (.int .u64 s.gauge.nans)).set 4 (.int .u64 s.gauge.lo)).set 5 (.int .u64 s.gauge.hi)
  have hfrm := ((((((hFd.mono (S' := fun k => k = w.heap.size ∨ k = w.heap.size + 1) (fun _ _ h => .inl h)).one (r := w.heap.size + 1) (.inr rfl) 0 (.slice B1 s.hist.length d1)).one (r := w.heap.size + 1) (.inr rfl) 1 (.slice B2 s.hashes.length d2)).one (r := w.heap.size + 1) (.inr rfl) 2 (.int .u64 s.gauge.n)).one (r := w.heap.size + 1) (.inr rfl) 3 (.int .u64 s.gauge.nans)).one (r := w.heap.size + 1) (.inr rfl) 4 (.int .u64 s.gauge.lo)).one (r := w.heap.size + 1) (.inr rfl) 5 (.int .u64 s.gauge.hi)
  revert hblk hfrm
  clear hId hFd r0 r1 r2 r3 r4 r5 q0 q1 q2 q3 q4 q5 z0 z1 z2 z3 z4 z5 g1
  generalize (World.setCell _ ⟨w.heap.size + 1, 5, none⟩ (.int .u64 s.gauge.hi)) = Y
  intro hblk hfrm
  have hbel := hfrm.to_below hIc.below (fun k _ e => by omega)
  have hf1 : Frm (fun k => k = w.heap.size ∨ k = w.heap.size + 1) wa Y := ((hFb.mono (S' := fun k => k = w.heap.size ∨ k = w.heap.size + 1) (fun _ _ h => .inl h)).trans (.of_below hbc)).trans hfrm
  have s1 := (ho1.flat (fun _ _ _ _ _ _ h => h) (hf1.mono (fun k _ h => by omega))).mono (ok' := fun k => w.heap.size ≤ k) (fun k _ h => by omega)
  have s2 := (ho2.flat (fun _ _ _ _ _ _ h => h) (hfrm.mono (fun k _ h => by omega))).mono (ok' := fun k => w.heap.size ≤ k) (fun k _ h => by omega)
  have k0 := hblk.c 0 rfl
  have k1 := hblk.c 1 rfl
  have k2 := hblk.c 2 rfl
  have k3 := hblk.c 3 rfl
  have k4 := hblk.c 4 rfl
  have k5 := hblk.c 5 rfl
  exact bodyPost_ret (v := .agg (skL B1 d1 B2 d2 s).toArray) (by simp [results, Tryz.results19, go_sem, k0, k1, k2, k3, k4, k5]) rfl ⟨B1, d1, B2, d2, rfl, s1, s2, fun h => (m1 h).2, fun h => (m2 h).2, hbel⟩
end Go.Proofs.YtbefkiebdokbdaaGreat.V
end

section
/- varvelaw00.Row, Rows: rows copied. -/
namespace Go.Proofs.YtbefkiebdokbdaaGreat.V
open Go.RowKit
set_option linter.unusedVariables false
set_option maxRecDepth 100000

/-- Six cells laid into a block from place 2 on. -/
theorem CopI.set6 {w X : World} {P Z : List Value} {t : Nat} (h : CopI w X P Z t) (v0 v1 v2 v3 v4 v5 : Value) :
    CopI w ((((((X.setCell ⟨w.heap.size, 2, none⟩ v0).setCell ⟨w.heap.size, 3, none⟩ v1).setCell ⟨w.heap.size, 4, none⟩ v2).setCell ⟨w.heap.size, 5, none⟩ v3).setCell ⟨w.heap.size, 6, none⟩ v4).setCell ⟨w.heap.size, 7, none⟩ v5)
      ((((((P.set 2 v0).set 3 v1).set 4 v2).set 5 v3).set 6 v4).set 7 v5) Z t :=
  (((((h.set 2 v0).set 3 v1).set 4 v2).set 5 v3).set 6 v4).set 7 v5
theorem Frm.set6 {S : Nat → Prop} {w w' : World} (h : Frm S w w') {b : Nat} (hb : S b) (v0 v1 v2 v3 v4 v5 : Value) :
    Frm S w ((((((w'.setCell ⟨b, 2, none⟩ v0).setCell ⟨b, 3, none⟩ v1).setCell ⟨b, 4, none⟩ v2).setCell ⟨b, 5, none⟩ v3).setCell ⟨b, 6, none⟩ v4).setCell ⟨b, 7, none⟩ v5) :=
  (((((h.one hb 2 v0).one hb 3 v1).one hb 4 v2).one hb 5 v3).one hb 6 v4).one hb 7 v5

set_option maxHeartbeats 2000000 in
theorem C_v_Row (A0 : Option Addr) (c0 : Nat) (A1 : Option Addr) (c1 : Nat) (A2 : Option Addr) (c2 : Nat) (r : Row) (w : World) (h0 : Sl (fun k => k < w.heap.size) w A0 r.labels) (h1 : Sl (fun k => k < w.heap.size) w A1 r.s.hist) (h2 : Sl (fun k => k < w.heap.size) w A2 r.s.hashes) (hi : I64 r.at_) (hg : r.s.gauge.wf)
    (n0 : A0 = none → c0 = 0) (n1 : A1 = none → c1 = 0) (n2 : A2 = none → c2 = 0) (l0 : r.labels.length ≤ 1048576) (l1 : r.s.hist.length ≤ 1048576) (l2 : r.s.hashes.length ≤ 1048576) :
    Calls Tryz.prog 56 #[.agg (rowL A0 c0 A1 c1 A2 c2 r).toArray] w fun e w' => ∃ B0 d0 B1 d1 B2 d2, e = .returned (.agg (rowL B0 d0 B1 d1 B2 d2 r).toArray) ∧ RowRep (fun k => w.heap.size ≤ k) w' (rowL B0 d0 B1 d1 B2 d2 r) r ∧ Below w.heap.size w w' := by
  go_enter Tryz.func56, Tryz.ntmps56
  go_wp2_with fail
  obtain ⟨W, hW⟩ : ∃ W, W = (w.alloc (.cells (rowL A0 c0 A1 c1 A2 c2 r).toArray 67)).alloc (.cells rowZ.toArray 67) := ⟨_, rfl⟩
  have hI : CopI w W (rowL A0 c0 A1 c1 A2 c2 r) rowZ 67 := hW ▸ CopI.new w _ _ _
  have hWs : W.heap.size = w.heap.size + 2 := by rw [hW]; simp
  show Calls _ _ _ ((w.alloc (.cells (rowL A0 c0 A1 c1 A2 c2 r).toArray 67)).alloc (.cells rowZ.toArray 67)) _
  rw [← hW]
  clear hW
  refine (C_v_Labels A0 c0 r.labels _ ((h0.below hI.below).mono (fun k _ h => by omega)) n0 l0).mono ?_
  rintro e wa ⟨v0, rfl, ho0, hba⟩
  obtain ⟨B0, d0, rfl, m0⟩ := ho0.form
  have hIa := hI.step hba
  have hza := hba.size
  have x0 := hIa.blk.c 0 rfl
  have f0 := hIa.blk.f 0
  have hIb := hIa.set 0 (.slice B0 r.labels.length d0)
  have y2 := hIb.blk.c 2 rfl
  have y3 := hIb.blk.c 3 rfl
  have y4 := hIb.blk.c 4 rfl
  have y5 := hIb.blk.c 5 rfl
  have y6 := hIb.blk.c 6 rfl
  have y7 := hIb.blk.c 7 rfl
  clear hI
  go_wp2_with fail
  have hFb : Frm (fun k => k = w.heap.size) wa (wa.setCell ⟨w.heap.size, 0, none⟩ (.slice B0 r.labels.length d0)) := (Frm.refl (fun k => k = w.heap.size) wa).one rfl 0 _
  have hzb := hFb.size
  generalize wa.setCell ⟨w.heap.size, 0, none⟩ (.slice B0 r.labels.length d0) = wb at *
  refine (C_v_Sketch A1 c1 A2 c2 r.s wb ((h1.below hIb.below).mono (fun k _ h => by omega)) ((h2.below hIb.below).mono (fun k _ h => by omega)) hg n1 n2 l1 l2).mono ?_
  rintro e wc ⟨B1, d1, B2, d2, rfl, s1, s2, m1, m2, hbc⟩
  have hIc := hIb.step hbc
  have hzc := hbc.size
  have z0 := hIc.blk.c 0 rfl
  have z1 := hIc.blk.c 1 rfl
  have z2 := hIc.blk.c 2 rfl
  have z3 := hIc.blk.c 3 rfl
  have z4 := hIc.blk.c 4 rfl
  have z5 := hIc.blk.c 5 rfl
  have z6 := hIc.blk.c 6 rfl
  have z7 := hIc.blk.c 7 rfl
  have g2 := hIc.blk.f 2
  have g3 := hIc.blk.f 3
  have g4 := hIc.blk.f 4
  have g5 := hIc.blk.f 5
  have g6 := hIc.blk.f 6
  have g7 := hIc.blk.f 7
  clear x0 f0 hIa y2 y3 y4 y5 y6 y7
  have hId := hIc.set6 (.slice B1 r.s.hist.length d1) (.slice B2 r.s.hashes.length d2) (.int .u64 r.s.gauge.n) (.int .u64 r.s.gauge.nans) (.int .u64 r.s.gauge.lo) (.int .u64 r.s.gauge.hi)
  have hFd := (Frm.refl (fun k => k = w.heap.size) wc).set6 (b := w.heap.size) rfl (.slice B1 r.s.hist.length d1) (.slice B2 r.s.hashes.length d2) (.int .u64 r.s.gauge.n) (.int .u64 r.s.gauge.nans) (.int .u64 r.s.gauge.lo) (.int .u64 r.s.gauge.hi)
  have r0 := hIc.res.c 0 rfl
  have r1 := hIc.res.c 1 rfl
  have r2 := hIc.res.c 2 rfl
  have r3 := hIc.res.c 3 rfl
  have r4 := hIc.res.c 4 rfl
  have r5 := hIc.res.c 5 rfl
  have r6 := hIc.res.c 6 rfl
  have r7 := hIc.res.c 7 rfl
  have q0 := hIc.res.f 0
  have q1 := hIc.res.f 1
  have q2 := hIc.res.f 2
  have q3 := hIc.res.f 3
  have q4 := hIc.res.f 4
  have q5 := hIc.res.f 5
  have q6 := hIc.res.f 6
  have q7 := hIc.res.f 7
  have e1 : w.heap.size ≠ w.heap.size + 1 := by omega
  go_wp2
  have hblk := hId.res.set8 (.slice B0 r.labels.length d0) (.int .i64 r.at_) (.slice B1 r.s.hist.length d1) (.slice B2 r.s.hashes.length d2) (.int .u64 r.s.gauge.n) (.int .u64 r.s.gauge.nans) (.int .u64 r.s.gauge.lo) (.int .u64 r.s.gauge.hi)
  have hfrm := (hFd.mono (S' := fun k => k = w.heap.size ∨ k = w.heap.size + 1) (fun _ _ h => .inl h)).set8 (b := w.heap.size + 1) (.inr rfl) (.slice B0 r.labels.length d0) (.int .i64 r.at_) (.slice B1 r.s.hist.length d1) (.slice B2 r.s.hashes.length d2) (.int .u64 r.s.gauge.n) (.int .u64 r.s.gauge.nans) (.int .u64 r.s.gauge.lo) (.int .u64 r.s.gauge.hi)
  revert hblk hfrm
  unfold set8
  clear hId hFd r0 r1 r2 r3 r4 r5 r6 r7 q0 q1 q2 q3 q4 q5 q6 q7 z0 z1 z2 z3 z4 z5 z6 z7 g2 g3 g4 g5 g6 g7
  generalize (World.setCell _ ⟨w.heap.size + 1, 7, none⟩ (.int .u64 r.s.gauge.hi)) = Y
  intro hblk hfrm
  have hbel := hfrm.to_below hIc.below (fun k _ e => by omega)
  have hf1 : Frm (fun k => k = w.heap.size ∨ k = w.heap.size + 1) wa Y := ((hFb.mono (S' := fun k => k = w.heap.size ∨ k = w.heap.size + 1) (fun _ _ h => .inl h)).trans (.of_below hbc)).trans hfrm
  have t0 := (ho0.flat (fun _ _ _ _ _ _ h => h) (hf1.mono (fun k _ h => by omega))).mono (ok' := fun k => w.heap.size ≤ k) (fun k _ h => by omega)
  have t1 := (s1.keep (hfrm.keeps (fun k _ h => by omega))).mono (ok' := fun k => w.heap.size ≤ k) (fun k _ h => by omega)
  have t2 := (s2.keep (hfrm.keeps (fun k _ h => by omega))).mono (ok' := fun k => w.heap.size ≤ k) (fun k _ h => by omega)
  have k0 := hblk.c 0 rfl
  have k1 := hblk.c 1 rfl
  have k2 := hblk.c 2 rfl
  have k3 := hblk.c 3 rfl
  have k4 := hblk.c 4 rfl
  have k5 := hblk.c 5 rfl
  have k6 := hblk.c 6 rfl
  have k7 := hblk.c 7 rfl
  exact bodyPost_ret (v := .agg (rowL B0 d0 B1 d1 B2 d2 r).toArray) (by simp [results, Tryz.results56, go_sem, k0, k1, k2, k3, k4, k5, k6, k7]) rfl ⟨B0, d0, B1, d1, B2, d2, rfl, ⟨B0, d0, B1, d1, B2, d2, rfl, t0, hi, t1, t2, hg, fun h => (m0 h).2, m1, m2⟩, hbel⟩
end Go.Proofs.YtbefkiebdokbdaaGreat.V
end

section
/- varvelaw00.Rows: rows copied; varvelaw00.Place. -/
namespace Go.Proofs.YtbefkiebdokbdaaGreat.V
open Go.RowKit
set_option linter.unusedVariables false
set_option maxRecDepth 100000

set_option maxHeartbeats 2000000 in
theorem C_v_Rows (A : Option Addr) (cap : Nat) (xs : List Row) (w : World) (hr : Sl (fun k => k < w.heap.size) w A xs) (hl : xs.length ≤ 1048576) (hs : ∀ r ∈ xs, r.small) :
    Calls Tryz.prog 22 #[.slice A xs.length cap] w fun e w' => ∃ v, e = .returned v ∧ Own w' w.heap.size 67 v xs ∧ Below w.heap.size w w' := by
  have HS := Lib.hid hs
  clear hs
  go_enter Tryz.func22, Tryz.ntmps22
  go_wp2_with fail
  go_loopw [3, 4] (fun v i wr => ∃ (k : Nat), k ≤ xs.length ∧ i = .int .i64 k ∧ Own wr w.heap.size 67 v (xs.take k) ∧ Below w.heap.size w wr) (fun _ i _ => xs.length - (intOf i).toNat)
  case atStart => exact ⟨0, Nat.zero_le _, rfl, Own.nil _ _ _, Below.refl _ _⟩
  case round =>
    obtain ⟨k, hk, rfl, hown, hbl⟩ := hrel
    by_cases hlt : k < xs.length
    · have hsm := HS.out _ (List.getElem_mem hlt)
      obtain ⟨l0, l1, l2⟩ := hsm
      obtain ⟨b, off, A0, c0, A1, c1, A2, c2, rfl, hob, hlb, y0, y1, y2, y3, y4, y5, y6, y7, s0, hi, s1, s2, hg, m0, m1, m2⟩ := (hr.below hbl).row hlt
      have htk : xs.take (k + 1) = xs.take k ++ [xs[k]] := List.take_succ_eq_append_getElem hlt
      have HT := Lib.hid htk
      clear htk
      have hlen : (xs.take k).length = k := by simp; omega
      generalize xs.take k = pre at *
      generalize xs[k] = r at *
      have hws := hbl.size
      have tosl : ∀ {α : Type} [Rep α] {B : Option Addr} {zs : List α}, Sl (fun k => k < w.heap.size) wr B zs → Sl (fun k => k < wr.heap.size) wr B zs := fun h => h.mono (fun k _ h => by omega)
      go_wp2_with fail
      refine (C_v_Row A0 c0 A1 c1 A2 c2 r _ (tosl s0) (tosl s1) (tosl s2) hi hg m0 m1 m2 l0 l1 l2).mono ?_
      rintro e w1 ⟨B0, d0, B1, d1, B2, d2, rfl, hrow, hb1⟩
      clear tosl s0 s1 s2
      have hown1 := hown.below hb1
      have hob : ∀ j, u3.ownBlock = some j → w.heap.size ≤ j ∧ j < wr.heap.size := fun j hj => by obtain ⟨cs, _, ho'⟩ := hown; exact ho'.lt j hj
      have hz1 := hb1.size
      have hrow1 : Rep.rep (fun k => k < w1.heap.size ∧ some k ≠ u3.ownBlock) w1 (rowL B0 d0 B1 d1 B2 d2 r) r := Rep.mono (α := Row) hrow (fun k hk h => ⟨hk, fun e => by have := hob k e.symm; omega⟩)
      have hA1 : pre.length + 1 ≤ 9223372036854775807 := by omega
      have hA2 : (pre.length + 1) * 112 ≤ 140737488355328 := by omega
      have hA3 : w.heap.size ≤ w1.heap.size := by omega
      have hb2 : Below w.heap.size w w1 := hbl.trans (hb1.mono hws)
      clear hown hbl hrow hb1 y0 y1 y2 y3 y4 y5 y6 y7
      go_wp2_with (at_builtin; refine wpOwn_append1 (rowL B0 d0 B1 d1 B2 d2 r) r rfl _ _ 51 67 67 112 w.heap.size rfl rfl el_Row rfl hown1 rfl hrow1 hA1 hA2 hA3 ?_)
      intro v' w2 ho2 hg2 hat2
      go_wp2
      go_roundw
      case rel => exact ⟨k + 1, by omega, by go_num, by rw [HT.out]; exact ho2, hb2.grown hg2 hb2.size (fun j hj => (hob j hj).1)⟩
      case measure => simp [intOf]; omega
    · have hkk : k = xs.length := by omega
      rw [hkk, List.take_length] at hown
      go_wp2
      go_ret
      exact ⟨_, rfl, hown, hbl⟩

theorem place_lt {v n : Int} (hn : 0 < n) : 0 ≤ place v n ∧ place v n < n := by
  unfold place
  have h1 := Int.tmod_lt_of_pos v hn
  have h2 : -n < Int.tmod v n := by have := Int.tmod_lt_of_pos (-v) hn; rw [Int.neg_tmod] at this; omega
  split <;> omega
theorem C_Place (v n : Int) (w : World) (hv : I64 v) (h0 : 0 < n) (h1 : n ≤ 9223372036854775807) :
    Calls Tryz.prog 25 #[.int .i64 v, .int .i64 n] w fun e w' => e = .returned (.int .i64 (place v n)) ∧ w = w' := by
  obtain ⟨v1, v2⟩ := hv
  have b1 := Int.tmod_lt_of_pos v h0
  have b2 : -n < Int.tmod v n := by have := Int.tmod_lt_of_pos (-v) h0; rw [Int.neg_tmod] at this; omega
  have hz : (n == 0) = false := by simp; omega
  have hn0 : n ≠ 0 := by omega
  have hw : IntKind.i64.wrap (Int.tmod v n) = Int.tmod v n := IntWalk.i64_in _ (by omega)
  have HP : place v n = if Int.tmod v n < 0 then Int.tmod v n + n else Int.tmod v n := rfl
  have H := Lib.hid HP
  clear HP
  go_enter Tryz.func25, Tryz.ntmps25
  by_cases hneg : Int.tmod v n < 0
  · go_wp2
    go_ret
    exact ⟨ret_i (by rw [H.out, if_pos hneg]), rfl⟩
  · go_wp2
    go_ret
    exact ⟨ret_i (by rw [H.out, if_neg (by omega)]), rfl⟩
end Go.Proofs.YtbefkiebdokbdaaGreat.V
end

section
/- Contracts: cal.rest, times, Res, Coarsest, Horizon. -/
namespace Go.Proofs.YtbefkiebdokbdaaGreat.V
open Go.RowKit
set_option linter.unusedVariables false
set_option maxRecDepth 100000

/-- How many slots a row of a level stands for. -/
def resN (k : Nat) : Int := match k with | 0 => 1 | 1 => 6 | 2 => 360 | _ => 8640
theorem resN_pos (k : Nat) : 1 ≤ resN k ∧ resN k ≤ 8640 := by unfold resN; split <;> omega
theorem C_Res (k : Nat) (hk : k < 4) (w : World) : Calls Tryz.prog 73 #[.int .i64 k] w fun e w' => e = .returned (.int .i64 (resN k)) ∧ Below w.heap.size w w' := by
  rcases k with _ | _ | _ | _ | k
  · show Calls Tryz.prog 73 #[.int .i64 0] w fun e w' => e = .returned (.int .i64 1) ∧ Below w.heap.size w w'
    go_enter Tryz.func73, Tryz.ntmps73
    go_wp2
    go_ret
    exact ⟨rfl, by (repeat (first | exact Below.refl _ _ | assumption | refine Below.drew ?_ | refine Below.alloc ?_ (by simp <;> omega) _ | refine Below.setCell ?_ (by simp <;> omega) _))⟩
  · show Calls Tryz.prog 73 #[.int .i64 1] w fun e w' => e = .returned (.int .i64 6) ∧ Below w.heap.size w w'
    go_enter Tryz.func73, Tryz.ntmps73
    go_wp2
    go_ret
    exact ⟨rfl, by (repeat (first | exact Below.refl _ _ | assumption | refine Below.drew ?_ | refine Below.alloc ?_ (by simp <;> omega) _ | refine Below.setCell ?_ (by simp <;> omega) _))⟩
  · show Calls Tryz.prog 73 #[.int .i64 2] w fun e w' => e = .returned (.int .i64 360) ∧ Below w.heap.size w w'
    go_enter Tryz.func73, Tryz.ntmps73
    go_wp2
    go_ret
    exact ⟨rfl, by (repeat (first | exact Below.refl _ _ | assumption | refine Below.drew ?_ | refine Below.alloc ?_ (by simp <;> omega) _ | refine Below.setCell ?_ (by simp <;> omega) _))⟩
  · show Calls Tryz.prog 73 #[.int .i64 3] w fun e w' => e = .returned (.int .i64 8640) ∧ Below w.heap.size w w'
    go_enter Tryz.func73, Tryz.ntmps73
    go_wp2
    go_ret
    exact ⟨rfl, by (repeat (first | exact Below.refl _ _ | assumption | refine Below.drew ?_ | refine Below.alloc ?_ (by simp <;> omega) _ | refine Below.setCell ?_ (by simp <;> omega) _))⟩
  · omega

theorem C_rest (n : Int) (w : World) (hn : I64 n) : Calls Tryz.prog 71 #[.int .i64 n, .int .i64 8640] w fun e w' => e = .returned (.int .i64 (n % 8640)) ∧ w = w' := by
  obtain ⟨n1, n2⟩ := hn
  have b1 := Int.tmod_lt_of_pos n (b := 8640) (by omega)
  have b2 : -8640 < Int.tmod n 8640 := by have := Int.tmod_lt_of_pos (-n) (b := 8640) (by omega); rw [Int.neg_tmod] at this; omega
  have e1 : (Int.tmod n 8640 + 8640) % 8640 = n % 8640 := by
    rw [Int.add_emod_right]
    by_cases h : 0 ≤ n
    · rw [Int.tmod_eq_emod_of_nonneg h]; omega
    · have e : Int.tmod n 8640 = -((-n) % 8640) := by
        rw [← Int.tmod_eq_emod_of_nonneg (by omega), Int.neg_tmod]; omega
      rw [e]; omega
  have HE := Lib.hid e1
  clear e1
  go_enter Tryz.func71, Tryz.ntmps71
  go_wp2
  go_ret
  exact ⟨ret_i (by rw [HE.out]), rfl⟩

theorem C_times (d : Int) (w : World) (h0 : 0 ≤ d) (h1 : d ≤ 1000000000) : Calls Tryz.prog 72 #[.int .i64 d] w fun e w' => e = .returned (.int .i64 (d * 8640)) ∧ w = w' := by
  go_enter Tryz.func72, Tryz.ntmps72
  go_wp2
  go_ret
  exact ⟨rfl, rfl⟩
end Go.Proofs.YtbefkiebdokbdaaGreat.V
end

section
/- Contracts: cal.Coarsest, cal.Horizon. -/
namespace Go.Proofs.YtbefkiebdokbdaaGreat.V
open Go.RowKit
set_option linter.unusedVariables false
set_option maxRecDepth 100000

/-- The greatest level below k of which both are multiples. -/
def coar (start step : Int) : Nat → Nat
  | 0 => 0
  | k + 1 => if start % resN k = 0 ∧ step % resN k = 0 then k else coar start step k
theorem coar_lt (start step : Int) : ∀ k, coar start step k ≤ k
  | 0 => Nat.le_refl _
  | k + 1 => by unfold coar; split <;> have := coar_lt start step k <;> omega
theorem coar_3 (start step : Int) : coar start step 4 < 4 := by
  unfold coar
  split
  · omega
  · have := coar_lt start step 3; omega
set_option maxHeartbeats 1000000 in
theorem C_Coarsest (start step : Int) (w : World) (h0 : 0 ≤ start) (h1 : start ≤ 9223372036854775807) (h2 : 0 ≤ step) (h3 : step ≤ 9223372036854775807) :
    Calls Tryz.prog 38 #[.int .i64 start, .int .i64 step] w fun e w' => e = .returned (.int .i64 (coar start step 4)) ∧ Below w.heap.size w w' := by
  go_enter Tryz.func38, Tryz.ntmps38
  go_wp2_with fail
  go_loopw [5, 7] (fun l i wr => ∃ k : Nat, k ≤ 4 ∧ i = .int .i64 k ∧ l = .int .i64 (coar start step k) ∧ Below w.heap.size w wr) (fun _ i _ => 4 - (intOf i).toNat)
  case atStart => exact ⟨0, by omega, rfl, rfl, Below.refl _ _⟩
  case round =>
    obtain ⟨k, hk, rfl, rfl, hbl⟩ := hrel
    by_cases hlt : k < 4
    · have hr := resN_pos k
      have hrz : (resN k == 0) = false := by simp; omega
      have hrn : resN k ≠ 0 := by omega
      have hcs : coar start step (k + 1) = if start % resN k = 0 ∧ step % resN k = 0 then k else coar start step k := rfl
      have HC := Lib.hid hcs
      clear hcs
      have hsz := hbl.size
      have hwr : IntKind.i64.wrap (↑k + 1) = ↑k + 1 := IntWalk.i64_in _ (by omega)
      generalize hl : coar start step k = lv at *
      by_cases a : start % resN k = 0
      · have a1 : (start % resN k == 0) = true := by simpa using a
        by_cases b : step % resN k = 0
        · have b1 : (step % resN k == 0) = true := by simpa using b
          have HN := Lib.hid (HC.out.trans (if_pos ⟨a, b⟩))
          clear a b HC hsz
          go_wp2_with (go_at_call 73; refine (C_Res k hlt _).mono ?_; rintro e w1 ⟨rfl, hb1⟩; replace hbl := hbl.trans (hb1.mono hbl.size); clear hb1)
          go_roundw
          case rel => exact ⟨k + 1, by omega, by go_num, by rw [HN.out], hbl⟩
          case measure => simp [intOf]; omega
        · have b1 : (step % resN k == 0) = false := by simpa using b
          have HN := Lib.hid (HC.out.trans (if_neg (fun h => b h.2)))
          clear a b HC hsz
          go_wp2_with (go_at_call 73; refine (C_Res k hlt _).mono ?_; rintro e w1 ⟨rfl, hb1⟩; replace hbl := hbl.trans (hb1.mono hbl.size); clear hb1)
          go_roundw
          case rel => exact ⟨k + 1, by omega, by go_num, by rw [HN.out], hbl⟩
          case measure => simp [intOf]; omega
      · have a1 : (start % resN k == 0) = false := by simpa using a
        have HN := Lib.hid (HC.out.trans (if_neg (fun h => a h.1)))
        clear a HC hsz
        go_wp2_with (go_at_call 73; refine (C_Res k hlt _).mono ?_; rintro e w1 ⟨rfl, hb1⟩; replace hbl := hbl.trans (hb1.mono hbl.size); clear hb1)
        go_roundw
        case rel => exact ⟨k + 1, by omega, by go_num, by rw [HN.out], hbl⟩
        case measure => simp [intOf]; omega
    · obtain rfl : k = 4 := by omega
      go_wp2
      go_ret
      exact ⟨rfl, hbl⟩

structure Conf where
  slack : Int
  k0 : Int
  k1 : Int
  k2 : Int
  k3 : Int
@[reducible] def confL (c : Conf) : List Value := [.int .i64 c.slack, .int .i64 c.k0, .int .i64 c.k1, .int .i64 c.k2, .int .i64 c.k3]
def Conf.keep (c : Conf) (k : Nat) : Int := match k with | 0 => c.k0 | 1 => c.k1 | 2 => c.k2 | _ => c.k3
def hzn (keep now : Int) : Int := if now / 8640 ≤ keep then 0 else (now / 8640 - keep) * 8640
theorem C_Horizon (c : Conf) (now : Int) (k : Nat) (w : World) (hk : k < 4) (h0 : 0 ≤ now) (h1 : now ≤ 1099511627776) (hc0 : 1 ≤ c.k0 ∧ c.k0 ≤ 100000) (hc1 : 1 ≤ c.k1 ∧ c.k1 ≤ 100000) (hc2 : 1 ≤ c.k2 ∧ c.k2 ≤ 100000) (hc3 : 1 ≤ c.k3 ∧ c.k3 ≤ 100000) :
    Calls Tryz.prog 37 #[.agg (confL c).toArray, .int .i64 now, .int .i64 k] w fun e w' => e = .returned (.int .i64 (hzn (c.keep k) now)) ∧ Below w.heap.size w w' := by
  obtain ⟨sl, q0, q1, q2, q3⟩ := c
  dsimp only at hc0 hc1 hc2 hc3
  have e1 : (now - now % 8640) / 8640 = now / 8640 := by omega
  have b1 : 0 ≤ now - now % 8640 := by omega
  have key : ∀ (q : Int) (lv : Int), 1 ≤ q ∧ q ≤ 100000 → (lv = 0 ∧ q = q0 ∨ lv = 1 ∧ q = q1 ∨ lv = 2 ∧ q = q2 ∨ lv = 3 ∧ q = q3) →
      Calls Tryz.prog 37 #[.agg #[.int .i64 sl, .int .i64 q0, .int .i64 q1, .int .i64 q2, .int .i64 q3], .int .i64 now, .int .i64 lv] w fun e w' => e = .returned (.int .i64 (hzn q now)) ∧ Below w.heap.size w w' := by
    intro q lv hq hl
    obtain ⟨m1, m2⟩ := hq
    have HE := Lib.hid e1
    have HH := Lib.hid (show hzn q now = if now / 8640 ≤ q then 0 else (now / 8640 - q) * 8640 from rfl)
    generalize hd : now / 8640 = d at *
    have hd1 : 0 ≤ d ∧ d ≤ 200000000 := by omega
    obtain ⟨hd1, hd2⟩ := hd1
    have hr1 : 0 ≤ now % 8640 := by omega
    have hr2 : now % 8640 ≤ now := by omega
    clear hd HE
    have mx0 : max (0 : Int) (min 0 3) = 0 := by decide
    have mx1 : max (0 : Int) (min 1 3) = 1 := by decide
    have mx2 : max (0 : Int) (min 2 3) = 2 := by decide
    have mx3 : max (0 : Int) (min 3 3) = 3 := by decide
    have mx4 : max (0 : Int) 3 = 3 := by decide
    rcases hl with ⟨rfl, rfl⟩ | ⟨rfl, rfl⟩ | ⟨rfl, rfl⟩ | ⟨rfl, rfl⟩
    all_goals
      by_cases hle : d ≤ q
      · have HR := Lib.hid (HH.out.trans (if_pos hle))
        go_enter Tryz.func37, Tryz.ntmps37
        go_wp2_with (go_at_call 71; refine (C_rest now _ ⟨by omega, by omega⟩).mono ?_; rintro e w1 ⟨rfl, rfl⟩)
        go_ret
        exact ⟨ret_i (by rw [HR.out]), by (repeat (first | exact Below.refl _ _ | assumption | refine Below.drew ?_ | refine Below.alloc ?_ (by simp <;> omega) _ | refine Below.setCell ?_ (by simp <;> omega) _))⟩
      · have HR := Lib.hid (HH.out.trans (if_neg hle))
        go_enter Tryz.func37, Tryz.ntmps37
        go_wp2_with (go_at_call 71; refine (C_rest now _ ⟨by omega, by omega⟩).mono ?_; rintro e w1 ⟨rfl, rfl⟩)
        rw [e1]
        refine (C_times (d - q) _ (by omega) (by omega)).mono ?_
        rintro e w1 ⟨rfl, rfl⟩
        go_wp2
        go_ret
        exact ⟨ret_i (by rw [HR.out]), by (repeat (first | exact Below.refl _ _ | assumption | refine Below.drew ?_ | refine Below.alloc ?_ (by simp <;> omega) _ | refine Below.setCell ?_ (by simp <;> omega) _))⟩
  rcases k with _ | _ | _ | _ | k
  · exact key q0 0 hc0 (by simp)
  · exact key q1 1 hc1 (by simp)
  · exact key q2 2 hc2 (by simp)
  · exact key q3 3 hc3 (by simp)
  · omega
end Go.Proofs.YtbefkiebdokbdaaGreat.V
end
