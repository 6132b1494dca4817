/- Contracts: rows.One, rows.May. -/
import Derived.Test.YtbefkiebdokbdaaGreatRowA
namespace Go.Proofs.YtbefkiebdokbdaaGreat.V
open Go.RowKit
set_option linter.unusedVariables false
set_option maxRecDepth 100000

/-- A block of the call's own, cell by cell. -/
def Blk (w : World) (b : Nat) (vs : List Value) (t : Nat) : Prop := w.heap[b]? = some (.cells vs.toArray t (0, 0))
section
variable {w w' : World} {b t : Nat} {vs : List Value}
theorem Blk.lt (h : Blk w b vs t) : b < w.heap.size := (Array.getElem?_eq_some_iff.1 h).1
theorem Blk.c (h : Blk w b vs t) (i : Nat) {v : Value} (hv : vs[i]? = some v) : w.cell? ⟨b, i, none⟩ = some v := by unfold Blk at h; simp [World.cell?, h, hv]
theorem Blk.f (h : Blk w b vs t) (i : Nat) : w.frozen? ⟨b, i, none⟩ = false := by unfold Blk at h; simp [World.frozen?, h]
theorem Blk.frm {S : Nat → Prop} (h : Blk w b vs t) (hf : Frm S w w') (hn : ¬ S b) : Blk w' b vs t := by unfold Blk; rw [hf.block b h.lt hn]; exact h
theorem Blk.below (h : Blk w b vs t) (hb : Below w.heap.size w w') : Blk w' b vs t := by unfold Blk; rw [hb.block b h.lt]; exact h
theorem Blk.drew (h : Blk w b vs t) : Blk w.drew b vs t := h
theorem Blk.set (h : Blk w b vs t) (i : Nat) (x : Value) : Blk (w.setCell ⟨b, i, none⟩ x) b (vs.set i x) t := by
  unfold Blk at *
  simp [World.setCell, Array.getElem?_modify, h]
theorem Blk.other (h : Blk w b vs t) {r : Nat} (i : Nat) (x : Value) (hne : r ≠ b) : Blk (w.setCell ⟨r, i, none⟩ x) b vs t := by
  have a0 : Frm (fun k => k = r) w w := Frm.refl _ w
  exact h.frm (a0.set (p := ⟨r, i, none⟩) (.inr rfl) x) (fun e => hne e.symm)
theorem Blk.new (w : World) (vs : List Value) (t : Nat) : Blk (w.alloc (.cells vs.toArray t)) w.heap.size vs t := heap_alloc_new _ _
end
theorem Frm.one {S : Nat → Prop} {w w' : World} (h : Frm S w w') {r : Nat} (hr : S r) (i : Nat) (x : Value) : Frm S w (w'.setCell ⟨r, i, none⟩ x) := h.set (p := ⟨r, i, none⟩) (.inr hr) x

/-- A row as a value. -/
@[reducible] def rowL (A0 : Option Addr) (c0 : Nat) (A1 : Option Addr) (c1 : Nat) (A2 : Option Addr) (c2 : Nat) (r : Row) : List Value :=
  [.slice A0 r.labels.length c0, .int .i64 r.at_, .slice A1 r.s.hist.length c1, .slice A2 r.s.hashes.length c2, .int .u64 r.s.gauge.n, .int .u64 r.s.gauge.nans, .int .u64 r.s.gauge.lo, .int .u64 r.s.gauge.hi]

theorem C_rows_May (ok : Nat → Prop) (A0 : Option Addr) (c0 : Nat) (A1 : Option Addr) (c1 : Nat) (A2 : Option Addr) (c2 : Nat) (r : Row) (w : World) (h0 : Sl ok w A0 r.labels) (h1 : Sl ok w A1 r.s.hist) (h2 : Sl ok w A2 r.s.hashes) (hg : r.s.gauge.wf) :
    Calls Tryz.prog 93 #[.agg (rowL A0 c0 A1 c1 A2 c2 r).toArray] w fun e w' => e = .returned (.bool (tr (LabelsP r.labels) && pCheck r.s)) ∧ Below w.heap.size w w' := by
  have hc1 := fun w h => C_label_Check ok A0 c0 r.labels w h
  have hc2 := fun w h1 h2 => C_pair_Check ok A1 c1 A2 c2 r.s w h1 h2 hg
  go_enter Tryz.func93, Tryz.ntmps93
  go_wp2_with fail
  obtain ⟨W, hW⟩ : ∃ W, W = w.alloc (.cells (rowL A0 c0 A1 c1 A2 c2 r).toArray 67) := ⟨_, rfl⟩
  have hbW : Below w.heap.size w W := hW ▸ (Below.refl _ _).alloc (Nat.le_refl _) _
  have hB : Blk W w.heap.size (rowL A0 c0 A1 c1 A2 c2 r) 67 := hW ▸ Blk.new _ _ _
  rw [← hW]
  clear hW
  refine (hc1 _ (h0.below hbW)).mono ?_
  rintro e w1 ⟨rfl, hb1⟩
  have hbw1 := hbW.trans (hb1.mono hbW.size)
  have hB1 := hB.below hb1
  have x2 := hB1.c 2 rfl
  have x3 := hB1.c 3 rfl
  have x4 := hB1.c 4 rfl
  have x5 := hB1.c 5 rfl
  have x6 := hB1.c 6 rfl
  have x7 := hB1.c 7 rfl
  clear hB hB1
  cases hL : tr (LabelsP r.labels)
  · go_wp2
    go_ret
    exact ⟨ret_b (by rw [hL]; rfl), hbw1⟩
  · go_wp2_with fail
    refine (hc2 _ (h1.below hbw1) (h2.below hbw1)).mono ?_
    rintro e w2 ⟨rfl, hb2⟩
    go_wp2
    go_ret
    exact ⟨ret_b (by rw [hL]; rfl), hbw1.trans (hb2.mono hbw1.size)⟩

@[reducible] def rowZ : List Value := [.slice none 0 0, .int .i64 0, .slice none 0 0, .slice none 0 0, .int .u64 0, .int .u64 0, .int .u64 0, .int .u64 0]
/-- What rows.One has in hand: its box b with cells P, its result behind it, and what has been since wa. -/
structure OneI (w wa X : World) (b : Nat) (P : List Value) : Prop where
  blk : Blk X b P 67
  res : Blk X (b + 1) rowZ 67
  frm : Frm (fun k => k = b ∨ k = b + 1) wa X
  below : Below w.heap.size w X
  new : w.heap.size ≤ b
section
variable {w wa X X' : World} {b : Nat} {P : List Value}
theorem OneI.step (h : OneI w wa X b P) (hb : Below X.heap.size X X') : OneI w wa X' b P := ⟨h.blk.below hb, h.res.below hb, h.frm.trans (.of_below hb), h.below.trans (hb.mono h.below.size), h.new⟩
theorem OneI.drew (h : OneI w wa X b P) : OneI w wa X.drew b P := h.step ⟨rfl, rfl, rfl, Nat.le_refl _, fun _ _ => rfl⟩
theorem OneI.set (h : OneI w wa X b P) (i : Nat) (x : Value) : OneI w wa (X.setCell ⟨b, i, none⟩ x) b (P.set i x) := by
  have a0 : Frm (fun k => k = b) X X := Frm.refl _ X
  have a1 := a0.one rfl i x
  exact ⟨h.blk.set i x, h.res.other i x (by omega), h.frm.one (.inl rfl) i x, a1.to_below h.below (fun k _ e => by have := h.new; omega), h.new⟩
theorem OneI.sl {α : Type} [Rep α] (h : OneI w wa X b P) {A : Option Addr} {xs : List α} (hs : Sl (fun k => k < w.heap.size) w A xs) : Sl (fun k => k < X.heap.size) X A xs :=
  (hs.below h.below).mono (fun k _ hk => Nat.lt_of_lt_of_le hk h.below.size)
end

/-- The row that rows.One gives. -/
theorem oneEnd {w wa X X1 X2 : World} {b e0 e1 e2 c0 c1 c2 : Nat} {P : List Value} {B0 B1 B2 : Option Addr} {r : Row} (hI : OneI w wa X b P)
    (F1 : Frm (fun k => k = b ∨ k = b + 1) X1 X) (F2 : Frm (fun k => k = b ∨ k = b + 1) X2 X) {b0 b1 b2 : Nat}
    (ho0 : Own wa b0 e0 (.slice B0 r.labels.length c0) r.labels) (h0 : b + 2 ≤ b0) (ho1 : Own X1 b1 e1 (.slice B1 r.s.hist.length c1) r.s.hist) (h1 : b + 2 ≤ b1) (ho2 : Own X2 b2 e2 (.slice B2 r.s.hashes.length c2) r.s.hashes) (h2 : b + 2 ≤ b2)
    (hi : I64 r.at_) (hg : r.s.gauge.wf) (m0 : B0 = none → r.labels = [] ∧ c0 = 0) (m1 : B1 = none → r.s.hist = [] ∧ c1 = 0) (m2 : B2 = none → r.s.hashes = [] ∧ c2 = 0) :
    ∀ X', Frm (fun k => k = b ∨ k = b + 1) X X' → RowRep (fun k => w.heap.size ≤ k) X' (rowL B0 c0 B1 c1 B2 c2 r) r := by
  intro X' hf
  have hn := hI.new
  refine ⟨B0, c0, B1, c1, B2, c2, rfl, ?_, hi, ?_, ?_, hg, fun h => (m0 h).2, fun h => (m1 h).2, fun h => (m2 h).2⟩
  · exact (ho0.flat (fun _ _ _ _ _ _ h => h) ((hI.frm.trans hf).mono (fun k _ h => by omega))).mono (fun k _ h => by omega)
  · exact (ho1.flat (fun _ _ _ _ _ _ h => h) ((F1.trans hf).mono (fun k _ h => by omega))).mono (fun k _ h => by omega)
  · exact (ho2.flat (fun _ _ _ _ _ _ h => h) ((F2.trans hf).mono (fun k _ h => by omega))).mono (fun k _ h => by omega)

/-- Eight cells laid into a block. -/
@[reducible] def set8 (w : World) (b : Nat) (v0 v1 v2 v3 v4 v5 v6 v7 : Value) : World :=
  ((((((((w.setCell ⟨b, 0, none⟩ v0).setCell ⟨b, 1, none⟩ v1).setCell ⟨b, 2, none⟩ v2).setCell ⟨b, 3, none⟩ v3).setCell ⟨b, 4, none⟩ v4).setCell ⟨b, 5, none⟩ v5).setCell ⟨b, 6, none⟩ v6).setCell ⟨b, 7, none⟩ v7)
theorem Blk.set8 {w : World} {b t : Nat} (h : Blk w b rowZ t) (v0 v1 v2 v3 v4 v5 v6 v7 : Value) : Blk (set8 w b v0 v1 v2 v3 v4 v5 v6 v7) b [v0, v1, v2, v3, v4, v5, v6, v7] t :=
  (((((((h.set 0 v0).set 1 v1).set 2 v2).set 3 v3).set 4 v4).set 5 v5).set 6 v6).set 7 v7
theorem Frm.set8 {S : Nat → Prop} {w w' : World} (h : Frm S w w') {b : Nat} (hb : S b) (v0 v1 v2 v3 v4 v5 v6 v7 : Value) : Frm S w (set8 w' b v0 v1 v2 v3 v4 v5 v6 v7) :=
  (((((((h.one hb 0 v0).one hb 1 v1).one hb 2 v2).one hb 3 v3).one hb 4 v4).one hb 5 v5).one hb 6 v6).one hb 7 v7

set_option maxHeartbeats 2000000 in
theorem C_rows_One (A0 : Option Addr) (c0 : Nat) (A1 : Option Addr) (c1 : Nat) (A2 : Option Addr) (c2 : Nat) (r : Row) (w : World) (h0 : Sl (fun k => k < w.heap.size) w A0 r.labels) (h1 : Sl (fun k => k < w.heap.size) w A1 r.s.hist) (h2 : Sl (fun k => k < w.heap.size) w A2 r.s.hashes) (hi : I64 r.at_) (hg : r.s.gauge.wf)
    (n0 : A0 = none → c0 = 0) (n1 : A1 = none → c1 = 0) (n2 : A2 = none → c2 = 0) (l0 : r.labels.length ≤ 1048576) (l1 : r.s.hist.length ≤ 1048576) (l2 : r.s.hashes.length ≤ 1048576) :
    Calls Tryz.prog 92 #[.agg (rowL A0 c0 A1 c1 A2 c2 r).toArray] w fun e w' => ∃ B0 d0 B1 d1 B2 d2, e = .returned (.agg (rowL B0 d0 B1 d1 B2 d2 r).toArray) ∧ RowRep (fun k => w.heap.size ≤ k) w' (rowL B0 d0 B1 d1 B2 d2 r) r ∧ Below w.heap.size w w' := by
  go_enter Tryz.func92, Tryz.ntmps92
  go_wp2_with fail
  obtain ⟨W, hW⟩ : ∃ W, W = (w.alloc (.cells (rowL A0 c0 A1 c1 A2 c2 r).toArray 67)).alloc (.cells rowZ.toArray 67) := ⟨_, rfl⟩
  have hI : OneI w W W w.heap.size (rowL A0 c0 A1 c1 A2 c2 r) := by
    rw [hW]
    have hs : (w.alloc (.cells (rowL A0 c0 A1 c1 A2 c2 r).toArray 67)).heap.size = w.heap.size + 1 := by simp
    have hr := Blk.new (w.alloc (.cells (rowL A0 c0 A1 c1 A2 c2 r).toArray 67)) rowZ 67
    rw [hs] at hr
    exact ⟨(Blk.new w _ _).below ((Below.refl _ _).alloc (Nat.le_refl _) _), hr, Frm.refl _ _, ((Below.refl _ _).alloc (Nat.le_refl _) _).alloc (by simp) _, Nat.le_refl _⟩
  have hWs : W.heap.size = w.heap.size + 2 := by rw [hW]; simp
  rw [← hW]
  clear hW
  refine (C_List_Label A0 c0 r.labels _ (hI.sl h0) n0 l0).mono ?_
  rintro e wa ⟨v0, rfl, ho0, hba⟩
  obtain ⟨B0, d0, rfl, m0⟩ := ho0.form
  have hIa : OneI w wa wa w.heap.size (rowL A0 c0 A1 c1 A2 c2 r) := by
    have := hI.step hba
    exact ⟨this.blk, this.res, Frm.refl _ _, this.below, this.new⟩
  have x0 := hIa.blk.c 0 rfl
  have f0 := hIa.blk.f 0
  have hIb := hIa.set 0 (.slice B0 r.labels.length d0)
  have y2 := hIb.blk.c 2 rfl
  have y3 := hIb.blk.c 3 rfl
  clear hI
  go_wp2_with fail
  have hIc := hIb.drew
  have z2 := hIc.blk.c 2 rfl
  have z3 := hIc.blk.c 3 rfl
  clear x0 f0 hba
  go_region_with (first
    | (go_at_call 114; refine (C_List_Bucket A1 c1 r.s.hist _ (hIc.sl h1) n1 l1).mono ?_; rintro e X1 ⟨v1, rfl, ho1, hb1⟩; obtain ⟨B1, d1, rfl, m1⟩ := ho1.form; have hI1 := hIc.step hb1; have p2 := hI1.blk.c 2 rfl; have p3 := hI1.blk.c 3 rfl; have q2 := hI1.blk.f 2; have q3 := hI1.blk.f 3; have hI1' := hI1.set 2 (.slice B1 r.s.hist.length d1))
    | (go_at_call 115; refine (C_List_num A2 c2 r.s.hashes _ (hI1.sl h2) n2 l2).mono ?_; rintro e X2 ⟨v2, rfl, ho2, hb2⟩; obtain ⟨B2, d2, rfl, m2⟩ := ho2.form; have hI2 := hI1.step hb2; have u2 := hI2.blk.c 2 rfl; have u3 := hI2.blk.c 3 rfl; have t2 := hI2.blk.f 2; have t3 := hI2.blk.f 3; have hI3 := (hI2.set 2 (.slice B1 r.s.hist.length d1)).set 3 (.slice B2 r.s.hashes.length d2); have F1 := @Frm.of_below (fun k => k = w.heap.size ∨ k = w.heap.size + 1) _ _ hb2; have F2 := ((Frm.refl (fun k => k = w.heap.size ∨ k = w.heap.size + 1) X2).one (.inl rfl) 2 (.slice B1 r.s.hist.length d1)).one (.inl rfl) 3 (.slice B2 r.s.hashes.length d2); have hz := hb2.size)
    | (go_at_call 115; refine (C_List_num A2 c2 r.s.hashes _ (hI1'.sl h2) n2 l2).mono ?_; rintro e X2 ⟨v2, rfl, ho2, hb2⟩; obtain ⟨B2, d2, rfl, m2⟩ := ho2.form; have hI2 := hI1'.step hb2; have u2 := hI2.blk.c 2 rfl; have u3 := hI2.blk.c 3 rfl; have t2 := hI2.blk.f 2; have t3 := hI2.blk.f 3; have hI3 := hI2.set 3 (.slice B2 r.s.hashes.length d2); have F1 := ((Frm.refl (fun k => k = w.heap.size ∨ k = w.heap.size + 1) X1).one (.inl rfl) 2 (.slice B1 r.s.hist.length d1)).trans (@Frm.of_below (fun k => k = w.heap.size ∨ k = w.heap.size + 1) _ _ hb2); have F2 := (Frm.refl (fun k => k = w.heap.size ∨ k = w.heap.size + 1) X2).one (.inl rfl) 3 (.slice B2 r.s.hashes.length d2); have hz := hb2.size))
  all_goals
    have hz1 := hb1.size
    have hz0 := hIa.below.size
    have hzb : w.heap.size + 2 ≤ wa.heap.size := by have := hIa.res.lt; omega
    have hX1 : w.heap.size + 2 ≤ X1.heap.size := by have : (wa.setCell ⟨w.heap.size, 0, none⟩ (.slice B0 r.labels.length d0)).drew.heap.size = wa.heap.size := by simp [World.setCell, World.drew]
                                                    omega
    have hfin := oneEnd (r := r) hI3 (F1.trans F2) F2 ho0 (by omega) ho1 (by simp [World.setCell, World.drew]; omega) ho2 (by first | omega | (simp [World.setCell]; omega)) hi hg m0 m1 m2
    have hI4 : OneI w wa _ w.heap.size (rowL B0 d0 B1 d1 B2 d2 r) := hI3
    revert hfin hI4
    clear hI3 F1 F2 hz hI2 t2 t3 u2 u3 hI1' hI1 p2 p3 q2 q3 ho1 ho2 hb1 hb2
    generalize (World.setCell _ ⟨w.heap.size, 3, none⟩ (.slice B2 r.s.hashes.length d2)) = Wf
    intro hfin hI4
    clear hIc z2 z3 hIb y2 y3 hIa ho0
    have k0 := hI4.blk.c 0 rfl
    have k1 := hI4.blk.c 1 rfl
    have k2 := hI4.blk.c 2 rfl
    have k3 := hI4.blk.c 3 rfl
    have k4 := hI4.blk.c 4 rfl
    have k5 := hI4.blk.c 5 rfl
    have k6 := hI4.blk.c 6 rfl
    have k7 := hI4.blk.c 7 rfl
    have j0 := hI4.res.c 0 rfl
    have j1 := hI4.res.c 1 rfl
    have j2 := hI4.res.c 2 rfl
    have j3 := hI4.res.c 3 rfl
    have j4 := hI4.res.c 4 rfl
    have j5 := hI4.res.c 5 rfl
    have j6 := hI4.res.c 6 rfl
    have j7 := hI4.res.c 7 rfl
    have f0 := hI4.res.f 0
    have f1 := hI4.res.f 1
    have f2 := hI4.res.f 2
    have f3 := hI4.res.f 3
    have f4 := hI4.res.f 4
    have f5 := hI4.res.f 5
    have f6 := hI4.res.f 6
    have f7 := hI4.res.f 7
    have FIN := Lib.hid hfin
    clear hfin
    go_wp2
    have hblk := hI4.res.set8 (.slice B0 r.labels.length d0) (.int .i64 r.at_) (.slice B1 r.s.hist.length d1) (.slice B2 r.s.hashes.length d2) (.int .u64 r.s.gauge.n) (.int .u64 r.s.gauge.nans) (.int .u64 r.s.gauge.lo) (.int .u64 r.s.gauge.hi)
    have hfrm := (Frm.refl (fun k => k = w.heap.size ∨ k = w.heap.size + 1) Wf).set8 (b := w.heap.size + 1) (.inr rfl) (.slice B0 r.labels.length d0) (.int .i64 r.at_) (.slice B1 r.s.hist.length d1) (.slice B2 r.s.hashes.length d2) (.int .u64 r.s.gauge.n) (.int .u64 r.s.gauge.nans) (.int .u64 r.s.gauge.lo) (.int .u64 r.s.gauge.hi)
    have hbel := hfrm.to_below hI4.below (fun k _ e => by omega)
    have hrow := FIN.out _ hfrm
    revert hblk hbel hrow
    unfold set8
    clear hfrm j0 j1 j2 j3 j4 j5 j6 j7 k0 k1 k2 k3 k4 k5 k6 k7 f0 f1 f2 f3 f4 f5 f6 f7
    generalize (World.setCell _ ⟨w.heap.size + 1, 7, none⟩ (.int .u64 r.s.gauge.hi)) = Wg
    intro hblk hbel hrow
    have k0 := hblk.c 0 rfl
    have k1 := hblk.c 1 rfl
    have k2 := hblk.c 2 rfl
    have k3 := hblk.c 3 rfl
    have k4 := hblk.c 4 rfl
    have k5 := hblk.c 5 rfl
    have k6 := hblk.c 6 rfl
    have k7 := hblk.c 7 rfl
    refine bodyPost_ret (v := .agg (rowL B0 d0 B1 d1 B2 d2 r).toArray) (by simp [results, Tryz.results92, go_sem, k0, k1, k2, k3, k4, k5, k6, k7]) rfl ?_
    exact ⟨B0, d0, B1, d1, B2, d2, rfl, hrow, hbel⟩
end Go.Proofs.YtbefkiebdokbdaaGreat.V
