/- Contracts of package pair: Sum of sketches that all may be. -/
import Derived.Test.YtbefkiebdokbdaaGreatPair
namespace Go.Proofs.YtbefkiebdokbdaaGreat.V
open Go.RowKit
set_option linter.unusedVariables false
set_option maxRecDepth 100000

def GBlk (w : World) (b : Nat) (g : Gauge) : Prop := w.heap[b]? = some (.cells #[.int .u64 g.n, .int .u64 g.nans, .int .u64 g.lo, .int .u64 g.hi] 42 (0, 0))
section
variable {w w' : World} {b : Nat} {g : Gauge}
theorem GBlk.lt (h : GBlk w b g) : b < w.heap.size := (Array.getElem?_eq_some_iff.1 h).1
theorem GBlk.c0 (h : GBlk w b g) : w.cell? ⟨b, 0, none⟩ = some (.int .u64 g.n) := by unfold GBlk at h; simp [World.cell?, h]
theorem GBlk.c1 (h : GBlk w b g) : w.cell? ⟨b, 1, none⟩ = some (.int .u64 g.nans) := by unfold GBlk at h; simp [World.cell?, h]
theorem GBlk.c2 (h : GBlk w b g) : w.cell? ⟨b, 2, none⟩ = some (.int .u64 g.lo) := by unfold GBlk at h; simp [World.cell?, h]
theorem GBlk.c3 (h : GBlk w b g) : w.cell? ⟨b, 3, none⟩ = some (.int .u64 g.hi) := by unfold GBlk at h; simp [World.cell?, h]
theorem GBlk.f (h : GBlk w b g) (o : Nat) : w.frozen? ⟨b, o, none⟩ = false := by unfold GBlk at h; simp [World.frozen?, h]
theorem GBlk.frm {S : Nat → Prop} (h : GBlk w b g) (hf : Frm S w w') (hn : ¬ S b) : GBlk w' b g := by unfold GBlk; rw [hf.block b h.lt hn]; exact h
theorem GBlk.below (h : GBlk w b g) (hb : Below w.heap.size w w') : GBlk w' b g := by unfold GBlk; rw [hb.block b h.lt]; exact h
end
/-- The sums so far. -/
def sumH (l : List Sketch) : List Int := l.foldl (fun h s => hAdd h s.hist) h0
def sumK (l : List Sketch) : List Int := l.foldl (fun k s => kAll k s.hashes) []
def sumG (l : List Sketch) : Gauge := l.foldl (fun g s => gMerge g s.gauge) ⟨0, 0, 0, 0⟩
theorem sumH_take {l : List Sketch} {k : Nat} (hk : k < l.length) : sumH (l.take (k + 1)) = hAdd (sumH (l.take k)) l[k].hist := by
  unfold sumH; rw [List.take_succ_eq_append_getElem hk, List.foldl_append]; rfl
theorem sumK_take {l : List Sketch} {k : Nat} (hk : k < l.length) : sumK (l.take (k + 1)) = kAll (sumK (l.take k)) l[k].hashes := by
  unfold sumK; rw [List.take_succ_eq_append_getElem hk, List.foldl_append]; rfl
theorem sumG_take {l : List Sketch} {k : Nat} (hk : k < l.length) : sumG (l.take (k + 1)) = gMerge (sumG (l.take k)) l[k].gauge := by
  unfold sumG; rw [List.take_succ_eq_append_getElem hk, List.foldl_append]; rfl
theorem sumG_wf {l : List Sketch} (h : ∀ s ∈ l, s.gauge.wf) : (sumG l).wf := by
  unfold sumG
  have : ∀ (l : List Sketch) (g : Gauge), g.wf → (∀ s ∈ l, s.gauge.wf) → (l.foldl (fun g s => gMerge g s.gauge) g).wf := by
    intro l
    induction l with
    | nil => intro g hg _; exact hg
    | cons x l ih => intro g hg h; exact ih _ (gMerge_wf hg (h x (by simp))) (fun s hs => h s (by simp [hs]))
  exact this l _ (by simp [Gauge.wf, U64]) h

/-- What Sum has in hand. -/
structure Acc (w0 w : World) (gh gk m gg r : Nat) (h ks : List Int) (g : Gauge) : Prop where
  hist : HistAt w gh h
  kmv : KmvAt w gk m ks
  gauge : GBlk w gg g
  res : w.heap[r]? = some (.cells #[.slice none 0 0, .slice none 0 0, .int .u64 0, .int .u64 0, .int .u64 0, .int .u64 0] 44 (0, 0))
  below : Below w0.heap.size w0 w
  new : w0.heap.size ≤ gh ∧ w0.heap.size ≤ gk ∧ w0.heap.size ≤ m ∧ w0.heap.size ≤ gg ∧ w0.heap.size ≤ r
  ne : gh ≠ gk ∧ gh ≠ m ∧ gg ≠ gh ∧ gg ≠ gk ∧ gg ≠ m ∧ r ≠ gh ∧ r ≠ gk ∧ r ≠ m ∧ r ≠ gg
theorem Acc.frm0 {w0 w w' : World} {gh gk m gg r : Nat} {h ks : List Int} {g : Gauge} (H : Acc w0 w gh gk m gg r h ks g) (hb : Below w.heap.size w w') : Acc w0 w' gh gk m gg r h ks g :=
  ⟨H.hist.below hb, H.kmv.below hb, H.gauge.below hb, by rw [hb.block r (Array.getElem?_eq_some_iff.1 H.res).1]; exact H.res, H.below.trans (hb.mono H.below.size), H.new, H.ne⟩
theorem Acc.hset {w0 w w' : World} {gh gk m gg r : Nat} {h h' ks : List Int} {g : Gauge} (H : Acc w0 w gh gk m gg r h ks g) (hg : w.grownBy w' (some gh)) (hh : HistAt w' gh h') : Acc w0 w' gh gk m gg r h' ks g := by
  obtain ⟨n1, n2, n3, n4, n5, n6, n7, n8, n9⟩ := H.ne
  have hf : Frm (fun k => k = gh) w w' := Frm.of_grown hg rfl
  exact ⟨hh, H.kmv.frm hf (fun e => n1 e.symm) (fun e => n2 e.symm), H.gauge.frm hf n3, by rw [hf.block r (Array.getElem?_eq_some_iff.1 H.res).1 n6]; exact H.res,
    hf.to_below H.below (fun k _ e => by subst e; exact H.new.1), H.new, H.ne⟩
theorem Acc.kset {w0 w w' : World} {gh gk m gg r : Nat} {h ks ks' : List Int} {g : Gauge} (H : Acc w0 w gh gk m gg r h ks g) (hf : Frm (fun k => k = gk ∨ k = m) w w') (hk : KmvAt w' gk m ks') : Acc w0 w' gh gk m gg r h ks' g := by
  obtain ⟨n1, n2, n3, n4, n5, n6, n7, n8, n9⟩ := H.ne
  exact ⟨H.hist.frm hf (by omega), hk, H.gauge.frm hf (by omega), by rw [hf.block r (Array.getElem?_eq_some_iff.1 H.res).1 (by omega)]; exact H.res,
    hf.to_below H.below (fun k _ e => by have := H.new; omega), H.new, H.ne⟩

theorem Acc.drew {w0 w : World} {gh gk m gg r : Nat} {h ks : List Int} {g : Gauge} (H : Acc w0 w gh gk m gg r h ks g) : Acc w0 w.drew gh gk m gg r h ks g := H.frm0 ⟨rfl, rfl, rfl, Nat.le_refl _, fun _ _ => rfl⟩
section
variable {w : World} {r : Nat}
def RBlk (w : World) (r : Nat) : Prop := w.heap[r]? = some (.cells #[.slice none 0 0, .slice none 0 0, .int .u64 0, .int .u64 0, .int .u64 0, .int .u64 0] 44 (0, 0))
theorem RBlk.c0 (h : RBlk w r) : w.cell? ⟨r, 0, none⟩ = some (.slice none 0 0) := by unfold RBlk at h; simp [World.cell?, h]
theorem RBlk.c1 (h : RBlk w r) : w.cell? ⟨r, 1, none⟩ = some (.slice none 0 0) := by unfold RBlk at h; simp [World.cell?, h]
theorem RBlk.c2 (h : RBlk w r) : w.cell? ⟨r, 2, none⟩ = some (.int .u64 0) := by unfold RBlk at h; simp [World.cell?, h]
theorem RBlk.c3 (h : RBlk w r) : w.cell? ⟨r, 3, none⟩ = some (.int .u64 0) := by unfold RBlk at h; simp [World.cell?, h]
theorem RBlk.c4 (h : RBlk w r) : w.cell? ⟨r, 4, none⟩ = some (.int .u64 0) := by unfold RBlk at h; simp [World.cell?, h]
theorem RBlk.c5 (h : RBlk w r) : w.cell? ⟨r, 5, none⟩ = some (.int .u64 0) := by unfold RBlk at h; simp [World.cell?, h]
theorem RBlk.f (h : RBlk w r) (o : Nat) : w.frozen? ⟨r, o, none⟩ = false := by unfold RBlk at h; simp [World.frozen?, h]
end
theorem Sl.sketch {ok : Nat → Prop} {w : World} {A : Option Addr} {xs : List Sketch} (h : Sl ok w A xs) {k : Nat} (hk : k < xs.length) :
    ∃ b off A1 c1 A2 c2, A = some ⟨b, off, none⟩ ∧ ok b ∧ b < w.heap.size ∧ w.cell? ⟨b, off + k * 6, none⟩ = some (.slice A1 xs[k].hist.length c1) ∧ w.cell? ⟨b, off + k * 6 + 1, none⟩ = some (.slice A2 xs[k].hashes.length c2)
      ∧ w.cell? ⟨b, off + k * 6 + 2, none⟩ = some (.int .u64 xs[k].gauge.n) ∧ w.cell? ⟨b, off + k * 6 + 3, none⟩ = some (.int .u64 xs[k].gauge.nans) ∧ w.cell? ⟨b, off + k * 6 + 4, none⟩ = some (.int .u64 xs[k].gauge.lo) ∧ w.cell? ⟨b, off + k * 6 + 5, none⟩ = some (.int .u64 xs[k].gauge.hi)
      ∧ Sl ok w A1 xs[k].hist ∧ Sl ok w A2 xs[k].hashes ∧ xs[k].gauge.wf := by
  obtain ⟨b, off, vs, rfl, hv, hc⟩ := h.at_ hk
  obtain ⟨A1, c1, A2, c2, rfl, h1, h2, h3, _⟩ := hv
  exact ⟨b, off, A1, c1, A2, c2, rfl, hc.1, hc.2.1, hc.c0, hc.c1, hc.cj 2 _ rfl, hc.cj 3 _ rfl, hc.cj 4 _ rfl, hc.cj 5 _ rfl, h1, h2, h3⟩

theorem GBlk.set4 {w : World} {b : Nat} {g : Gauge} (h : GBlk w b g) (g' : Gauge) : GBlk ((((w.setCell ⟨b, 0, none⟩ (.int .u64 g'.n)).setCell ⟨b, 1, none⟩ (.int .u64 g'.nans)).setCell ⟨b, 2, none⟩ (.int .u64 g'.lo)).setCell ⟨b, 3, none⟩ (.int .u64 g'.hi)) b g' := by
  unfold GBlk at *
  have hl := (Array.getElem?_eq_some_iff.1 h).1
  have h' := (Array.getElem?_eq_some_iff.1 h).2
  simp [World.setCell, Array.getElem?_modify, h]
theorem Acc.gset {w0 w : World} {gh gk m gg r : Nat} {h ks : List Int} {g : Gauge} (H : Acc w0 w gh gk m gg r h ks g) (g' : Gauge) :
    Acc w0 ((((w.setCell ⟨gg, 0, none⟩ (.int .u64 g'.n)).setCell ⟨gg, 1, none⟩ (.int .u64 g'.nans)).setCell ⟨gg, 2, none⟩ (.int .u64 g'.lo)).setCell ⟨gg, 3, none⟩ (.int .u64 g'.hi)) gh gk m gg r h ks g' := by
  obtain ⟨n1, n2, n3, n4, n5, n6, n7, n8, n9⟩ := H.ne
  have hg := H.gauge.set4 g'
  have hf : Frm (fun k => k = gg) w ((((w.setCell ⟨gg, 0, none⟩ (.int .u64 g'.n)).setCell ⟨gg, 1, none⟩ (.int .u64 g'.nans)).setCell ⟨gg, 2, none⟩ (.int .u64 g'.lo)).setCell ⟨gg, 3, none⟩ (.int .u64 g'.hi)) :=
by
    have a0 : Frm (fun k => k = gg) w w := Frm.refl _ w
    have a1 := a0.set (p := ⟨gg, 0, none⟩) (.inr rfl) (.int .u64 g'.n)
    have a2 := a1.set (p := ⟨gg, 1, none⟩) (.inr rfl) (.int .u64 g'.nans)
    have a3 := a2.set (p := ⟨gg, 2, none⟩) (.inr rfl) (.int .u64 g'.lo)
    exact a3.set (p := ⟨gg, 3, none⟩) (.inr rfl) (.int .u64 g'.hi)
  exact ⟨H.hist.frm hf (fun e => n3 e.symm), H.kmv.frm hf (fun e => n4 e.symm) (fun e => n5 e.symm), hg, by rw [hf.block r (Array.getElem?_eq_some_iff.1 H.res).1 n9]; exact H.res,
    hf.to_below H.below (fun k _ e => by subst e; exact H.new.2.2.2.1), H.new, H.ne⟩
theorem keeps_of {w a b : World} (h : Below w.heap.size w a) (h' : Below w.heap.size w b) (hs : a.heap.size ≤ b.heap.size) : Keeps (fun k => k < w.heap.size) a b :=
  ⟨hs, fun k hk _ => by rw [h'.block k hk, h.block k hk]⟩
theorem fcell {S : Nat → Prop} {w w' : World} {b off : Nat} {v : Value} (hf : Frm S w w') (hn : ¬ S b) (hc : w.cell? ⟨b, off, none⟩ = some v) : w'.cell? ⟨b, off, none⟩ = some v := by
  have hl : b < w.heap.size := by
    by_cases hl : b < w.heap.size
    · exact hl
    · have : w.heap[b]? = none := by rw [Array.getElem?_eq_none_iff]; omega
      simp [World.cell?, this] at hc
  exact (hf.cell (p := ⟨b, off, none⟩) hl hn).trans hc

theorem cset {w : World} {b o r p : Nat} {v x : Value} (h : w.cell? ⟨b, o, none⟩ = some v) (hne : r ≠ b) : (w.setCell ⟨r, p, none⟩ x).cell? ⟨b, o, none⟩ = some v :=
by
  have a0 : Frm (fun k => k = r) w w := Frm.refl _ w
  exact fcell (a0.set (p := ⟨r, p, none⟩) (.inr rfl) x) (fun e => hne e.symm) h
/-- A row of plain elements that was owned, read in a world in which older blocks may have been written. -/
theorem Own.flat {α : Type} [Rep α] {w w' : World} {base e n c : Nat} {A : Option Addr} {xs : List α} (hflat : ∀ (ok ok' : Nat → Prop) (w w' : World) (vs : List Value) (x : α), Rep.rep ok w vs x → Rep.rep ok' w' vs x)
    (h : Own w base e (.slice A n c) xs) (hf : Frm (fun k => k < base) w w') : Sl (fun k => base ≤ k ∧ k < w'.heap.size) w' A xs := by
  obtain ⟨cs, hr, ho⟩ := h
  have hr' : Reps (fun k => base ≤ k ∧ k < w'.heap.size) w' cs xs := by
    clear ho
    induction hr with
    | nil => exact .nil
    | cons h _ ih => exact .cons (hflat _ _ _ _ _ _ h) ih
  rcases ho.2 with ⟨hv, h0⟩ | ⟨g, cap, cur, hv, hg, hh, hn, hm, hs, ht⟩
  · exact ⟨by omega, cs, hr', fun hp => by omega⟩
  · have hl := (Array.getElem?_eq_some_iff.1 hh).1
    refine ⟨by unfold maxLen at hm; omega, cs, hr', fun hp => ⟨g, 0, by cases hv; rfl, ⟨hg, Nat.lt_of_lt_of_le hl hf.size⟩, Nat.lt_of_lt_of_le hl hf.size, fun j u hu => ?_⟩⟩
    have := ho.cells (g := g) (by cases hv; rfl) j u hu
    rw [show (⟨g, 0, none⟩ : Addr).add j = ⟨g, 0 + j, none⟩ by unfold Addr.add; split <;> simp_all] at this
    exact fcell hf (by omega) this
theorem cdrew {w : World} {b o : Nat} {v : Value} (h : w.cell? ⟨b, o, none⟩ = some v) : w.drew.cell? ⟨b, o, none⟩ = some v := h

set_option maxHeartbeats 4000000 in
theorem C_pair_Sum (A : Option Addr) (cap : Nat) (xs : List Sketch) (w : World) (hr : Sl (fun k => k < w.heap.size) w A xs) (hc : ∀ s ∈ xs, pCheck s = true) :
    Calls Tryz.prog 96 #[.slice A xs.length cap] w fun e w' => ∃ A1 c1 A2 c2 v1 v2, e = .returned (.tuple #[.agg #[v1, v2, .int .u64 (sumG xs).n, .int .u64 (sumG xs).nans, .int .u64 (sumG xs).lo, .int .u64 (sumG xs).hi], .int .i64 0])
      ∧ v1 = .slice A1 (hBk (sumH xs) 7424).length c1 ∧ v2 = .slice A2 (sumK xs).length c2 ∧ Sl (fun k => k < w'.heap.size) w' A1 (hBk (sumH xs) 7424) ∧ Sl (fun k => k < w'.heap.size) w' A2 (sumK xs) ∧ (A1 = none → c1 = 0) ∧ (A2 = none → c2 = 0) ∧ Below w.heap.size w w' := by
  have hlen := hr.1
  have HC := Lib.hid hc
  clear hc
  go_enter Tryz.func96, Tryz.ntmps96
  go_wp2_with fail
  refine (C_hist_New _).mono ?_
  rintro e w1 ⟨rfl, hH, hb1⟩
  go_wp2_with fail
  refine (C_kmv_New _).mono ?_
  rintro e w2 ⟨rfl, hK, hb2⟩
  go_wp2_with fail
  obtain ⟨W, hW⟩ : ∃ W, W = w2.alloc (.cells #[.int .u64 0, .int .u64 0, .int .u64 0, .int .u64 0] 42) := ⟨_, rfl⟩
  have hA : Acc w W (w.heap.size + 1) (w1.heap.size + 1) w1.heap.size w2.heap.size w.heap.size (sumH (xs.take 0)) (sumK (xs.take 0)) (sumG (xs.take 0)) := by
    have hb0 : Below w.heap.size w (w.alloc (.cells #[.slice none 0 0, .slice none 0 0, .int .u64 0, .int .u64 0, .int .u64 0, .int .u64 0] 44)) := (Below.refl _ _).alloc (Nat.le_refl _) _
    have hs0 : (w.alloc (.cells #[.slice none 0 0, .slice none 0 0, .int .u64 0, .int .u64 0, .int .u64 0, .int .u64 0] 44)).heap.size = w.heap.size + 1 := by simp
    have hs1 := hb1.size
    have hs2 := hb2.size
    have hlt := hH.lt
    have hkl := hK.lt
    rw [hs0] at hs1 hlt
    have hbW : Below w2.heap.size w2 W := hW ▸ (Below.refl _ _).alloc (Nat.le_refl _) _
    rw [hs0] at hH
    refine ⟨(hH.below hb2).below hbW, hK.below hbW, by rw [hW]; exact heap_alloc_new _ _, ?_, ((hb0.trans (hb1.mono hb0.size)).trans (hb2.mono (by omega))).trans (hbW.mono (by omega)), by omega, by omega⟩
    rw [hbW.block _ (by omega), hb2.block _ (by omega), hb1.block _ (by rw [hs0]; omega)]
    exact heap_alloc_new _ _
  rw [← hW]
  clear hW hH hK hb1 hb2
  generalize w.heap.size + 1 = gh at *
  generalize w1.heap.size + 1 = gk at *
  generalize w1.heap.size = m at *
  generalize w2.heap.size = gg at *
  go_loopw [8, 14] (fun _ i wr => ∃ (k : Nat), k ≤ xs.length ∧ i = .int .i64 k ∧ Acc w wr gh gk m gg w.heap.size (sumH (xs.take k)) (sumK (xs.take k)) (sumG (xs.take k))) (fun _ i _ => xs.length - (intOf i).toNat)
  case atStart => exact ⟨0, Nat.zero_le _, rfl, hA⟩
  case round =>
    clear hA
    obtain ⟨k, hk, rfl, hA⟩ := hrel
    by_cases hlt : k < xs.length
    · obtain ⟨b, off, A1, c1, A2, c2, rfl, hob, hlb, y0, y1, y2, y3, y4, y5, s1, s2, sg⟩ := (hr.below hA.below).sketch hlt
      have hpc := HC.out _ (List.getElem_mem hlt)
      unfold pCheck at hpc
      rw [Bool.and_eq_true, Bool.and_eq_true] at hpc
      obtain ⟨⟨p1, p2⟩, p3⟩ := hpc
      have p0 : pCheck xs[k] = true := HC.out _ (List.getElem_mem hlt)
      have e1 := sumH_take hlt
      have e2 := sumK_take hlt
      have e3 := sumG_take hlt
      have hgw : (sumG (xs.take k)).wf := sumG_wf (fun s hs => by
        obtain ⟨j, hj, e⟩ := List.mem_iff_getElem.1 (List.mem_of_mem_take hs)
        obtain ⟨_, _, _, _, _, _, _, _, _, _, _, _, _, _, _, _, _, g⟩ := hr.sketch hj
        exact e ▸ g)
      generalize sumH (xs.take k) = H0 at *
      generalize sumK (xs.take k) = K0 at *
      generalize sumG (xs.take k) = G0 at *
      obtain ⟨G1, hG1⟩ : ∃ G1, G1 = gMerge G0 xs[k].gauge := ⟨_, rfl⟩
      rw [← hG1] at e3
      have E4 := Lib.hid hG1
      clear hG1
      have E1 := Lib.hid e1
      have E2 := Lib.hid e2
      have E3 := Lib.hid e3
      clear e1 e2 e3
      generalize xs[k] = s at *
      go_wp2_with fail
      obtain ⟨W, hW⟩ : ∃ W, W = wr.alloc (.cells #[.slice A1 s.hist.length c1, .slice A2 s.hashes.length c2, .int .u64 s.gauge.n, .int .u64 s.gauge.nans, .int .u64 s.gauge.lo, .int .u64 s.gauge.hi] 44) := ⟨_, rfl⟩
      rw [← hW]
      have hbW : Below wr.heap.size wr W := hW ▸ (Below.refl _ _).alloc (Nat.le_refl _) _
      have x0 : W.cell? ⟨wr.heap.size, 0, none⟩ = some (.slice A1 s.hist.length c1) := by rw [hW]; simp
      have x1 : W.cell? ⟨wr.heap.size, 1, none⟩ = some (.slice A2 s.hashes.length c2) := by rw [hW]; simp
      have x2 : W.cell? ⟨wr.heap.size, 2, none⟩ = some (.int .u64 s.gauge.n) := by rw [hW]; simp
      have x3 : W.cell? ⟨wr.heap.size, 3, none⟩ = some (.int .u64 s.gauge.nans) := by rw [hW]; simp
      have x4 : W.cell? ⟨wr.heap.size, 4, none⟩ = some (.int .u64 s.gauge.lo) := by rw [hW]; simp
      have x5 : W.cell? ⟨wr.heap.size, 5, none⟩ = some (.int .u64 s.gauge.hi) := by rw [hW]; simp
      have hWs : W.heap.size = wr.heap.size + 1 := by rw [hW]; simp
      clear hW y0 y1 y2 y3 y4 y5
      refine (C_pair_Check _ A1 c1 A2 c2 s _ (s1.below hbW) (s2.below hbW) sg).mono ?_
      rintro e w1 ⟨rfl, hb1⟩
      rw [p0]
      have hA1 := (hA.frm0 hbW).frm0 hb1
      have hsz1 : wr.heap.size + 1 ≤ w1.heap.size := by have := hb1.size; have : W.heap.size = wr.heap.size + 1 := hWs; omega
      have z0 := bcell hb1 x0
      have z1 := bcell hb1 x1
      have z2 := bcell hb1 x2
      have z3 := bcell hb1 x3
      have z4 := bcell hb1 x4
      have z5 := bcell hb1 x5
      have hl1 := hA.hist.lt
      have hl2 := hA.kmv.lt
      have hl3 := hA.gauge.lt
      have hnw := hA.new
      have q1 := s1.keep (keeps_of hA.below hA1.below (by omega))
      have q2 := s2.keep (keeps_of hA.below hA1.below (by omega))
      clear x0 x1 x2 x3 x4 x5 hbW hb1
      go_wp2_with fail
      refine (C_hist_Merge _ gh H0 A1 c1 s.hist _ q1 (fun k hk e => by omega) hA1.hist p1).mono ?_
      rintro e w2 ⟨rfl, hh2, hg2⟩
      have hA2 := hA1.hset hg2 hh2
      have f2 : Frm (fun k => k = gh) w1 w2 := Frm.of_grown hg2 rfl
      replace z1 := fcell f2 (by omega) z1
      replace z2 := fcell f2 (by omega) z2
      replace z3 := fcell f2 (by omega) z3
      replace z4 := fcell f2 (by omega) z4
      replace z5 := fcell f2 (by omega) z5
      replace q2 := q2.keep (keeps_of hA1.below hA2.below hg2.size)
      clear hA1 hh2 hg2 q1
      go_wp2_with fail
      refine (C_kmv_Merge _ gk m K0 A2 c2 s.hashes _ q2 (fun k hk => by omega) hA2.kmv p2).mono ?_
      rintro e w3 ⟨rfl, hk3, hf3⟩
      have hA3 := hA2.kset hf3 hk3
      replace z2 := fcell hf3 (by omega) z2
      replace z3 := fcell hf3 (by omega) z3
      replace z4 := fcell hf3 (by omega) z4
      replace z5 := fcell hf3 (by omega) z5
      clear hA2 hk3 q2
      have g0 := hA3.gauge.c0
      have g1 := hA3.gauge.c1
      have g2 := hA3.gauge.c2
      have g3 := hA3.gauge.c3
      go_wp2_with fail
      refine (C_gauge_Merge G0 s.gauge _ hgw sg).mono ?_
      rintro e w4 ⟨rfl, hb4⟩
      rw [← E4.out]
      have hA4 := hA3.frm0 hb4
      clear hA3
      replace g0 := bcell hb4 g0
      replace g1 := bcell hb4 g1
      replace g2 := bcell hb4 g2
      replace g3 := bcell hb4 g3
      have gf := hA4.gauge.f
      have gf0 := gf 0
      have gf1 := gf 1
      have gf2 := gf 2
      have gf3 := gf 3
      go_wp2
      go_roundw
      case rel => exact ⟨k + 1, by omega, by go_num, by rw [E1.out, E2.out, E3.out]; exact hA4.gset G1⟩
      case measure => simp [intOf]; omega
    · have hkk : k = xs.length := by omega
      rw [hkk, List.take_length] at hA
      clear hlt
      go_wp2_with fail
      have g0 := hA.gauge.c0
      have g1 := hA.gauge.c1
      have g2 := hA.gauge.c2
      have g3 := hA.gauge.c3
      have r0 := RBlk.c0 hA.res
      obtain ⟨n1, n2, n3, n4, n5, n6, n7, n8, n9⟩ := hA.ne
      generalize hgH : sumH xs = H0 at *
      generalize hgK : sumK xs = K0 at *
      generalize hgG : sumG xs = G0 at *
      have GH := Lib.hid hgH
      have GK := Lib.hid hgK
      have GG := Lib.hid hgG
      clear hgH hgK hgG
      go_region_held3? (fun w' => w'.cell? ⟨gg, 0, none⟩ = some (.int .u64 G0.n) ∧ w'.cell? ⟨gg, 1, none⟩ = some (.int .u64 G0.nans) ∧ w'.cell? ⟨gg, 2, none⟩ = some (.int .u64 G0.lo) ∧ w'.cell? ⟨gg, 3, none⟩ = some (.int .u64 G0.hi)) ((first | (refine ⟨?_, ?_, ?_, ?_⟩ <;> with_reducible assumption) | (refine ⟨?_, ?_, ?_, ?_⟩ <;> ((repeat (with_reducible refine cset ?_ n9)); with_reducible assumption)) | (refine ⟨?_, ?_, ?_, ?_⟩ <;> (with_reducible refine cdrew ?_) <;> with_reducible assumption))) (first
        | (go_at_call 122; refine (C_hist_Buckets _ _ _ hA.drew.hist).mono ?_; rintro e wa ⟨v1, rfl, ho1, hba⟩; obtain ⟨B1, d1, rfl, hnil1⟩ := ho1.form; have hAa := hA.drew.frm0 hba; have ga0 := hAa.gauge.c0; have ga1 := hAa.gauge.c1; have ga2 := hAa.gauge.c2; have ga3 := hAa.gauge.c3)
        | (go_at_call 123; refine (C_kmv_Hashes _ _ _ _ hAa.kmv).mono ?_; rintro e wb ⟨v2, rfl, ho2, hbb⟩; obtain ⟨B2, d2, rfl, hnil2⟩ := ho2.form; have hAb := hAa.frm0 hbb; have gb0 := hAb.gauge.c0; have gb1 := hAb.gauge.c1; have gb2 := hAb.gauge.c2; have gb3 := hAb.gauge.c3; have rb0 := RBlk.c0 hAb.res; have rb1 := RBlk.c1 hAb.res; have rb2 := RBlk.c2 hAb.res; have rb3 := RBlk.c3 hAb.res; have rb4 := RBlk.c4 hAb.res; have rb5 := RBlk.c5 hAb.res; have rf0 := RBlk.f hAb.res 0; have rf1 := RBlk.f hAb.res 1; have rf2 := RBlk.f hAb.res 2; have rf3 := RBlk.f hAb.res 3; have rf4 := RBlk.f hAb.res 4; have rf5 := RBlk.f hAb.res 5))
      have hsz := hA.below.size
      have hrl : w.heap.size < wr.heap.size := (Array.getElem?_eq_some_iff.1 hA.res).1
      have hs1 := hba.size
      have hs2 := hbb.size
      have hds : wr.drew.heap.size = wr.heap.size := rfl
      have hRf : ((((((wb.setCell ⟨w.heap.size, 0, none⟩ (.slice B1 (hBk H0 7424).length d1)).setCell ⟨w.heap.size, 1, none⟩ (.slice B2 K0.length d2)).setCell ⟨w.heap.size, 2, none⟩ (.int .u64 G0.n)).setCell ⟨w.heap.size, 3, none⟩ (.int .u64 G0.nans)).setCell ⟨w.heap.size, 4, none⟩ (.int .u64 G0.lo)).setCell ⟨w.heap.size, 5, none⟩ (.int .u64 G0.hi)).heap[w.heap.size]? = some (.cells #[.slice B1 (hBk H0 7424).length d1, .slice B2 K0.length d2, .int .u64 G0.n, .int .u64 G0.nans, .int .u64 G0.lo, .int .u64 G0.hi] 44 (0, 0)) := by
        simp [World.setCell, Array.getElem?_modify, hAb.res]
      generalize hWf : ((((((wb.setCell ⟨w.heap.size, 0, none⟩ (.slice B1 (hBk H0 7424).length d1)).setCell ⟨w.heap.size, 1, none⟩ (.slice B2 K0.length d2)).setCell ⟨w.heap.size, 2, none⟩ (.int .u64 G0.n)).setCell ⟨w.heap.size, 3, none⟩ (.int .u64 G0.nans)).setCell ⟨w.heap.size, 4, none⟩ (.int .u64 G0.lo)).setCell ⟨w.heap.size, 5, none⟩ (.int .u64 G0.hi)) = Wf at hRf ⊢
      have hfw : Frm (fun k => k = w.heap.size) wb Wf := by
        rw [← hWf]
        have a0 : Frm (fun k => k = w.heap.size) wb wb := Frm.refl _ wb
        have a1 := a0.set (p := ⟨w.heap.size, 0, none⟩) (.inr rfl) (.slice B1 (hBk H0 7424).length d1)
        have a2 := a1.set (p := ⟨w.heap.size, 1, none⟩) (.inr rfl) (.slice B2 K0.length d2)
        have a3 := a2.set (p := ⟨w.heap.size, 2, none⟩) (.inr rfl) (.int .u64 G0.n)
        have a4 := a3.set (p := ⟨w.heap.size, 3, none⟩) (.inr rfl) (.int .u64 G0.nans)
        have a5 := a4.set (p := ⟨w.heap.size, 4, none⟩) (.inr rfl) (.int .u64 G0.lo)
        exact a5.set (p := ⟨w.heap.size, 5, none⟩) (.inr rfl) (.int .u64 G0.hi)
      have hfin : (∃ v1 v2, Value.tuple #[.agg #[.slice B1 (hBk H0 7424).length d1, .slice B2 K0.length d2, .int .u64 G0.n, .int .u64 G0.nans, .int .u64 G0.lo, .int .u64 G0.hi], .int .i64 0] = Value.tuple #[.agg #[v1, v2, .int .u64 G0.n, .int .u64 G0.nans, .int .u64 G0.lo, .int .u64 G0.hi], .int .i64 0] ∧ v1 = .slice B1 (hBk H0 7424).length d1 ∧ v2 = .slice B2 K0.length d2 ∧ Sl (fun k => k < Wf.heap.size) Wf B1 (hBk H0 7424) ∧ Sl (fun k => k < Wf.heap.size) Wf B2 K0 ∧ (B1 = none → d1 = 0) ∧ (B2 = none → d2 = 0) ∧ Below w.heap.size w Wf) := by
        refine ⟨_, _, rfl, rfl, rfl, ?_, ?_, fun h => (hnil1 h).2, fun h => (hnil2 h).2, ?_⟩
        · have hf1 : Frm (fun k => k < wr.drew.heap.size) wa Wf := (Frm.of_below (hbb)).trans (hfw.mono (fun k _ e => by omega))
          exact (ho1.flat (fun _ _ _ _ _ _ h => h) hf1).mono (fun k _ h => h.2)
        · have hf1 : Frm (fun k => k < wa.heap.size) wb Wf := hfw.mono (fun k _ e => by omega)
          exact (ho2.flat (fun _ _ _ _ _ _ h => h) hf1).mono (fun k _ h => h.2)
        · exact hfw.to_below hAb.below (fun k _ e => by omega)
      have HF := Lib.hid hfin
      clear hfin hfw hA hAa hAb ho1 ho2 hba hbb
      have k0 : Wf.cell? ⟨w.heap.size, 0, none⟩ = some (.slice B1 (hBk H0 7424).length d1) := by simp [World.cell?, hRf]
      have k1 : Wf.cell? ⟨w.heap.size, 1, none⟩ = some (.slice B2 K0.length d2) := by simp [World.cell?, hRf]
      have k2 : Wf.cell? ⟨w.heap.size, 2, none⟩ = some (.int .u64 G0.n) := by simp [World.cell?, hRf]
      have k3 : Wf.cell? ⟨w.heap.size, 3, none⟩ = some (.int .u64 G0.nans) := by simp [World.cell?, hRf]
      have k4 : Wf.cell? ⟨w.heap.size, 4, none⟩ = some (.int .u64 G0.lo) := by simp [World.cell?, hRf]
      have k5 : Wf.cell? ⟨w.heap.size, 5, none⟩ = some (.int .u64 G0.hi) := by simp [World.cell?, hRf]
      go_wp2
      refine bodyPost_ret (v := .tuple #[.agg #[.slice B1 (hBk H0 7424).length d1, .slice B2 K0.length d2, .int .u64 G0.n, .int .u64 G0.nans, .int .u64 G0.lo, .int .u64 G0.hi], .int .i64 0]) (by simp [results, Tryz.results96, go_sem, k0, k1, k2, k3, k4, k5]) rfl ?_
      rw [GH.out, GK.out, GG.out]
      obtain ⟨v1, v2, h1, h2, h3, h4, h5, h6, h7, h8⟩ := HF.out
      exact ⟨B1, d1, B2, d2, v1, v2, by rw [h1], h2, h3, h4, h5, h6, h7, h8⟩
end Go.Proofs.YtbefkiebdokbdaaGreat.V
