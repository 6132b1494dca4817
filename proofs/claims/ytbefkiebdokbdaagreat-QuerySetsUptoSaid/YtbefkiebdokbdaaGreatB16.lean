/- Part 16 of the proof: Pair, Pair2, RowA, RowB, RowC, Match0, Meant0, One0, Win0, Told. -/
import Derived.Test.YtbefkiebdokbdaaGreatB2
import Derived.Test.YtbefkiebdokbdaaGreatB4
import Derived.Test.YtbefkiebdokbdaaGreatB13
import Derived.Test.YtbefkiebdokbdaaGreatB15

section
/- Contracts of package pair: Check. -/
namespace Go.Proofs.YtbefkiebdokbdaaGreat.V
open Go.RowKit
set_option linter.unusedVariables false
set_option maxRecDepth 100000

theorem bcell {w w' : World} {b off : Nat} {v : Value} (h : Below w.heap.size w w') (hc : w.cell? ⟨b, off, none⟩ = some v) : w'.cell? ⟨b, off, none⟩ = some v := by
  have hl : b < w.heap.size := by
    by_cases hl : b < w.heap.size
    · exact hl
    · have : w.heap[b]? = none := by rw [Array.getElem?_eq_none_iff]; omega
      simp [World.cell?, this] at hc
  exact (World.cell?_of_block (h.block b hl)).trans hc

/-- A sketch as a value. -/
@[reducible] def sketchV (A1 : Option Addr) (c1 : Nat) (A2 : Option Addr) (c2 : Nat) (s : Sketch) : Value :=
  .agg #[.slice A1 s.hist.length c1, .slice A2 s.hashes.length c2, .int .u64 s.gauge.n, .int .u64 s.gauge.nans, .int .u64 s.gauge.lo, .int .u64 s.gauge.hi]
def pCheck (s : Sketch) : Bool := chk (-1) s.hist && kchk s.hashes && gCheck s.gauge

theorem C_pair_Check (ok : Nat → Prop) (A1 : Option Addr) (c1 : Nat) (A2 : Option Addr) (c2 : Nat) (s : Sketch) (w : World) (h1 : Sl ok w A1 s.hist) (h2 : Sl ok w A2 s.hashes) (hg : s.gauge.wf) :
    Calls Tryz.prog 117 #[sketchV A1 c1 A2 c2 s] w fun e w' => e = .returned (.bool (pCheck s)) ∧ Below w.heap.size w w' := by
  have hp : pCheck s = (chk (-1) s.hist && kchk s.hashes && gCheck s.gauge) := rfl
  generalize pCheck s = r at *
  have HP := Lib.hid hp
  clear hp
  have hc1 := fun w h => C_hist_Check ok A1 c1 s.hist w h
  have hc2 := fun w h => C_kmv_Check ok A2 c2 s.hashes w h
  have hc3 := fun w => C_gauge_Check s.gauge w hg
  go_enter Tryz.func117, Tryz.ntmps117
  go_wp2_with fail
  obtain ⟨W, hW⟩ : ∃ W, W = w.alloc (.cells #[.slice A1 s.hist.length c1, .slice A2 s.hashes.length c2, .int .u64 s.gauge.n, .int .u64 s.gauge.nans, .int .u64 s.gauge.lo, .int .u64 s.gauge.hi] 44) := ⟨_, rfl⟩
  rw [← hW]
  have hbW : Below w.heap.size w W := hW ▸ (Below.refl _ _).alloc (Nat.le_refl _) _
  have x1 : W.cell? ⟨w.heap.size, 1, none⟩ = some (.slice A2 s.hashes.length c2) := by rw [hW]; simp
  have x2 : W.cell? ⟨w.heap.size, 2, none⟩ = some (.int .u64 s.gauge.n) := by rw [hW]; simp
  have x3 : W.cell? ⟨w.heap.size, 3, none⟩ = some (.int .u64 s.gauge.nans) := by rw [hW]; simp
  have x4 : W.cell? ⟨w.heap.size, 4, none⟩ = some (.int .u64 s.gauge.lo) := by rw [hW]; simp
  have x5 : W.cell? ⟨w.heap.size, 5, none⟩ = some (.int .u64 s.gauge.hi) := by rw [hW]; simp
  clear hW
  refine (hc1 _ (h1.below hbW)).mono ?_
  rintro e w1 ⟨rfl, hb1⟩
  have hbw1 := hbW.trans (hb1.mono hbW.size)
  replace x1 := bcell hb1 x1
  replace x2 := bcell hb1 x2
  replace x3 := bcell hb1 x3
  replace x4 := bcell hb1 x4
  replace x5 := bcell hb1 x5
  cases hc : chk (-1) s.hist
  · go_wp2
    go_ret
    exact ⟨ret_b (by rw [HP.out, hc]; rfl), hbw1⟩
  · go_wp2_with fail
    refine (hc2 _ (h2.below hbw1)).mono ?_
    rintro e w2 ⟨rfl, hb2⟩
    have hbw2 := hbw1.trans (hb2.mono hbw1.size)
    replace x2 := bcell hb2 x2
    replace x3 := bcell hb2 x3
    replace x4 := bcell hb2 x4
    replace x5 := bcell hb2 x5
    cases hk : kchk s.hashes
    · go_wp2
      go_ret
      exact ⟨ret_b (by rw [HP.out, hc, hk]; rfl), hbw2⟩
    · go_wp2_with fail
      refine (hc3 _).mono ?_
      rintro e w3 ⟨rfl, hb3⟩
      have hbw3 := hbw2.trans (hb3.mono hbw2.size)
      go_wp2
      go_ret
      exact ⟨ret_b (by rw [HP.out, hc, hk]; rfl), hbw3⟩
end Go.Proofs.YtbefkiebdokbdaaGreat.V
end

section
/- Contracts of package pair: Sum of sketches that all may be. -/
namespace Go.Proofs.YtbefkiebdokbdaaGreat.V
open Go.RowKit
set_option linter.unusedVariables false
set_option maxRecDepth 100000

def GBlk (w : World) (b : Nat) (g : Gauge) : Prop := w.heap[b]? = some (.cells #[.int .u64 g.n, .int .u64 g.nans, .int .u64 g.lo, .int .u64 g.hi] 42 (0, 0))
section
variable {w w' : World} {b : Nat} {g : Gauge}
theorem GBlk.lt (h : GBlk w b g) : b < w.heap.size := (Array.getElem?_eq_some_iff.1 h).1
theorem GBlk.c0 (h : GBlk w b g) : w.cell? ⟨b, 0, none⟩ = some (.int .u64 g.n) := by unfold GBlk at h; simp [World.cell?, h]
theorem GBlk.c1 (h : GBlk w b g) : w.cell? ⟨b, 1, none⟩ = some (.int .u64 g.nans) := by unfold GBlk at h; simp [World.cell?, h]
theorem GBlk.c2 (h : GBlk w b g) : w.cell? ⟨b, 2, none⟩ = some (.int .u64 g.lo) := by unfold GBlk at h; simp [World.cell?, h]
theorem GBlk.c3 (h : GBlk w b g) : w.cell? ⟨b, 3, none⟩ = some (.int .u64 g.hi) := by unfold GBlk at h; simp [World.cell?, h]
theorem GBlk.f (h : GBlk w b g) (o : Nat) : w.frozen? ⟨b, o, none⟩ = false := by unfold GBlk at h; simp [World.frozen?, h]
theorem GBlk.frm {S : Nat → Prop} (h : GBlk w b g) (hf : Frm S w w') (hn : ¬ S b) : GBlk w' b g := by unfold GBlk; rw [hf.block b h.lt hn]; exact h
theorem GBlk.below (h : GBlk w b g) (hb : Below w.heap.size w w') : GBlk w' b g := by unfold GBlk; rw [hb.block b h.lt]; exact h
end
/-- The sums so far. -/
def sumH (l : List Sketch) : List Int := l.foldl (fun h s => hAdd h s.hist) h0
def sumK (l : List Sketch) : List Int := l.foldl (fun k s => kAll k s.hashes) []
def sumG (l : List Sketch) : Gauge := l.foldl (fun g s => gMerge g s.gauge) ⟨0, 0, 0, 0⟩
theorem sumH_take {l : List Sketch} {k : Nat} (hk : k < l.length) : sumH (l.take (k + 1)) = hAdd (sumH (l.take k)) l[k].hist := by
  unfold sumH; rw [List.take_succ_eq_append_getElem hk, List.foldl_append]; rfl
theorem sumK_take {l : List Sketch} {k : Nat} (hk : k < l.length) : sumK (l.take (k + 1)) = kAll (sumK (l.take k)) l[k].hashes := by
  unfold sumK; rw [List.take_succ_eq_append_getElem hk, List.foldl_append]; rfl
theorem sumG_take {l : List Sketch} {k : Nat} (hk : k < l.length) : sumG (l.take (k + 1)) = gMerge (sumG (l.take k)) l[k].gauge := by
  unfold sumG; rw [List.take_succ_eq_append_getElem hk, List.foldl_append]; rfl
theorem sumG_wf {l : List Sketch} (h : ∀ s ∈ l, s.gauge.wf) : (sumG l).wf := by
  unfold sumG
  have : ∀ (l : List Sketch) (g : Gauge), g.wf → (∀ s ∈ l, s.gauge.wf) → (l.foldl (fun g s => gMerge g s.gauge) g).wf := by
    intro l
    induction l with
    | nil => intro g hg _; exact hg
    | cons x l ih => intro g hg h; exact ih _ (gMerge_wf hg (h x (by simp))) (fun s hs => h s (by simp [hs]))
  exact this l _ (by simp [Gauge.wf, U64]) h

/-- What Sum has in hand. -/
structure Acc (w0 w : World) (gh gk m gg r : Nat) (h ks : List Int) (g : Gauge) : Prop where
  hist : HistAt w gh h
  kmv : KmvAt w gk m ks
  gauge : GBlk w gg g
  res : w.heap[r]? = some (.cells #[.slice none 0 0, .slice none 0 0, .int .u64 0, .int .u64 0, .int .u64 0, .int .u64 0] 44 (0, 0))
  below : Below w0.heap.size w0 w
  new : w0.heap.size ≤ gh ∧ w0.heap.size ≤ gk ∧ w0.heap.size ≤ m ∧ w0.heap.size ≤ gg ∧ w0.heap.size ≤ r
  ne : gh ≠ gk ∧ gh ≠ m ∧ gg ≠ gh ∧ gg ≠ gk ∧ gg ≠ m ∧ r ≠ gh ∧ r ≠ gk ∧ r ≠ m ∧ r ≠ gg
theorem Acc.frm0 {w0 w w' : World} {gh gk m gg r : Nat} {h ks : List Int} {g : Gauge} (H : Acc w0 w gh gk m gg r h ks g) (hb : Below w.heap.size w w') : Acc w0 w' gh gk m gg r h ks g :=
  ⟨H.hist.below hb, H.kmv.below hb, H.gauge.below hb, by rw [hb.block r (Array.getElem?_eq_some_iff.1 H.res).1]; exact H.res, H.below.trans (hb.mono H.below.size), H.new, H.ne⟩
theorem Acc.hset {w0 w w' : World} {gh gk m gg r : Nat} {h h' ks : List Int} {g : Gauge} (H : Acc w0 w gh gk m gg r h ks g) (hg : w.grownBy w' (some gh)) (hh : HistAt w' gh h') : Acc w0 w' gh gk m gg r h' ks g := by
  obtain ⟨n1, n2, n3, n4, n5, n6, n7, n8, n9⟩ := H.ne
  have hf : Frm (fun k => k = gh) w w' := Frm.of_grown hg rfl
  exact ⟨hh, H.kmv.frm hf (fun e => n1 e.symm) (fun e => n2 e.symm), H.gauge.frm hf n3, by rw [hf.block r (Array.getElem?_eq_some_iff.1 H.res).1 n6]; exact H.res,
    hf.to_below H.below (fun k _ e => by subst e; exact H.new.1), H.new, H.ne⟩
theorem Acc.kset {w0 w w' : World} {gh gk m gg r : Nat} {h ks ks' : List Int} {g : Gauge} (H : Acc w0 w gh gk m gg r h ks g) (hf : Frm (fun k => k = gk ∨ k = m) w w') (hk : KmvAt w' gk m ks') : Acc w0 w' gh gk m gg r h ks' g := by
  obtain ⟨n1, n2, n3, n4, n5, n6, n7, n8, n9⟩ := H.ne
  exact ⟨H.hist.frm hf (by omega), hk, H.gauge.frm hf (by omega), by rw [hf.block r (Array.getElem?_eq_some_iff.1 H.res).1 (by omega)]; exact H.res,
    hf.to_below H.below (fun k _ e => by have := H.new; omega), H.new, H.ne⟩

theorem Acc.drew {w0 w : World} {gh gk m gg r : Nat} {h ks : List Int} {g : Gauge} (H : Acc w0 w gh gk m gg r h ks g) : Acc w0 w.drew gh gk m gg r h ks g := H.frm0 ⟨rfl, rfl, rfl, Nat.le_refl _, fun _ _ => rfl⟩
section
variable {w : World} {r : Nat}
def RBlk (w : World) (r : Nat) : Prop := w.heap[r]? = some (.cells #[.slice none 0 0, .slice none 0 0, .int .u64 0, .int .u64 0, .int .u64 0, .int .u64 0] 44 (0, 0))
theorem RBlk.c0 (h : RBlk w r) : w.cell? ⟨r, 0, none⟩ = some (.slice none 0 0) := by unfold RBlk at h; simp [World.cell?, h]
theorem RBlk.c1 (h : RBlk w r) : w.cell? ⟨r, 1, none⟩ = some (.slice none 0 0) := by unfold RBlk at h; simp [World.cell?, h]
theorem RBlk.c2 (h : RBlk w r) : w.cell? ⟨r, 2, none⟩ = some (.int .u64 0) := by unfold RBlk at h; simp [World.cell?, h]
theorem RBlk.c3 (h : RBlk w r) : w.cell? ⟨r, 3, none⟩ = some (.int .u64 0) := by unfold RBlk at h; simp [World.cell?, h]
theorem RBlk.c4 (h : RBlk w r) : w.cell? ⟨r, 4, none⟩ = some (.int .u64 0) := by unfold RBlk at h; simp [World.cell?, h]
theorem RBlk.c5 (h : RBlk w r) : w.cell? ⟨r, 5, none⟩ = some (.int .u64 0) := by unfold RBlk at h; simp [World.cell?, h]
theorem RBlk.f (h : RBlk w r) (o : Nat) : w.frozen? ⟨r, o, none⟩ = false := by unfold RBlk at h; simp [World.frozen?, h]
end
theorem Sl.sketch {ok : Nat → Prop} {w : World} {A : Option Addr} {xs : List Sketch} (h : Sl ok w A xs) {k : Nat} (hk : k < xs.length) :
    ∃ b off A1 c1 A2 c2, A = some ⟨b, off, none⟩ ∧ ok b ∧ b < w.heap.size ∧ w.cell? ⟨b, off + k * 6, none⟩ = some (.slice A1 xs[k].hist.length c1) ∧ w.cell? ⟨b, off + k * 6 + 1, none⟩ = some (.slice A2 xs[k].hashes.length c2)
      ∧ w.cell? ⟨b, off + k * 6 + 2, none⟩ = some (.int .u64 xs[k].gauge.n) ∧ w.cell? ⟨b, off + k * 6 + 3, none⟩ = some (.int .u64 xs[k].gauge.nans) ∧ w.cell? ⟨b, off + k * 6 + 4, none⟩ = some (.int .u64 xs[k].gauge.lo) ∧ w.cell? ⟨b, off + k * 6 + 5, none⟩ = some (.int .u64 xs[k].gauge.hi)
      ∧ Sl ok w A1 xs[k].hist ∧ Sl ok w A2 xs[k].hashes ∧ xs[k].gauge.wf := by
  obtain ⟨b, off, vs, rfl, hv, hc⟩ := h.at_ hk
  obtain ⟨A1, c1, A2, c2, rfl, h1, h2, h3, _⟩ := hv
  exact ⟨b, off, A1, c1, A2, c2, rfl, hc.1, hc.2.1, hc.c0, hc.c1, hc.cj 2 _ rfl, hc.cj 3 _ rfl, hc.cj 4 _ rfl, hc.cj 5 _ rfl, h1, h2, h3⟩

theorem GBlk.set4 {w : World} {b : Nat} {g : Gauge} (h : GBlk w b g) (g' : Gauge) : GBlk ((((w.setCell ⟨b, 0, none⟩ (.int .u64 g'.n)).setCell ⟨b, 1, none⟩ (.int .u64 g'.nans)).setCell ⟨b, 2, none⟩ (.int .u64 g'.lo)).setCell ⟨b, 3, none⟩ (.int .u64 g'.hi)) b g' := by
  unfold GBlk at *
  have hl := (Array.getElem?_eq_some_iff.1 h).1
  have h' := (Array.getElem?_eq_some_iff.1 h).2
  simp [World.setCell, Array.getElem?_modify, h]
theorem Acc.gset {w0 w : World} {gh gk m gg r : Nat} {h ks : List Int} {g : Gauge} (H : Acc w0 w gh gk m gg r h ks g) (g' : Gauge) :
    Acc w0 ((((w.setCell ⟨gg, 0, none⟩ (.int .u64 g'.n)).setCell ⟨gg, 1, none⟩ (.int .u64 g'.nans)).setCell ⟨gg, 2, none⟩ (.int .u64 g'.lo)).setCell ⟨gg, 3, none⟩ (.int .u64 g'.hi)) gh gk m gg r h ks g' := by
  obtain ⟨n1, n2, n3, n4, n5, n6, n7, n8, n9⟩ := H.ne
  have hg := H.gauge.set4 g'
  have hf : Frm (fun k => k = gg) w ((((w.setCell ⟨gg, 0, none⟩ (.int .u64 g'.n)).setCell ⟨gg, 1, none⟩ (.int .u64 g'.nans)).setCell ⟨gg, 2, none⟩ (.int .u64 g'.lo)).setCell ⟨gg, 3, none⟩ (.int .u64 g'.hi)) :=
by
    have a0 : Frm (fun k => k = gg) w w := Frm.refl _ w
    have a1 := a0.set (p := ⟨gg, 0, none⟩) (.inr rfl) (.int .u64 g'.n)
    have a2 := a1.set (p := ⟨gg, 1, none⟩) (.inr rfl) (.int .u64 g'.nans)
    have a3 := a2.set (p := ⟨gg, 2, none⟩) (.inr rfl) (.int .u64 g'.lo)
    exact a3.set (p := ⟨gg, 3, none⟩) (.inr rfl) (.int .u64 g'.hi)
  exact ⟨H.hist.frm hf (fun e => n3 e.symm), H.kmv.frm hf (fun e => n4 e.symm) (fun e => n5 e.symm), hg, by rw [hf.block r (Array.getElem?_eq_some_iff.1 H.res).1 n9]; exact H.res,
    hf.to_below H.below (fun k _ e => by subst e; exact H.new.2.2.2.1), H.new, H.ne⟩
theorem keeps_of {w a b : World} (h : Below w.heap.size w a) (h' : Below w.heap.size w b) (hs : a.heap.size ≤ b.heap.size) : Keeps (fun k => k < w.heap.size) a b :=
  ⟨hs, fun k hk _ => by rw [h'.block k hk, h.block k hk]⟩
theorem fcell {S : Nat → Prop} {w w' : World} {b off : Nat} {v : Value} (hf : Frm S w w') (hn : ¬ S b) (hc : w.cell? ⟨b, off, none⟩ = some v) : w'.cell? ⟨b, off, none⟩ = some v := by
  have hl : b < w.heap.size := by
    by_cases hl : b < w.heap.size
    · exact hl
    · have : w.heap[b]? = none := by rw [Array.getElem?_eq_none_iff]; omega
      simp [World.cell?, this] at hc
  exact (hf.cell (p := ⟨b, off, none⟩) hl hn).trans hc

theorem cset {w : World} {b o r p : Nat} {v x : Value} (h : w.cell? ⟨b, o, none⟩ = some v) (hne : r ≠ b) : (w.setCell ⟨r, p, none⟩ x).cell? ⟨b, o, none⟩ = some v :=
by
  have a0 : Frm (fun k => k = r) w w := Frm.refl _ w
  exact fcell (a0.set (p := ⟨r, p, none⟩) (.inr rfl) x) (fun e => hne e.symm) h
/-- A row of plain elements that was owned, read in a world in which older blocks may have been written. -/
theorem Own.flat {α : Type} [Rep α] {w w' : World} {base e n c : Nat} {A : Option Addr} {xs : List α} (hflat : ∀ (ok ok' : Nat → Prop) (w w' : World) (vs : List Value) (x : α), Rep.rep ok w vs x → Rep.rep ok' w' vs x)
    (h : Own w base e (.slice A n c) xs) (hf : Frm (fun k => k < base) w w') : Sl (fun k => base ≤ k ∧ k < w'.heap.size) w' A xs := by
  obtain ⟨cs, hr, ho⟩ := h
  have hr' : Reps (fun k => base ≤ k ∧ k < w'.heap.size) w' cs xs := by
    clear ho
    induction hr with
    | nil => exact .nil
    | cons h _ ih => exact .cons (hflat _ _ _ _ _ _ h) ih
  rcases ho.2 with ⟨hv, h0⟩ | ⟨g, cap, cur, hv, hg, hh, hn, hm, hs, ht⟩
  · exact ⟨by omega, cs, hr', fun hp => by omega⟩
  · have hl := (Array.getElem?_eq_some_iff.1 hh).1
    refine ⟨by unfold maxLen at hm; omega, cs, hr', fun hp => ⟨g, 0, by cases hv; rfl, ⟨hg, Nat.lt_of_lt_of_le hl hf.size⟩, Nat.lt_of_lt_of_le hl hf.size, fun j u hu => ?_⟩⟩
    have := ho.cells (g := g) (by cases hv; rfl) j u hu
    rw [show (⟨g, 0, none⟩ : Addr).add j = ⟨g, 0 + j, none⟩ by unfold Addr.add; split <;> simp_all] at this
    exact fcell hf (by omega) this
theorem cdrew {w : World} {b o : Nat} {v : Value} (h : w.cell? ⟨b, o, none⟩ = some v) : w.drew.cell? ⟨b, o, none⟩ = some v := h

set_option maxHeartbeats 4000000 in
theorem C_pair_Sum (A : Option Addr) (cap : Nat) (xs : List Sketch) (w : World) (hr : Sl (fun k => k < w.heap.size) w A xs) (hc : ∀ s ∈ xs, pCheck s = true) :
    Calls Tryz.prog 96 #[.slice A xs.length cap] w fun e w' => ∃ A1 c1 A2 c2 v1 v2, e = .returned (.tuple #[.agg #[v1, v2, .int .u64 (sumG xs).n, .int .u64 (sumG xs).nans, .int .u64 (sumG xs).lo, .int .u64 (sumG xs).hi], .int .i64 0])
      ∧ v1 = .slice A1 (hBk (sumH xs) 7424).length c1 ∧ v2 = .slice A2 (sumK xs).length c2 ∧ Sl (fun k => k < w'.heap.size) w' A1 (hBk (sumH xs) 7424) ∧ Sl (fun k => k < w'.heap.size) w' A2 (sumK xs) ∧ (A1 = none → c1 = 0) ∧ (A2 = none → c2 = 0) ∧ Below w.heap.size w w' := by
  have hlen := hr.1
  have HC := Lib.hid hc
  clear hc
  go_enter Tryz.func96, Tryz.ntmps96
  go_wp2_with fail
  refine (C_hist_New _).mono ?_
  rintro e w1 ⟨rfl, hH, hb1⟩
  go_wp2_with fail
  refine (C_kmv_New _).mono ?_
  rintro e w2 ⟨rfl, hK, hb2⟩
  go_wp2_with fail
  obtain ⟨W, hW⟩ : ∃ W, W = w2.alloc (.cells #[.int .u64 0, .int .u64 0, .int .u64 0, .int .u64 0] 42) := ⟨_, rfl⟩
  have hA : Acc w W (w.heap.size + 1) (w1.heap.size + 1) w1.heap.size w2.heap.size w.heap.size (sumH (xs.take 0)) (sumK (xs.take 0)) (sumG (xs.take 0)) := by
    have hb0 : Below w.heap.size w (w.alloc (.cells #[.slice none 0 0, .slice none 0 0, .int .u64 0, .int .u64 0, .int .u64 0, .int .u64 0] 44)) := (Below.refl _ _).alloc (Nat.le_refl _) _
    have hs0 : (w.alloc (.cells #[.slice none 0 0, .slice none 0 0, .int .u64 0, .int .u64 0, .int .u64 0, .int .u64 0] 44)).heap.size = w.heap.size + 1 := by simp
    have hs1 := hb1.size
    have hs2 := hb2.size
    have hlt := hH.lt
    have hkl := hK.lt
    rw [hs0] at hs1 hlt
    have hbW : Below w2.heap.size w2 W := hW ▸ (Below.refl _ _).alloc (Nat.le_refl _) _
    rw [hs0] at hH
    refine ⟨(hH.below hb2).below hbW, hK.below hbW, by rw [hW]; exact heap_alloc_new _ _, ?_, ((hb0.trans (hb1.mono hb0.size)).trans (hb2.mono (by omega))).trans (hbW.mono (by omega)), by omega, by omega⟩
    rw [hbW.block _ (by omega), hb2.block _ (by omega), hb1.block _ (by rw [hs0]; omega)]
    exact heap_alloc_new _ _
  rw [← hW]
  clear hW hH hK hb1 hb2
  generalize w.heap.size + 1 = gh at *
  generalize w1.heap.size + 1 = gk at *
  generalize w1.heap.size = m at *
  generalize w2.heap.size = gg at *
  go_loopw [8, 14] (fun _ i wr => ∃ (k : Nat), k ≤ xs.length ∧ i = .int .i64 k ∧ Acc w wr gh gk m gg w.heap.size (sumH (xs.take k)) (sumK (xs.take k)) (sumG (xs.take k))) (fun _ i _ => xs.length - (intOf i).toNat)
  case atStart => exact ⟨0, Nat.zero_le _, rfl, hA⟩
  case round =>
    clear hA
    obtain ⟨k, hk, rfl, hA⟩ := hrel
    by_cases hlt : k < xs.length
    · obtain ⟨b, off, A1, c1, A2, c2, rfl, hob, hlb, y0, y1, y2, y3, y4, y5, s1, s2, sg⟩ := (hr.below hA.below).sketch hlt
      have hpc := HC.out _ (List.getElem_mem hlt)
      unfold pCheck at hpc
      rw [Bool.and_eq_true, Bool.and_eq_true] at hpc
      obtain ⟨⟨p1, p2⟩, p3⟩ := hpc
      have p0 : pCheck xs[k] = true := HC.out _ (List.getElem_mem hlt)
      have e1 := sumH_take hlt
      have e2 := sumK_take hlt
      have e3 := sumG_take hlt
      have hgw : (sumG (xs.take k)).wf := sumG_wf (fun s hs => by
        obtain ⟨j, hj, e⟩ := List.mem_iff_getElem.1 (List.mem_of_mem_take hs)
        obtain ⟨_, _, _, _, _, _, _, _, _, _, _, _, _, _, _, _, _, g⟩ := hr.sketch hj
        exact e ▸ g)
      generalize sumH (xs.take k) = H0 at *
      generalize sumK (xs.take k) = K0 at *
      generalize sumG (xs.take k) = G0 at *
      obtain ⟨G1, hG1⟩ : ∃ G1, G1 = gMerge G0 xs[k].gauge := ⟨_, rfl⟩
      rw [← hG1] at e3
      have E4 := Lib.hid hG1
      clear hG1
      have E1 := Lib.hid e1
      have E2 := Lib.hid e2
      have E3 := Lib.hid e3
      clear e1 e2 e3
      generalize xs[k] = s at *
      go_wp2_with fail
      obtain ⟨W, hW⟩ : ∃ W, W = wr.alloc (.cells #[.slice A1 s.hist.length c1, .slice A2 s.hashes.length c2, .int .u64 s.gauge.n, .int .u64 s.gauge.nans, .int .u64 s.gauge.lo, .int .u64 s.gauge.hi] 44) := ⟨_, rfl⟩
      rw [← hW]
      have hbW : Below wr.heap.size wr W := hW ▸ (Below.refl _ _).alloc (Nat.le_refl _) _
      have x0 : W.cell? ⟨wr.heap.size, 0, none⟩ = some (.slice A1 s.hist.length c1) := by rw [hW]; simp
      have x1 : W.cell? ⟨wr.heap.size, 1, none⟩ = some (.slice A2 s.hashes.length c2) := by rw [hW]; simp
      have x2 : W.cell? ⟨wr.heap.size, 2, none⟩ = some (.int .u64 s.gauge.n) := by rw [hW]; simp
      have x3 : W.cell? ⟨wr.heap.size, 3, none⟩ = some (.int .u64 s.gauge.nans) := by rw [hW]; simp
      have x4 : W.cell? ⟨wr.heap.size, 4, none⟩ = some (.int .u64 s.gauge.lo) := by rw [hW]; simp
      have x5 : W.cell? ⟨wr.heap.size, 5, none⟩ = some (.int .u64 s.gauge.hi) := by rw [hW]; simp
      have hWs : W.heap.size = wr.heap.size + 1 := by rw [hW]; simp
      clear hW y0 y1 y2 y3 y4 y5
      refine (C_pair_Check _ A1 c1 A2 c2 s _ (s1.below hbW) (s2.below hbW) sg).mono ?_
      rintro e w1 ⟨rfl, hb1⟩
      rw [p0]
      have hA1 := (hA.frm0 hbW).frm0 hb1
      have hsz1 : wr.heap.size + 1 ≤ w1.heap.size := by have := hb1.size; have : W.heap.size = wr.heap.size + 1 := hWs; omega
      have z0 := bcell hb1 x0
      have z1 := bcell hb1 x1
      have z2 := bcell hb1 x2
      have z3 := bcell hb1 x3
      have z4 := bcell hb1 x4
      have z5 := bcell hb1 x5
      have hl1 := hA.hist.lt
      have hl2 := hA.kmv.lt
      have hl3 := hA.gauge.lt
      have hnw := hA.new
      have q1 := s1.keep (keeps_of hA.below hA1.below (by omega))
      have q2 := s2.keep (keeps_of hA.below hA1.below (by omega))
      clear x0 x1 x2 x3 x4 x5 hbW hb1
      go_wp2_with fail
      refine (C_hist_Merge _ gh H0 A1 c1 s.hist _ q1 (fun k hk e => by omega) hA1.hist p1).mono ?_
      rintro e w2 ⟨rfl, hh2, hg2⟩
      have hA2 := hA1.hset hg2 hh2
      have f2 : Frm (fun k => k = gh) w1 w2 := Frm.of_grown hg2 rfl
      replace z1 := fcell f2 (by omega) z1
      replace z2 := fcell f2 (by omega) z2
      replace z3 := fcell f2 (by omega) z3
      replace z4 := fcell f2 (by omega) z4
      replace z5 := fcell f2 (by omega) z5
      replace q2 := q2.keep (keeps_of hA1.below hA2.below hg2.size)
      clear hA1 hh2 hg2 q1
      go_wp2_with fail
      refine (C_kmv_Merge _ gk m K0 A2 c2 s.hashes _ q2 (fun k hk => by omega) hA2.kmv p2).mono ?_
      rintro e w3 ⟨rfl, hk3, hf3⟩
      have hA3 := hA2.kset hf3 hk3
      replace z2 := fcell hf3 (by omega) z2
      replace z3 := fcell hf3 (by omega) z3
      replace z4 := fcell hf3 (by omega) z4
      replace z5 := fcell hf3 (by omega) z5
      clear hA2 hk3 q2
      have g0 := hA3.gauge.c0
      have g1 := hA3.gauge.c1
      have g2 := hA3.gauge.c2
      have g3 := hA3.gauge.c3
      go_wp2_with fail
      refine (C_gauge_Merge G0 s.gauge _ hgw sg).mono ?_
      rintro e w4 ⟨rfl, hb4⟩
      rw [← E4.out]
      have hA4 := hA3.frm0 hb4
      clear hA3
      replace g0 := bcell hb4 g0
      replace g1 := bcell hb4 g1
      replace g2 := bcell hb4 g2
      replace g3 := bcell hb4 g3
      have gf := hA4.gauge.f
      have gf0 := gf 0
      have gf1 := gf 1
      have gf2 := gf 2
      have gf3 := gf 3
      go_wp2
      go_roundw
      case rel => exact ⟨k + 1, by omega, by go_num, by rw [E1.out, E2.out, E3.out]; exact hA4.gset G1⟩
      case measure => simp [intOf]; omega
    · have hkk : k = xs.length := by omega
      rw [hkk, List.take_length] at hA
      clear hlt
      go_wp2_with fail
      have g0 := hA.gauge.c0
      have g1 := hA.gauge.c1
      have g2 := hA.gauge.c2
      have g3 := hA.gauge.c3
      have r0 := RBlk.c0 hA.res
      obtain ⟨n1, n2, n3, n4, n5, n6, n7, n8, n9⟩ := hA.ne
      generalize hgH : sumH xs = H0 at *
      generalize hgK : sumK xs = K0 at *
      generalize hgG : sumG xs = G0 at *
      have GH := Lib.hid hgH
      have GK := Lib.hid hgK
      have GG := Lib.hid hgG
      clear hgH hgK hgG
      go_region_held3? (fun w' => w'.cell? ⟨gg, 0, none⟩ = some (.int .u64 G0.n) ∧ w'.cell? ⟨gg, 1, none⟩ = some (.int .u64 G0.nans) ∧ w'.cell? ⟨gg, 2, none⟩ = some (.int .u64 G0.lo) ∧ w'.cell? ⟨gg, 3, none⟩ = some (.int .u64 G0.hi)) ((first | (refine ⟨?_, ?_, ?_, ?_⟩ <;> with_reducible assumption) | (refine ⟨?_, ?_, ?_, ?_⟩ <;> ((repeat (with_reducible refine cset ?_ n9)); with_reducible assumption)) | (refine ⟨?_, ?_, ?_, ?_⟩ <;> (with_reducible refine cdrew ?_) <;> with_reducible assumption))) (first
        | (go_at_call 122; refine (C_hist_Buckets _ _ _ hA.drew.hist).mono ?_; rintro e wa ⟨v1, rfl, ho1, hba⟩; obtain ⟨B1, d1, rfl, hnil1⟩ := ho1.form; have hAa := hA.drew.frm0 hba; have ga0 := hAa.gauge.c0; have ga1 := hAa.gauge.c1; have ga2 := hAa.gauge.c2; have ga3 := hAa.gauge.c3)
        | (go_at_call 123; refine (C_kmv_Hashes _ _ _ _ hAa.kmv).mono ?_; rintro e wb ⟨v2, rfl, ho2, hbb⟩; obtain ⟨B2, d2, rfl, hnil2⟩ := ho2.form; have hAb := hAa.frm0 hbb; have gb0 := hAb.gauge.c0; have gb1 := hAb.gauge.c1; have gb2 := hAb.gauge.c2; have gb3 := hAb.gauge.c3; have rb0 := RBlk.c0 hAb.res; have rb1 := RBlk.c1 hAb.res; have rb2 := RBlk.c2 hAb.res; have rb3 := RBlk.c3 hAb.res; have rb4 := RBlk.c4 hAb.res; have rb5 := RBlk.c5 hAb.res; have rf0 := RBlk.f hAb.res 0; have rf1 := RBlk.f hAb.res 1; have rf2 := RBlk.f hAb.res 2; have rf3 := RBlk.f hAb.res 3; have rf4 := RBlk.f hAb.res 4; have rf5 := RBlk.f hAb.res 5))
      have hsz := hA.below.size
      have hrl : w.heap.size < wr.heap.size := (Array.getElem?_eq_some_iff.1 hA.res).1
      have hs1 := hba.size
      have hs2 := hbb.size
      have hds : wr.drew.heap.size = wr.heap.size := rfl
      have hRf : ((((((wb.setCell ⟨w.heap.size, 0, none⟩ (.slice B1 (hBk H0 7424).length d1)).setCell ⟨w.heap.size, 1, none⟩ (.slice B2 K0.length d2)).setCell ⟨w.heap.size, 2, none⟩ (.int .u64 G0.n)).setCell ⟨w.heap.size, 3, none⟩ (.int .u64 G0.nans)).setCell ⟨w.heap.size, 4, none⟩ (.int .u64 G0.lo)).setCell ⟨w.heap.size, 5, none⟩ (.int .u64 G0.hi)).heap[w.heap.size]? = some (.cells #[.slice B1 (hBk H0 7424).length d1, .slice B2 K0.length d2, .int .u64 G0.n, .int .u64 G0.nans, .int .u64 G0.lo, .int .u64 G0.hi] 44 (0, 0)) := by
        simp [World.setCell, Array.getElem?_modify, hAb.res]
      generalize hWf : ((((((wb.setCell ⟨w.heap.size, 0, none⟩ (.slice B1 (hBk H0 7424).length d1)).setCell ⟨w.heap.size, 1, none⟩ (.slice B2 K0.length d2)).setCell ⟨w.heap.size, 2, none⟩ (.int .u64 G0.n)).setCell ⟨w.heap.size, 3, none⟩ (.int .u64 G0.nans)).setCell ⟨w.heap.size, 4, none⟩ (.int .u64 G0.lo)).setCell ⟨w.heap.size, 5, none⟩ (.int .u64 G0.hi)) = Wf at hRf ⊢
      have hfw : Frm (fun k => k = w.heap.size) wb Wf := by
        rw [← hWf]
        have a0 : Frm (fun k => k = w.heap.size) wb wb := Frm.refl _ wb
        have a1 := a0.set (p := ⟨w.heap.size, 0, none⟩) (.inr rfl) (.slice B1 (hBk H0 7424).length d1)
        have a2 := a1.set (p := ⟨w.heap.size, 1, none⟩) (.inr rfl) (.slice B2 K0.length d2)
        have a3 := a2.set (p := ⟨w.heap.size, 2, none⟩) (.inr rfl) (.int .u64 G0.n)
        have a4 := a3.set (p := ⟨w.heap.size, 3, none⟩) (.inr rfl) (.int .u64 G0.nans)
        have a5 := a4.set (p := ⟨w.heap.size, 4, none⟩) (.inr rfl) (.int .u64 G0.lo)
        exact a5.set (p := ⟨w.heap.size, 5, none⟩) (.inr rfl) (.int .u64 G0.hi)
      have hfin : (∃ v1 v2, Value.tuple #[.agg #[.slice B1 (hBk H0 7424).length d1, .slice B2 K0.length d2, .int .u64 G0.n, .int .u64 G0.nans, .int .u64 G0.lo, .int .u64 G0.hi], .int .i64 0] = Value.tuple #[.agg #[v1, v2, .int .u64 G0.n, .int .u64 G0.nans, .int .u64 G0.lo, .int .u64 G0.hi], .int .i64 0] ∧ v1 = .slice B1 (hBk H0 7424).length d1 ∧ v2 = .slice B2 K0.length d2 ∧ Sl (fun k => k < Wf.heap.size) Wf B1 (hBk H0 7424) ∧ Sl (fun k => k < Wf.heap.size) Wf B2 K0 ∧ (B1 = none → d1 = 0) ∧ (B2 = none → d2 = 0) ∧ Below w.heap.size w Wf) := by
        refine ⟨_, _, rfl, rfl, rfl, ?_, ?_, fun h => (hnil1 h).2, fun h => (hnil2 h).2, ?_⟩
        · have hf1 : Frm (fun k => k < wr.drew.heap.size) wa Wf := (Frm.of_below (hbb)).trans (hfw.mono (fun k _ e => by omega))
          exact (ho1.flat (fun _ _ _ _ _ _ h => h) hf1).mono (fun k _ h => h.2)
        · have hf1 : Frm (fun k => k < wa.heap.size) wb Wf := hfw.mono (fun k _ e => by omega)
          exact (ho2.flat (fun _ _ _ _ _ _ h => h) hf1).mono (fun k _ h => h.2)
        · exact hfw.to_below hAb.below (fun k _ e => by omega)
      have HF := Lib.hid hfin
      clear hfin hfw hA hAa hAb ho1 ho2 hba hbb
      have k0 : Wf.cell? ⟨w.heap.size, 0, none⟩ = some (.slice B1 (hBk H0 7424).length d1) := by simp [World.cell?, hRf]
      have k1 : Wf.cell? ⟨w.heap.size, 1, none⟩ = some (.slice B2 K0.length d2) := by simp [World.cell?, hRf]
      have k2 : Wf.cell? ⟨w.heap.size, 2, none⟩ = some (.int .u64 G0.n) := by simp [World.cell?, hRf]
      have k3 : Wf.cell? ⟨w.heap.size, 3, none⟩ = some (.int .u64 G0.nans) := by simp [World.cell?, hRf]
      have k4 : Wf.cell? ⟨w.heap.size, 4, none⟩ = some (.int .u64 G0.lo) := by simp [World.cell?, hRf]
      have k5 : Wf.cell? ⟨w.heap.size, 5, none⟩ = some (.int .u64 G0.hi) := by simp [World.cell?, hRf]
      go_wp2
      refine bodyPost_ret (v := .tuple #[.agg #[.slice B1 (hBk H0 7424).length d1, .slice B2 K0.length d2, .int .u64 G0.n, .int .u64 G0.nans, .int .u64 G0.lo, .int .u64 G0.hi], .int .i64 0]) (by simp [results, Tryz.results96, go_sem, k0, k1, k2, k3, k4, k5]) rfl ?_
      rw [GH.out, GK.out, GG.out]
      obtain ⟨v1, v2, h1, h2, h3, h4, h5, h6, h7, h8⟩ := HF.out
      exact ⟨B1, d1, B2, d2, v1, v2, by rw [h1], h2, h3, h4, h5, h6, h7, h8⟩
end Go.Proofs.YtbefkiebdokbdaaGreat.V
end

section
/- Contracts: plain.List at labels, buckets, hashes. -/
namespace Go.Proofs.YtbefkiebdokbdaaGreat.V
open Go.RowKit
set_option linter.unusedVariables false
set_option maxRecDepth 100000

theorem el_Label : ElemOf Tryz.prog 65 111 (Rep.sz Label) 32 := ElemOf.mk' (z := .agg #[.string ⟨#[]⟩, .string ⟨#[]⟩]) Tryz.underlying65 (by kernel_rfl) rfl

theorem C_List_Label (A : Option Addr) (cap : Nat) (xs : List Label) (w : World) (hr : Sl (fun k => k < w.heap.size) w A xs) (hA : A = none → cap = 0) (hl : xs.length ≤ 1048576) :
    Calls Tryz.prog 113 #[.slice A xs.length cap] w fun e w' => ∃ v, e = .returned v ∧ Own w' w.heap.size 111 v xs ∧ Below w.heap.size w w' := by
  go_enter Tryz.func113, Tryz.ntmps113
  go_wp2_with (at_builtin; refine wpOwn_append rfl _ _ 65 111 32 w.heap.size rfl el_Label (xs := []) rfl (Own.nil _ _ _) rfl rfl hA (hr.mono (fun k _ h => ⟨h, fun e => by cases e⟩)) (by simp; omega) (by simp; omega) (Nat.le_refl _) ?_)
  intro v w' ho hg hat
  go_wp2
  go_ret
  exact ⟨v, rfl, by simpa using ho, (Below.refl _ _).grown hg (Nat.le_refl _) (fun j hj => by cases hj)⟩
theorem C_List_Bucket (A : Option Addr) (cap : Nat) (xs : List Bucket) (w : World) (hr : Sl (fun k => k < w.heap.size) w A xs) (hA : A = none → cap = 0) (hl : xs.length ≤ 1048576) :
    Calls Tryz.prog 114 #[.slice A xs.length cap] w fun e w' => ∃ v, e = .returned v ∧ Own w' w.heap.size 120 v xs ∧ Below w.heap.size w w' := by
  go_enter Tryz.func114, Tryz.ntmps114
  go_wp2_with (at_builtin; refine wpOwn_append rfl _ _ 39 120 16 w.heap.size rfl el_Bucket (xs := []) rfl (Own.nil _ _ _) rfl rfl hA (hr.mono (fun k _ h => ⟨h, fun e => by cases e⟩)) (by simp; omega) (by simp; omega) (Nat.le_refl _) ?_)
  intro v w' ho hg hat
  go_wp2
  go_ret
  exact ⟨v, rfl, by simpa using ho, (Below.refl _ _).grown hg (Nat.le_refl _) (fun j hj => by cases hj)⟩
theorem C_List_num (A : Option Addr) (cap : Nat) (xs : List Int) (w : World) (hr : Sl (fun k => k < w.heap.size) w A xs) (hA : A = none → cap = 0) (hl : xs.length ≤ 1048576) :
    Calls Tryz.prog 115 #[.slice A xs.length cap] w fun e w' => ∃ v, e = .returned v ∧ Own w' w.heap.size 29 v xs ∧ Below w.heap.size w w' := by
  go_enter Tryz.func115, Tryz.ntmps115
  go_wp2_with (at_builtin; refine wpOwn_append rfl _ _ 40 29 8 w.heap.size rfl el_U64 (xs := []) rfl (Own.nil _ _ _) rfl rfl hA (hr.mono (fun k _ h => ⟨h, fun e => by cases e⟩)) (by simp; omega) (by simp; omega) (Nat.le_refl _) ?_)
  intro v w' ho hg hat
  go_wp2
  go_ret
  exact ⟨v, rfl, by simpa using ho, (Below.refl _ _).grown hg (Nat.le_refl _) (fun j hj => by cases hj)⟩
end Go.Proofs.YtbefkiebdokbdaaGreat.V
end

section
/- Contracts: rows.One, rows.May. -/
namespace Go.Proofs.YtbefkiebdokbdaaGreat.V
open Go.RowKit
set_option linter.unusedVariables false
set_option maxRecDepth 100000

/-- A block of the call's own, cell by cell. -/
def Blk (w : World) (b : Nat) (vs : List Value) (t : Nat) : Prop := w.heap[b]? = some (.cells vs.toArray t (0, 0))
section
variable {w w' : World} {b t : Nat} {vs : List Value}
theorem Blk.lt (h : Blk w b vs t) : b < w.heap.size := (Array.getElem?_eq_some_iff.1 h).1
theorem Blk.c (h : Blk w b vs t) (i : Nat) {v : Value} (hv : vs[i]? = some v) : w.cell? ⟨b, i, none⟩ = some v := by unfold Blk at h; simp [World.cell?, h, hv]
theorem Blk.f (h : Blk w b vs t) (i : Nat) : w.frozen? ⟨b, i, none⟩ = false := by unfold Blk at h; simp [World.frozen?, h]
theorem Blk.frm {S : Nat → Prop} (h : Blk w b vs t) (hf : Frm S w w') (hn : ¬ S b) : Blk w' b vs t := by unfold Blk; rw [hf.block b h.lt hn]; exact h
theorem Blk.below (h : Blk w b vs t) (hb : Below w.heap.size w w') : Blk w' b vs t := by unfold Blk; rw [hb.block b h.lt]; exact h
theorem Blk.drew (h : Blk w b vs t) : Blk w.drew b vs t := h
theorem Blk.set (h : Blk w b vs t) (i : Nat) (x : Value) : Blk (w.setCell ⟨b, i, none⟩ x) b (vs.set i x) t := by
  unfold Blk at *
  simp [World.setCell, Array.getElem?_modify, h]
theorem Blk.other (h : Blk w b vs t) {r : Nat} (i : Nat) (x : Value) (hne : r ≠ b) : Blk (w.setCell ⟨r, i, none⟩ x) b vs t := by
  have a0 : Frm (fun k => k = r) w w := Frm.refl _ w
  exact h.frm (a0.set (p := ⟨r, i, none⟩) (.inr rfl) x) (fun e => hne e.symm)
theorem Blk.new (w : World) (vs : List Value) (t : Nat) : Blk (w.alloc (.cells vs.toArray t)) w.heap.size vs t := heap_alloc_new _ _
end
theorem Frm.one {S : Nat → Prop} {w w' : World} (h : Frm S w w') {r : Nat} (hr : S r) (i : Nat) (x : Value) : Frm S w (w'.setCell ⟨r, i, none⟩ x) := h.set (p := ⟨r, i, none⟩) (.inr hr) x

/-- A row as a value. -/
@[reducible] def rowL (A0 : Option Addr) (c0 : Nat) (A1 : Option Addr) (c1 : Nat) (A2 : Option Addr) (c2 : Nat) (r : Row) : List Value :=
  [.slice A0 r.labels.length c0, .int .i64 r.at_, .slice A1 r.s.hist.length c1, .slice A2 r.s.hashes.length c2, .int .u64 r.s.gauge.n, .int .u64 r.s.gauge.nans, .int .u64 r.s.gauge.lo, .int .u64 r.s.gauge.hi]

theorem C_rows_May (ok : Nat → Prop) (A0 : Option Addr) (c0 : Nat) (A1 : Option Addr) (c1 : Nat) (A2 : Option Addr) (c2 : Nat) (r : Row) (w : World) (h0 : Sl ok w A0 r.labels) (h1 : Sl ok w A1 r.s.hist) (h2 : Sl ok w A2 r.s.hashes) (hg : r.s.gauge.wf) :
    Calls Tryz.prog 93 #[.agg (rowL A0 c0 A1 c1 A2 c2 r).toArray] w fun e w' => e = .returned (.bool (tr (LabelsP r.labels) && pCheck r.s)) ∧ Below w.heap.size w w' := by
  have hc1 := fun w h => C_label_Check ok A0 c0 r.labels w h
  have hc2 := fun w h1 h2 => C_pair_Check ok A1 c1 A2 c2 r.s w h1 h2 hg
  go_enter Tryz.func93, Tryz.ntmps93
  go_wp2_with fail
  obtain ⟨W, hW⟩ : ∃ W, W = w.alloc (.cells (rowL A0 c0 A1 c1 A2 c2 r).toArray 67) := ⟨_, rfl⟩
  have hbW : Below w.heap.size w W := hW ▸ (Below.refl _ _).alloc (Nat.le_refl _) _
  have hB : Blk W w.heap.size (rowL A0 c0 A1 c1 A2 c2 r) 67 := hW ▸ Blk.new _ _ _
  rw [← hW]
  clear hW
  refine (hc1 _ (h0.below hbW)).mono ?_
  rintro e w1 ⟨rfl, hb1⟩
  have hbw1 := hbW.trans (hb1.mono hbW.size)
  have hB1 := hB.below hb1
  have x2 := hB1.c 2 rfl
  have x3 := hB1.c 3 rfl
  have x4 := hB1.c 4 rfl
  have x5 := hB1.c 5 rfl
  have x6 := hB1.c 6 rfl
  have x7 := hB1.c 7 rfl
  clear hB hB1
  cases hL : tr (LabelsP r.labels)
  · go_wp2
    go_ret
    exact ⟨ret_b (by rw [hL]; rfl), hbw1⟩
  · go_wp2_with fail
    refine (hc2 _ (h1.below hbw1) (h2.below hbw1)).mono ?_
    rintro e w2 ⟨rfl, hb2⟩
    go_wp2
    go_ret
    exact ⟨ret_b (by rw [hL]; rfl), hbw1.trans (hb2.mono hbw1.size)⟩

@[reducible] def rowZ : List Value := [.slice none 0 0, .int .i64 0, .slice none 0 0, .slice none 0 0, .int .u64 0, .int .u64 0, .int .u64 0, .int .u64 0]
/-- What rows.One has in hand: its box b with cells P, its result behind it, and what has been since wa. -/
structure OneI (w wa X : World) (b : Nat) (P : List Value) : Prop where
  blk : Blk X b P 67
  res : Blk X (b + 1) rowZ 67
  frm : Frm (fun k => k = b ∨ k = b + 1) wa X
  below : Below w.heap.size w X
  new : w.heap.size ≤ b
section
variable {w wa X X' : World} {b : Nat} {P : List Value}
theorem OneI.step (h : OneI w wa X b P) (hb : Below X.heap.size X X') : OneI w wa X' b P := ⟨h.blk.below hb, h.res.below hb, h.frm.trans (.of_below hb), h.below.trans (hb.mono h.below.size), h.new⟩
theorem OneI.drew (h : OneI w wa X b P) : OneI w wa X.drew b P := h.step ⟨rfl, rfl, rfl, Nat.le_refl _, fun _ _ => rfl⟩
theorem OneI.set (h : OneI w wa X b P) (i : Nat) (x : Value) : OneI w wa (X.setCell ⟨b, i, none⟩ x) b (P.set i x) := by
  have a0 : Frm (fun k => k = b) X X := Frm.refl _ X
  have a1 := a0.one rfl i x
  exact ⟨h.blk.set i x, h.res.other i x (by omega), h.frm.one (.inl rfl) i x, a1.to_below h.below (fun k _ e => by have := h.new; omega), h.new⟩
theorem OneI.sl {α : Type} [Rep α] (h : OneI w wa X b P) {A : Option Addr} {xs : List α} (hs : Sl (fun k => k < w.heap.size) w A xs) : Sl (fun k => k < X.heap.size) X A xs :=
  (hs.below h.below).mono (fun k _ hk => Nat.lt_of_lt_of_le hk h.below.size)
end

/-- The row that rows.One gives. -/
theorem oneEnd {w wa X X1 X2 : World} {b e0 e1 e2 c0 c1 c2 : Nat} {P : List Value} {B0 B1 B2 : Option Addr} {r : Row} (hI : OneI w wa X b P)
    (F1 : Frm (fun k => k = b ∨ k = b + 1) X1 X) (F2 : Frm (fun k => k = b ∨ k = b + 1) X2 X) {b0 b1 b2 : Nat}
    (ho0 : Own wa b0 e0 (.slice B0 r.labels.length c0) r.labels) (h0 : b + 2 ≤ b0) (ho1 : Own X1 b1 e1 (.slice B1 r.s.hist.length c1) r.s.hist) (h1 : b + 2 ≤ b1) (ho2 : Own X2 b2 e2 (.slice B2 r.s.hashes.length c2) r.s.hashes) (h2 : b + 2 ≤ b2)
    (hi : I64 r.at_) (hg : r.s.gauge.wf) (m0 : B0 = none → r.labels = [] ∧ c0 = 0) (m1 : B1 = none → r.s.hist = [] ∧ c1 = 0) (m2 : B2 = none → r.s.hashes = [] ∧ c2 = 0) :
    ∀ X', Frm (fun k => k = b ∨ k = b + 1) X X' → RowRep (fun k => w.heap.size ≤ k) X' (rowL B0 c0 B1 c1 B2 c2 r) r := by
  intro X' hf
  have hn := hI.new
  refine ⟨B0, c0, B1, c1, B2, c2, rfl, ?_, hi, ?_, ?_, hg, fun h => (m0 h).2, fun h => (m1 h).2, fun h => (m2 h).2⟩
  · exact (ho0.flat (fun _ _ _ _ _ _ h => h) ((hI.frm.trans hf).mono (fun k _ h => by omega))).mono (fun k _ h => by omega)
  · exact (ho1.flat (fun _ _ _ _ _ _ h => h) ((F1.trans hf).mono (fun k _ h => by omega))).mono (fun k _ h => by omega)
  · exact (ho2.flat (fun _ _ _ _ _ _ h => h) ((F2.trans hf).mono (fun k _ h => by omega))).mono (fun k _ h => by omega)

/-- Eight cells laid into a block. -/
@[reducible] def set8 (w : World) (b : Nat) (v0 v1 v2 v3 v4 v5 v6 v7 : Value) : World :=
  ((((((((w.setCell ⟨b, 0, none⟩ v0).setCell ⟨b, 1, none⟩ v1).setCell ⟨b, 2, none⟩ v2).setCell ⟨b, 3, none⟩ v3).setCell ⟨b, 4, none⟩ v4).setCell ⟨b, 5, none⟩ v5).setCell ⟨b, 6, none⟩ v6).setCell ⟨b, 7, none⟩ v7)
theorem Blk.set8 {w : World} {b t : Nat} (h : Blk w b rowZ t) (v0 v1 v2 v3 v4 v5 v6 v7 : Value) : Blk (set8 w b v0 v1 v2 v3 v4 v5 v6 v7) b [v0, v1, v2, v3, v4, v5, v6, v7] t :=
  (((((((h.set 0 v0).set 1 v1).set 2 v2).set 3 v3).set 4 v4).set 5 v5).set 6 v6).set 7 v7
theorem Frm.set8 {S : Nat → Prop} {w w' : World} (h : Frm S w w') {b : Nat} (hb : S b) (v0 v1 v2 v3 v4 v5 v6 v7 : Value) : Frm S w (set8 w' b v0 v1 v2 v3 v4 v5 v6 v7) :=
  (((((((h.one hb 0 v0).one hb 1 v1).one hb 2 v2).one hb 3 v3).one hb 4 v4).one hb 5 v5).one hb 6 v6).one hb 7 v7

set_option maxHeartbeats 2000000 in
theorem C_rows_One (A0 : Option Addr) (c0 : Nat) (A1 : Option Addr) (c1 : Nat) (A2 : Option Addr) (c2 : Nat) (r : Row) (w : World) (h0 : Sl (fun k => k < w.heap.size) w A0 r.labels) (h1 : Sl (fun k => k < w.heap.size) w A1 r.s.hist) (h2 : Sl (fun k => k < w.heap.size) w A2 r.s.hashes) (hi : I64 r.at_) (hg : r.s.gauge.wf)
    (n0 : A0 = none → c0 = 0) (n1 : A1 = none → c1 = 0) (n2 : A2 = none → c2 = 0) (l0 : r.labels.length ≤ 1048576) (l1 : r.s.hist.length ≤ 1048576) (l2 : r.s.hashes.length ≤ 1048576) :
    Calls Tryz.prog 92 #[.agg (rowL A0 c0 A1 c1 A2 c2 r).toArray] w fun e w' => ∃ B0 d0 B1 d1 B2 d2, e = .returned (.agg (rowL B0 d0 B1 d1 B2 d2 r).toArray) ∧ RowRep (fun k => w.heap.size ≤ k) w' (rowL B0 d0 B1 d1 B2 d2 r) r ∧ Below w.heap.size w w' := by
  go_enter Tryz.func92, Tryz.ntmps92
  go_wp2_with fail
  obtain ⟨W, hW⟩ : ∃ W, W = (w.alloc (.cells (rowL A0 c0 A1 c1 A2 c2 r).toArray 67)).alloc (.cells rowZ.toArray 67) := ⟨_, rfl⟩
  have hI : OneI w W W w.heap.size (rowL A0 c0 A1 c1 A2 c2 r) := by
    rw [hW]
    have hs : (w.alloc (.cells (rowL A0 c0 A1 c1 A2 c2 r).toArray 67)).heap.size = w.heap.size + 1 := by simp
    have hr := Blk.new (w.alloc (.cells (rowL A0 c0 A1 c1 A2 c2 r).toArray 67)) rowZ 67
    rw [hs] at hr
    exact ⟨(Blk.new w _ _).below ((Below.refl _ _).alloc (Nat.le_refl _) _), hr, Frm.refl _ _, ((Below.refl _ _).alloc (Nat.le_refl _) _).alloc (by simp) _, Nat.le_refl _⟩
  have hWs : W.heap.size = w.heap.size + 2 := by rw [hW]; simp
  rw [← hW]
  clear hW
  refine (C_List_Label A0 c0 r.labels _ (hI.sl h0) n0 l0).mono ?_
  rintro e wa ⟨v0, rfl, ho0, hba⟩
  obtain ⟨B0, d0, rfl, m0⟩ := ho0.form
  have hIa : OneI w wa wa w.heap.size (rowL A0 c0 A1 c1 A2 c2 r) := by
    have := hI.step hba
    exact ⟨this.blk, this.res, Frm.refl _ _, this.below, this.new⟩
  have x0 := hIa.blk.c 0 rfl
  have f0 := hIa.blk.f 0
  have hIb := hIa.set 0 (.slice B0 r.labels.length d0)
  have y2 := hIb.blk.c 2 rfl
  have y3 := hIb.blk.c 3 rfl
  clear hI
  go_wp2_with fail
  have hIc := hIb.drew
  have z2 := hIc.blk.c 2 rfl
  have z3 := hIc.blk.c 3 rfl
  clear x0 f0 hba
  go_region_with (first
    | (go_at_call 114; refine (C_List_Bucket A1 c1 r.s.hist _ (hIc.sl h1) n1 l1).mono ?_; rintro e X1 ⟨v1, rfl, ho1, hb1⟩; obtain ⟨B1, d1, rfl, m1⟩ := ho1.form; have hI1 := hIc.step hb1; have p2 := hI1.blk.c 2 rfl; have p3 := hI1.blk.c 3 rfl; have q2 := hI1.blk.f 2; have q3 := hI1.blk.f 3; have hI1' := hI1.set 2 (.slice B1 r.s.hist.length d1))
    | (go_at_call 115; refine (C_List_num A2 c2 r.s.hashes _ (hI1.sl h2) n2 l2).mono ?_; rintro e X2 ⟨v2, rfl, ho2, hb2⟩; obtain ⟨B2, d2, rfl, m2⟩ := ho2.form; have hI2 := hI1.step hb2; have u2 := hI2.blk.c 2 rfl; have u3 := hI2.blk.c 3 rfl; have t2 := hI2.blk.f 2; have t3 := hI2.blk.f 3; have hI3 := (hI2.set 2 (.slice B1 r.s.hist.length d1)).set 3 (.slice B2 r.s.hashes.length d2); have F1 := @Frm.of_below (fun k => k = w.heap.size ∨ k = w.heap.size + 1) _ _ hb2; have F2 := ((Frm.refl (fun k => k = w.heap.size ∨ k = w.heap.size + 1) X2).one (.inl rfl) 2 (.slice B1 r.s.hist.length d1)).one (.inl rfl) 3 (.slice B2 r.s.hashes.length d2); have hz := hb2.size)
    | (go_at_call 115; refine (C_List_num A2 c2 r.s.hashes _ (hI1'.sl h2) n2 l2).mono ?_; rintro e X2 ⟨v2, rfl, ho2, hb2⟩; obtain ⟨B2, d2, rfl, m2⟩ := ho2.form; have hI2 := hI1'.step hb2; have u2 := hI2.blk.c 2 rfl; have u3 := hI2.blk.c 3 rfl; have t2 := hI2.blk.f 2; have t3 := hI2.blk.f 3; have hI3 := hI2.set 3 (.slice B2 r.s.hashes.length d2); have F1 := ((Frm.refl (fun k => k = w.heap.size ∨ k = w.heap.size + 1) X1).one (.inl rfl) 2 (.slice B1 r.s.hist.length d1)).trans (@Frm.of_below (fun k => k = w.heap.size ∨ k = w.heap.size + 1) _ _ hb2); have F2 := (Frm.refl (fun k => k = w.heap.size ∨ k = w.heap.size + 1) X2).one (.inl rfl) 3 (.slice B2 r.s.hashes.length d2); have hz := hb2.size))
  all_goals
    have hz1 := hb1.size
    have hz0 := hIa.below.size
    have hzb : w.heap.size + 2 ≤ wa.heap.size := by have := hIa.res.lt; omega
    have hX1 : w.heap.size + 2 ≤ X1.heap.size := by have : (wa.setCell ⟨w.heap.size, 0, none⟩ (.slice B0 r.labels.length d0)).drew.heap.size = wa.heap.size := by simp [World.setCell, World.drew]
                                                    omega
    have hfin := oneEnd (r := r) hI3 (F1.trans F2) F2 ho0 (by omega) ho1 (by simp [World.setCell, World.drew]; omega) ho2 (by first | omega | (simp [World.setCell]; omega)) hi hg m0 m1 m2
    have hI4 : OneI w wa _ w.heap.size (rowL B0 d0 B1 d1 B2 d2 r) := hI3
    revert hfin hI4
    clear hI3 F1 F2 hz hI2 t2 t3 u2 u3 hI1' hI1 p2 p3 q2 q3 ho1 ho2 hb1 hb2
    generalize (World.setCell _ ⟨w.heap.size, 3, none⟩ (.slice B2 r.s.hashes.length d2)) = Wf
    intro hfin hI4
    clear hIc z2 z3 hIb y2 y3 hIa ho0
    have k0 := hI4.blk.c 0 rfl
    have k1 := hI4.blk.c 1 rfl
    have k2 := hI4.blk.c 2 rfl
    have k3 := hI4.blk.c 3 rfl
    have k4 := hI4.blk.c 4 rfl
    have k5 := hI4.blk.c 5 rfl
    have k6 := hI4.blk.c 6 rfl
    have k7 := hI4.blk.c 7 rfl
    have j0 := hI4.res.c 0 rfl
    have j1 := hI4.res.c 1 rfl
    have j2 := hI4.res.c 2 rfl
    have j3 := hI4.res.c 3 rfl
    have j4 := hI4.res.c 4 rfl
    have j5 := hI4.res.c 5 rfl
    have j6 := hI4.res.c 6 rfl
    have j7 := hI4.res.c 7 rfl
    have f0 := hI4.res.f 0
    have f1 := hI4.res.f 1
    have f2 := hI4.res.f 2
    have f3 := hI4.res.f 3
    have f4 := hI4.res.f 4
    have f5 := hI4.res.f 5
    have f6 := hI4.res.f 6
    have f7 := hI4.res.f 7
    have FIN := Lib.hid hfin
    clear hfin
    go_wp2
    have hblk := hI4.res.set8 (.slice B0 r.labels.length d0) (.int .i64 r.at_) (.slice B1 r.s.hist.length d1) (.slice B2 r.s.hashes.length d2) (.int .u64 r.s.gauge.n) (.int .u64 r.s.gauge.nans) (.int .u64 r.s.gauge.lo) (.int .u64 r.s.gauge.hi)
    have hfrm := (Frm.refl (fun k => k = w.heap.size ∨ k = w.heap.size + 1) Wf).set8 (b := w.heap.size + 1) (.inr rfl) (.slice B0 r.labels.length d0) (.int .i64 r.at_) (.slice B1 r.s.hist.length d1) (.slice B2 r.s.hashes.length d2) (.int .u64 r.s.gauge.n) (.int .u64 r.s.gauge.nans) (.int .u64 r.s.gauge.lo) (.int .u64 r.s.gauge.hi)
    have hbel := hfrm.to_below hI4.below (fun k _ e => by omega)
    have hrow := FIN.out _ hfrm
    revert hblk hbel hrow
    unfold set8
    clear hfrm j0 j1 j2 j3 j4 j5 j6 j7 k0 k1 k2 k3 k4 k5 k6 k7 f0 f1 f2 f3 f4 f5 f6 f7
    generalize (World.setCell _ ⟨w.heap.size + 1, 7, none⟩ (.int .u64 r.s.gauge.hi)) = Wg
    intro hblk hbel hrow
    have k0 := hblk.c 0 rfl
    have k1 := hblk.c 1 rfl
    have k2 := hblk.c 2 rfl
    have k3 := hblk.c 3 rfl
    have k4 := hblk.c 4 rfl
    have k5 := hblk.c 5 rfl
    have k6 := hblk.c 6 rfl
    have k7 := hblk.c 7 rfl
    refine bodyPost_ret (v := .agg (rowL B0 d0 B1 d1 B2 d2 r).toArray) (by simp [results, Tryz.results92, go_sem, k0, k1, k2, k3, k4, k5, k6, k7]) rfl ?_
    exact ⟨B0, d0, B1, d1, B2, d2, rfl, hrow, hbel⟩
end Go.Proofs.YtbefkiebdokbdaaGreat.V
end

section
/- Contracts: rows.Own. -/
namespace Go.Proofs.YtbefkiebdokbdaaGreat.V
open Go.RowKit
set_option linter.unusedVariables false
set_option maxRecDepth 100000

theorem el_Row : ElemOf Tryz.prog 51 67 (Rep.sz Row) 112 := ElemOf.mk' (z := .agg #[.slice none 0 0, .int .i64 0, .slice none 0 0, .slice none 0 0, .int .u64 0, .int .u64 0, .int .u64 0, .int .u64 0]) Tryz.underlying51 (by kernel_rfl) rfl

theorem Sl.row {ok : Nat → Prop} {w : World} {A : Option Addr} {xs : List Row} (h : Sl ok w A xs) {k : Nat} (hk : k < xs.length) :
    ∃ b off A0 c0 A1 c1 A2 c2, A = some ⟨b, off, none⟩ ∧ ok b ∧ b < w.heap.size ∧ w.cell? ⟨b, off + k * 8, none⟩ = some (.slice A0 xs[k].labels.length c0) ∧ w.cell? ⟨b, off + k * 8 + 1, none⟩ = some (.int .i64 xs[k].at_)
      ∧ w.cell? ⟨b, off + k * 8 + 2, none⟩ = some (.slice A1 xs[k].s.hist.length c1) ∧ w.cell? ⟨b, off + k * 8 + 3, none⟩ = some (.slice A2 xs[k].s.hashes.length c2)
      ∧ w.cell? ⟨b, off + k * 8 + 4, none⟩ = some (.int .u64 xs[k].s.gauge.n) ∧ w.cell? ⟨b, off + k * 8 + 5, none⟩ = some (.int .u64 xs[k].s.gauge.nans) ∧ w.cell? ⟨b, off + k * 8 + 6, none⟩ = some (.int .u64 xs[k].s.gauge.lo) ∧ w.cell? ⟨b, off + k * 8 + 7, none⟩ = some (.int .u64 xs[k].s.gauge.hi)
      ∧ Sl ok w A0 xs[k].labels ∧ I64 xs[k].at_ ∧ Sl ok w A1 xs[k].s.hist ∧ Sl ok w A2 xs[k].s.hashes ∧ xs[k].s.gauge.wf ∧ (A0 = none → c0 = 0) ∧ (A1 = none → c1 = 0) ∧ (A2 = none → c2 = 0) := by
  obtain ⟨b, off, vs, rfl, hv, hc⟩ := h.at_ hk
  obtain ⟨A0, c0, A1, c1, A2, c2, rfl, h0, hi, h1, h2, h3, m0, m1, m2⟩ := hv
  exact ⟨b, off, A0, c0, A1, c1, A2, c2, rfl, hc.1, hc.2.1, hc.c0, hc.c1, hc.cj 2 _ rfl, hc.cj 3 _ rfl, hc.cj 4 _ rfl, hc.cj 5 _ rfl, hc.cj 6 _ rfl, hc.cj 7 _ rfl, h0, hi, h1, h2, h3, m0, m1, m2⟩

/-- The lists of a row are of a borne size. -/
def Row.small (r : Row) : Prop := r.labels.length ≤ 1048576 ∧ r.s.hist.length ≤ 1048576 ∧ r.s.hashes.length ≤ 1048576

set_option maxHeartbeats 2000000 in
theorem C_rows_Own (A : Option Addr) (cap : Nat) (xs : List Row) (w : World) (hr : Sl (fun k => k < w.heap.size) w A xs) (hl : xs.length ≤ 1048576) (hs : ∀ r ∈ xs, r.small) :
    Calls Tryz.prog 57 #[.slice A xs.length cap] w fun e w' => ∃ v, e = .returned v ∧ Own w' w.heap.size 67 v xs ∧ Below w.heap.size w w' := by
  have HS := Lib.hid hs
  clear hs
  go_enter Tryz.func57, Tryz.ntmps57
  go_wp2_with fail
  go_loopw [3, 5, 8] (fun v _ i wr => ∃ (k : Nat), k ≤ xs.length ∧ i = .int .i64 k ∧ Own wr w.heap.size 67 v (xs.take k) ∧ Below w.heap.size w wr) (fun _ _ i _ => xs.length - (intOf i).toNat)
  case atStart => exact ⟨0, Nat.zero_le _, rfl, Own.nil _ _ _, Below.refl _ _⟩
  case round =>
    obtain ⟨k, hk, rfl, hown, hbl⟩ := hrel
    by_cases hlt : k < xs.length
    · have hsm := HS.out _ (List.getElem_mem hlt)
      obtain ⟨l0, l1, l2⟩ := hsm
      obtain ⟨b, off, A0, c0, A1, c1, A2, c2, rfl, hob, hlb, y0, y1, y2, y3, y4, y5, y6, y7, s0, hi, s1, s2, hg, m0, m1, m2⟩ := (hr.below hbl).row hlt
      have htk : xs.take (k + 1) = xs.take k ++ [xs[k]] := List.take_succ_eq_append_getElem hlt
      have HT := Lib.hid htk
      clear htk
      have hlen : (xs.take k).length = k := by simp; omega
      generalize xs.take k = pre at *
      generalize xs[k] = r at *
      go_wp2_with fail
      obtain ⟨W, hW⟩ : ∃ W, W = wr.alloc (.cells (rowL A0 c0 A1 c1 A2 c2 r).toArray 67) := ⟨_, rfl⟩
      have hbW : Below wr.heap.size wr W := hW ▸ (Below.refl _ _).alloc (Nat.le_refl _) _
      rw [← hW]
      clear hW y0 y1 y2 y3 y4 y5 y6 y7
      have hws := hbl.size
      have hwz := hbW.size
      have tosl : ∀ {α : Type} [Rep α] {B : Option Addr} {zs : List α}, Sl (fun k => k < w.heap.size) wr B zs → Sl (fun k => k < W.heap.size) W B zs := fun h => (h.below hbW).mono (fun k _ h => by omega)
      refine (C_rows_One A0 c0 A1 c1 A2 c2 r _ (tosl s0) (tosl s1) (tosl s2) hi hg m0 m1 m2 l0 l1 l2).mono ?_
      rintro e w1 ⟨B0, d0, B1, d1, B2, d2, rfl, hrow, hb1⟩
      clear tosl s0 s1 s2
      have hown1 := (hown.below hbW).below hb1
      have hob : ∀ j, u3.ownBlock = some j → w.heap.size ≤ j ∧ j < wr.heap.size := fun j hj => by obtain ⟨cs, _, ho'⟩ := hown; exact ho'.lt j hj
      have hz1 := hb1.size
      have hrow1 : Rep.rep (fun k => k < w1.heap.size ∧ some k ≠ u3.ownBlock) w1 (rowL B0 d0 B1 d1 B2 d2 r) r := Rep.mono (α := Row) hrow (fun k hk h => ⟨hk, fun e => by have := hob k e.symm; omega⟩)
      have hA1 : pre.length + 1 ≤ 9223372036854775807 := by omega
      have hA2 : (pre.length + 1) * 112 ≤ 140737488355328 := by omega
      have hA3 : w.heap.size ≤ w1.heap.size := by omega
      have hb2 : Below w.heap.size w w1 := (hbl.trans (hbW.mono hws)).trans (hb1.mono (by omega))
      clear hown hbl hrow hb1 hbW
      go_wp2_with (at_builtin; refine wpOwn_append1 (rowL B0 d0 B1 d1 B2 d2 r) r rfl _ _ 51 67 67 112 w.heap.size rfl rfl el_Row rfl hown1 rfl hrow1 hA1 hA2 hA3 ?_)
      intro v' w2 ho2 hg2 hat2
      go_wp2
      go_roundw
      case rel => exact ⟨k + 1, by omega, by go_num, by rw [HT.out]; exact ho2, hb2.grown hg2 hb2.size (fun j hj => (hob j hj).1)⟩
      case measure => simp [intOf]; omega
    · have hkk : k = xs.length := by omega
      rw [hkk, List.take_length] at hown
      go_wp2
      go_ret
      exact ⟨_, rfl, hown, hbl⟩
end Go.Proofs.YtbefkiebdokbdaaGreat.V
end

section
/- Contracts of package match at the matcher that means all: the zero value. -/
namespace Go.Proofs.YtbefkiebdokbdaaGreat.V
open Go.RowKit
set_option linter.unusedVariables false
set_option maxRecDepth 100000

@[reducible] def mz : List Value := [.int .i64 0, .string ⟨#[]⟩, .string ⟨#[]⟩, .slice none 0 0, .slice none 0 0]
theorem empty_no : ¬ NameP ⟨#[]⟩ := fun h => by have := h.1; simp [ByteArray.size] at this

theorem C_alone_z (w : World) : Calls Tryz.prog 103 #[.agg mz.toArray] w fun e w' => e = .returned (.bool true) ∧ Below w.heap.size w w' := by
  have hcall : ∀ w, Calls Tryz.prog 124 #[.string ⟨#[]⟩] w fun e w' => e = .returned (.bool false) ∧ w = w' := fun w => (C_label_Name _ w (by simp [StrOk, ByteArray.size])).mono fun e w' h => ⟨by rw [h.1, tr_no empty_no], h.2⟩
  have HC := Lib.hid hcall
  clear hcall
  go_enter Tryz.func103, Tryz.ntmps103
  go_wp2_with (go_at_call 124; refine (HC.out _).mono ?_; rintro e w' ⟨rfl, rfl⟩)
  go_ret
  exact ⟨rfl, (Below.refl _ _).alloc (Nat.le_refl _) _⟩

theorem C_holds_z (g : Nat) (w : World) (hB : Blk w g [.int .i64 64, .int .i64 4096] 116) :
    Calls Tryz.prog 70 #[.pointer (some ⟨g, 0, none⟩), .agg mz.toArray, .int .i64 1] w fun e w' => e = .returned (.bool true) ∧ Frm (fun k => k = g) w w' := by
  have hg := hB.lt
  go_enter Tryz.func70, Tryz.ntmps70
  have x0 := hB.c 0 rfl
  have x1 := hB.c 1 rfl
  have f0 := hB.f 0
  have f1 := hB.f 1
  have hne : g ≠ w.heap.size := by omega
  have hne' : w.heap.size ≠ g := by omega
  go_wp2_with fail
  obtain ⟨Z, hZ⟩ : ∃ Z, Z = (w.setCell ⟨g, 0, none⟩ (.int .i64 63)).alloc (.cells mz.toArray 28) := ⟨_, rfl⟩
  have hFZ : Frm (fun k => k = g) w Z := by
    rw [hZ]; exact ((Frm.refl (fun k => k = g) w).one rfl 0 (.int .i64 63)).alloc _
  have hBZ : Blk Z g [.int .i64 63, .int .i64 4096] 116 := by
    rw [hZ]; exact (hB.set 0 (.int .i64 63)).below ((Below.refl _ _).alloc (Nat.le_refl _) _)
  have hMZ : Blk Z w.heap.size mz 28 := by
    rw [hZ]
    have := Blk.new (w.setCell ⟨g, 0, none⟩ (.int .i64 63)) mz 28
    simpa [World.setCell] using this
  rw [← hZ]
  clear hZ x0 x1 f0 f1
  refine (C_alone_z Z).mono ?_
  rintro e w1 ⟨rfl, hb1⟩
  have hF1 := hFZ.trans (.of_below hb1)
  have hB1 := hBZ.below hb1
  have hM1 := hMZ.below hb1
  clear hFZ hBZ hMZ hb1
  have x1 := hB1.c 1 rfl
  have f1 := hB1.f 1
  have y1 := hM1.c 1 rfl
  have y2 := hM1.c 2 rfl
  go_wp2_with fail
  refine wp_region_still_tail 14 (by kernel_rfl) (by kernel_rfl) ?_
  simp only [List.take_succ_cons, List.take_zero, List.drop_succ_cons, List.drop_zero]
  change wpStill _ _ w1.drew _ _ _
  repeat still_step
  refine wpStill_nil ?_
  change wpList _ _ _ _ _ w1.drew
  have y3 := hM1.c 3 rfl
  have y4 := hM1.c 4 rfl
  go_wp2
  refine wp_loop_rounds 1 ?_
  rw [rounds_succ]
  go_wp2
  refine wp_loop_rounds 1 ?_
  rw [rounds_succ]
  go_wp2
  go_ret
  exact ⟨rfl, hF1.drew.one rfl 1 _⟩

theorem C_match_Check_z (w : World) : Calls Tryz.prog 36 #[.agg mz.toArray] w fun e w' => e = .returned (.bool true) ∧ Below w.heap.size w w' := by
  go_enter Tryz.func36, Tryz.ntmps36
  go_wp2_with fail
  have hB := Blk.new (w.alloc (.cells mz.toArray 28)) [.int .i64 64, .int .i64 4096] 116
  have hs : (w.alloc (.cells mz.toArray 28)).heap.size = w.heap.size + 1 := by simp
  rw [hs] at hB
  have hb : Below w.heap.size w ((w.alloc (.cells mz.toArray 28)).alloc (.cells [.int .i64 64, .int .i64 4096].toArray 116)) := ((Below.refl _ _).alloc (Nat.le_refl _) _).alloc (by omega) _
  refine (C_holds_z _ _ hB).mono ?_
  rintro e w1 ⟨rfl, hf⟩
  go_wp2
  go_ret
  exact ⟨rfl, hf.to_below hb (fun k _ e => by omega)⟩
theorem C_match_eval_z (ok : Nat → Prop) (A : Option Addr) (cap : Nat) (xs : List Label) (w : World) (hr : Sl ok w A xs) : Calls Tryz.prog 118 #[.agg mz.toArray, .slice A xs.length cap] w fun e w' => e = .returned (.bool true) ∧ Below w.heap.size w w' := by
  have hc := fun w h => C_label_Value ok A cap xs ⟨#[]⟩ w h
  go_enter Tryz.func118, Tryz.ntmps118
  go_wp2_with fail
  have hB := Blk.new w mz 28
  have hb : Below w.heap.size w (w.alloc (.cells mz.toArray 28)) := (Below.refl _ _).alloc (Nat.le_refl _) _
  refine (hc _ (hr.below hb)).mono ?_
  rintro e w1 ⟨rfl, hb1⟩
  have hB1 := hB.below hb1
  have x0 := hB1.c 0 rfl
  have hb2 := hb.trans (hb1.mono hb.size)
  clear hB hB1
  go_wp2
  go_ret
  exact ⟨rfl, hb2⟩
theorem C_match_Eval_z (ok : Nat → Prop) (A : Option Addr) (cap : Nat) (xs : List Label) (w : World) (hr : Sl ok w A xs) : Calls Tryz.prog 94 #[.agg mz.toArray, .slice A xs.length cap] w fun e w' => e = .returned (.bool true) ∧ Below w.heap.size w w' := by
  have hc := fun w h => C_match_eval_z ok A cap xs w h
  go_enter Tryz.func94, Tryz.ntmps94
  go_wp2_with fail
  have hB := Blk.new w mz 28
  have hb : Below w.heap.size w (w.alloc (.cells mz.toArray 28)) := (Below.refl _ _).alloc (Nat.le_refl _) _
  refine (C_match_Check_z _).mono ?_
  rintro e w1 ⟨rfl, hb1⟩
  have hB1 := hB.below hb1
  have hb2 := hb.trans (hb1.mono hb.size)
  have x0 := hB1.c 0 rfl
  have x1 := hB1.c 1 rfl
  have x2 := hB1.c 2 rfl
  have x3 := hB1.c 3 rfl
  have x4 := hB1.c 4 rfl
  clear hB hB1
  go_wp2_with fail
  refine (hc _ (hr.below hb2)).mono ?_
  rintro e w2 ⟨rfl, hb3⟩
  go_wp2
  go_ret
  exact ⟨rfl, hb2.trans (hb3.mono hb2.size)⟩
end Go.Proofs.YtbefkiebdokbdaaGreat.V
end

section
/- query.Meant at the matcher that means all. -/
namespace Go.Proofs.YtbefkiebdokbdaaGreat.V
open Go.RowKit
set_option linter.unusedVariables false
set_option maxRecDepth 100000

/-- Do a row's labels and sketch stand? -/
noncomputable def mayB (r : Row) : Bool := tr (LabelsP r.labels) && pCheck r.s

theorem Frm.of_grown' {w w' : World} {row : Option Nat} (h : w.grownBy w' row) : Frm (fun k => row = some k) w w' := ⟨h.os, h.tape, h.output, h.size, fun i hi hn => h.block i hi (fun e => hn e.symm)⟩

set_option maxHeartbeats 4000000 in
theorem C_Meant_z (A : Option Addr) (cap : Nat) (xs : List Row) (w : World) (hr : Sl (fun k => k < w.heap.size) w A xs) (hl : xs.length ≤ 1048576) :
    Calls Tryz.prog 58 #[.agg mz.toArray, .slice A xs.length cap] w fun e w' => ∃ v, e = .returned v ∧ Own w' w.heap.size 67 v (xs.filter mayB) ∧ Below w.heap.size w w' := by
  have hlen := hr.1
  go_enter Tryz.func58, Tryz.ntmps58
  go_wp2_with fail
  have hB := Blk.new w mz 28
  have hb : Below w.heap.size w (w.alloc (.cells mz.toArray 28)) := (Below.refl _ _).alloc (Nat.le_refl _) _
  generalize w.alloc (.cells mz.toArray 28) = W at hB hb ⊢
  go_step3
  go_wp2_with fail
  go_step3
  go_wp2_with fail
  go_loopw [5, 7, 10] (fun v _ i wr => ∃ (k : Nat), k ≤ xs.length ∧ i = .int .i64 k ∧ Own wr (w.heap.size + 1) 67 v ((xs.take k).filter mayB) ∧ Below w.heap.size w wr ∧ Blk wr w.heap.size mz 28) (fun _ _ i _ => xs.length - (intOf i).toNat)
  case atStart => exact ⟨0, Nat.zero_le _, rfl, Own.nil _ _ _, hb, hB⟩
  case round =>
    clear hB hb
    obtain ⟨k, hk, rfl, hown, hbl, hB⟩ := hrel
    by_cases hlt : k < xs.length
    · obtain ⟨b, off, A0, c0, A1, c1, A2, c2, rfl, hob, hlb, y0, y1, y2, y3, y4, y5, y6, y7, s0, hi, s1, s2, hg, m0, m1, m2⟩ := (hr.below hbl).row hlt
      have htk : xs.take (k + 1) = xs.take k ++ [xs[k]] := List.take_succ_eq_append_getElem hlt
      have hle : ((xs.take k).filter mayB).length ≤ k := by
        have := List.length_filter_le mayB (xs.take k); simp at this; omega
      have hfl : (xs.take (k + 1)).filter mayB = (xs.take k).filter mayB ++ (if mayB xs[k] = true then [xs[k]] else []) := by
        rw [htk, List.filter_append]; simp only [List.filter_cons, List.filter_nil]
      have HT := Lib.hid hfl
      clear htk hfl
      generalize (xs.take k).filter mayB = pre at *
      generalize xs[k] = r at *
      go_wp2_with fail
      obtain ⟨W, hW⟩ : ∃ W, W = wr.alloc (.cells (rowL A0 c0 A1 c1 A2 c2 r).toArray 67) := ⟨_, rfl⟩
      have hbW : Below wr.heap.size wr W := hW ▸ (Below.refl _ _).alloc (Nat.le_refl _) _
      have hBW : Blk W wr.heap.size (rowL A0 c0 A1 c1 A2 c2 r) 67 := hW ▸ Blk.new _ _ _
      rw [← hW]
      clear hW y0 y1 y2 y3 y4 y5 y6 y7
      have hws := hbl.size
      have hwz := hbW.size
      refine (C_rows_May _ A0 c0 A1 c1 A2 c2 r _ (s0.below hbW) (s1.below hbW) (s2.below hbW) hg).mono ?_
      rintro e w1 ⟨rfl, hb1⟩
      have hb2 : Below w.heap.size w w1 := (hbl.trans (hbW.mono hws)).trans (hb1.mono (by omega))
      have hz1 := hb1.size
      have hB1 := (hB.below hbW).below hb1
      have hBr := hBW.below hb1
      have t0 := (s0.below hbW).below hb1
      have t1 := (s1.below hbW).below hb1
      have t2 := (s2.below hbW).below hb1
      have hown1 := (hown.below hbW).below hb1
      have hub : ∀ j, u5.ownBlock = some j → w.heap.size + 1 ≤ j ∧ j < wr.heap.size := fun j hj => by obtain ⟨cs, _, ho'⟩ := hown; exact ho'.lt j hj
      clear hown hbl hb1 hbW hBW hB s0 s1 s2
      have emb : mayB r = (tr (LabelsP r.labels) && pCheck r.s) := rfl
      rw [← emb]
      have z0 := hB1.c 0 rfl
      have z1 := hB1.c 1 rfl
      have z2 := hB1.c 2 rfl
      have z3 := hB1.c 3 rfl
      have z4 := hB1.c 4 rfl
      have x0 := hBr.c 0 rfl
      clear emb
      cases hm : mayB r
      · have HM := Lib.hid hm
        clear hm
        go_wp2
        go_roundw
        case rel => exact ⟨k + 1, by omega, by go_num, by rw [HT.out, HM.out]; simpa using hown1, hb2, hB1⟩
        case measure => simp [intOf]; omega
      · have HM := Lib.hid hm
        clear hm
        go_wp2_with fail
        refine (C_match_Eval_z _ A0 c0 r.labels _ t0).mono ?_
        rintro e w2 ⟨rfl, hbe⟩
        have hB2 := hB1.below hbe
        have hBr2 := hBr.below hbe
        have q0 := hBr2.c 0 rfl
        have q1 := hBr2.c 1 rfl
        have q2 := hBr2.c 2 rfl
        have q3 := hBr2.c 3 rfl
        have q4 := hBr2.c 4 rfl
        have q5 := hBr2.c 5 rfl
        have q6 := hBr2.c 6 rfl
        have q7 := hBr2.c 7 rfl
        have hown2 := hown1.below hbe
        have hb3 := hb2.trans (hbe.mono hb2.size)
        have hz2 := hbe.size
        have hrow1 : Rep.rep (fun k => k < w2.heap.size ∧ some k ≠ u5.ownBlock) w2 (rowL A0 c0 A1 c1 A2 c2 r) r := by
          have hf : ∀ k, k < w2.heap.size → k < w.heap.size → (k < w2.heap.size ∧ some k ≠ u5.ownBlock) := fun k h1 h2 => ⟨h1, fun e => by have := (hub k e.symm).1; omega⟩
          exact ⟨A0, c0, A1, c1, A2, c2, rfl, (t0.below hbe).mono hf, hi, (t1.below hbe).mono hf, (t2.below hbe).mono hf, hg, m0, m1, m2⟩
        have hA1 : pre.length + 1 ≤ 9223372036854775807 := by omega
        have hA2 : (pre.length + 1) * 112 ≤ 140737488355328 := by omega
        have hA3 : w.heap.size + 1 ≤ w2.heap.size := by have := hB2.lt; omega
        clear z0 z1 z2 z3 z4 x0 hBr2 hBr hown1 hb2 hbe hB1 t0 t1 t2
        go_wp2_with (at_builtin; refine wpOwn_append1 (rowL A0 c0 A1 c1 A2 c2 r) r rfl _ _ 51 67 67 112 (w.heap.size + 1) rfl rfl el_Row rfl hown2 rfl hrow1 hA1 hA2 hA3 ?_)
        intro v' w3 ho2 hg2 hat2
        go_wp2
        go_roundw
        case rel => exact ⟨k + 1, by omega, by go_num, by rw [HT.out, HM.out]; simpa using ho2, hb3.grown hg2 hb3.size (fun j hj => by have := hub j hj; omega), hB2.frm (Frm.of_grown' hg2) (fun e => by have := hub _ e; omega)⟩
        case measure => simp [intOf]; omega
    · have hkk : k = xs.length := by omega
      rw [hkk, List.take_length] at hown
      go_wp2
      rw [Exit.noGoto_ret]
      go_ret
      exact ⟨_, rfl, hown.lower (by omega), hbl⟩
end Go.Proofs.YtbefkiebdokbdaaGreat.V
end

section
/- query.One at a count. -/
namespace Go.Proofs.YtbefkiebdokbdaaGreat.V
open Go.RowKit
set_option linter.unusedVariables false
set_option maxRecDepth 100000

/-- An Ask for a count, as cells. -/
@[reducible] def askL (start step n : Int) : List Value := mz ++ [.int .i64 start, .int .i64 step, .int .i64 n, .int .i64 1, .int .u64 0, .int .u64 0]
@[reducible] def sketchL (A1 : Option Addr) (c1 : Nat) (A2 : Option Addr) (c2 : Nat) (s : Sketch) : List Value :=
  [.slice A1 s.hist.length c1, .slice A2 s.hashes.length c2, .int .u64 s.gauge.n, .int .u64 s.gauge.nans, .int .u64 s.gauge.lo, .int .u64 s.gauge.hi]
@[reducible] def ansL (frm : Int) (has : Bool) (v err : Int) : List Value := [.int .i64 frm, .bool has, .int .u64 v, .int .i64 err]

theorem Sl.up {α : Type} [Rep α] {w X : World} {B : Option Addr} {zs : List α} (h : Sl (fun k => k < w.heap.size) w B zs) (hb : Below w.heap.size w X) : Sl (fun k => k < X.heap.size) X B zs := (h.below hb).mono (fun k _ h => Nat.lt_of_lt_of_le h hb.size)
/-- What query.One has in hand: its ask, its sketch, its result, its 'out'. -/
structure QI (w X : World) (ask sk out : List Value) : Prop where
  ask : Blk X w.heap.size ask 31
  sk : Blk X (w.heap.size + 1) sk 44
  res : Blk X (w.heap.size + 2) (ansL 0 false 0 0) 47
  out : Blk X (w.heap.size + 3) out 47
  below : Below w.heap.size w X
section
variable {w X X' : World} {ask sk out : List Value}
theorem QI.step (h : QI w X ask sk out) (hb : Below X.heap.size X X') : QI w X' ask sk out := ⟨h.ask.below hb, h.sk.below hb, h.res.below hb, h.out.below hb, h.below.trans (hb.mono h.below.size)⟩
theorem QI.set (h : QI w X ask sk out) (i : Nat) (x : Value) : QI w (X.setCell ⟨w.heap.size + 3, i, none⟩ x) ask sk (out.set i x) := by
  have a0 : Frm (fun k => k = w.heap.size + 3) X X := Frm.refl _ X
  have a1 := a0.one rfl i x
  exact ⟨h.ask.other i x (by omega), h.sk.other i x (by omega), h.res.other i x (by omega), h.out.set i x, a1.to_below h.below (fun k _ e => by omega)⟩
theorem QI.new (w : World) (ask sk : List Value) : QI w ((((w.alloc (.cells ask.toArray 31)).alloc (.cells sk.toArray 44)).alloc (.cells (ansL 0 false 0 0).toArray 47)).alloc (.cells (ansL 0 false 0 0).toArray 47)) ask sk (ansL 0 false 0 0) := by
  have ba : ∀ (X : World) (o : Obj), Below X.heap.size X (X.alloc o) := fun X o => (Below.refl _ _).alloc (Nat.le_refl _) o
  have sa : ∀ (X : World) (o : Obj), (X.alloc o).heap.size = X.heap.size + 1 := fun X o => by simp
  have e1 := sa w (.cells ask.toArray 31)
  have n0 := Blk.new w ask 31
  have n1 := Blk.new (w.alloc (.cells ask.toArray 31)) sk 44
  have b1 := ba w (.cells ask.toArray 31)
  generalize w.alloc (.cells ask.toArray 31) = w1 at *
  have e2 := sa w1 (.cells sk.toArray 44)
  have n2 := Blk.new (w1.alloc (.cells sk.toArray 44)) (ansL 0 false 0 0) 47
  have b2 := ba w1 (.cells sk.toArray 44)
  generalize w1.alloc (.cells sk.toArray 44) = w2 at *
  have e3 := sa w2 (.cells (ansL 0 false 0 0).toArray 47)
  have n3 := Blk.new (w2.alloc (.cells (ansL 0 false 0 0).toArray 47)) (ansL 0 false 0 0) 47
  have b3 := ba w2 (.cells (ansL 0 false 0 0).toArray 47)
  generalize w2.alloc (.cells (ansL 0 false 0 0).toArray 47) = w3 at *
  have b4 := ba w3 (.cells (ansL 0 false 0 0).toArray 47)
  generalize w3.alloc (.cells (ansL 0 false 0 0).toArray 47) = w4 at *
  rw [e1] at n1
  rw [e2, e1] at n2
  rw [e3, e2, e1] at n3
  exact ⟨((n0.below b2).below b3).below b4, (n1.below b3).below b4, n2.below b4, n3, ((b1.trans (b2.mono (by omega))).trans (b3.mono (by omega))).trans (b4.mono (by omega))⟩
end

theorem QI.fin {w X : World} {ask sk out : List Value} (h : QI w X ask sk out) (v0 v1 v2 v3 : Value) :
    Blk ((((X.setCell ⟨w.heap.size + 2, 0, none⟩ v0).setCell ⟨w.heap.size + 2, 1, none⟩ v1).setCell ⟨w.heap.size + 2, 2, none⟩ v2).setCell ⟨w.heap.size + 2, 3, none⟩ v3) (w.heap.size + 2) [v0, v1, v2, v3] 47 ∧
    Below w.heap.size w ((((X.setCell ⟨w.heap.size + 2, 0, none⟩ v0).setCell ⟨w.heap.size + 2, 1, none⟩ v1).setCell ⟨w.heap.size + 2, 2, none⟩ v2).setCell ⟨w.heap.size + 2, 3, none⟩ v3) := by
  have a0 : Frm (fun k => k = w.heap.size + 2) X X := Frm.refl _ X
  exact ⟨(((h.res.set 0 v0).set 1 v1).set 2 v2).set 3 v3, ((((a0.one rfl 0 v0).one rfl 1 v1).one rfl 2 v2).one rfl 3 v3).to_below h.below (fun k _ e => by omega)⟩
/-- What query.One answers at a count v. -/
def RCount (w : World) (v : Int) (e : Ending) (w' : World) : Prop :=
  e = .returned (.agg (ansL 0 (satErr v == 0) (if satErr v = 0 then v else 0) (satErr v)).toArray) ∧ Below w.heap.size w w'

set_option maxHeartbeats 4000000 in
theorem C_One_count (A1 : Option Addr) (c1 : Nat) (A2 : Option Addr) (c2 : Nat) (s : Sketch) (start step n : Int) (w : World) (h1 : Sl (fun k => k < w.heap.size) w A1 s.hist) (h2 : Sl (fun k => k < w.heap.size) w A2 s.hashes) (hg : s.gauge.wf) (hc : pCheck s = true) :
    Calls Tryz.prog 18 #[.agg (askL start step n).toArray, .agg (sketchL A1 c1 A2 c2 s).toArray] w (RCount w (hUp (hAdd h0 s.hist) 7424)) := by
  have p0 := hc
  unfold pCheck at hc
  rw [Bool.and_eq_true, Bool.and_eq_true] at hc
  obtain ⟨⟨p1, p2⟩, p3⟩ := hc
  generalize hv : hUp (hAdd h0 s.hist) 7424 = v
  have HV := Lib.hid hv
  clear hv
  go_enter Tryz.func18, Tryz.ntmps18
  go_wp2_with fail
  obtain ⟨W, hW⟩ : ∃ W, W = ((((w.alloc (.cells (askL start step n).toArray 31)).alloc (.cells (sketchL A1 c1 A2 c2 s).toArray 44)).alloc (.cells (ansL 0 false 0 0).toArray 47)).alloc (.cells (ansL 0 false 0 0).toArray 47)) := ⟨_, rfl⟩
  have hI : QI w W (askL start step n) (sketchL A1 c1 A2 c2 s) (ansL 0 false 0 0) := hW ▸ QI.new w _ _
  show Calls _ _ _ ((((w.alloc (.cells (askL start step n).toArray 31)).alloc (.cells (sketchL A1 c1 A2 c2 s).toArray 44)).alloc (.cells (ansL 0 false 0 0).toArray 47)).alloc (.cells (ansL 0 false 0 0).toArray 47)) _
  rw [← hW]
  clear hW
  refine (C_hist_From (fun k => k < W.heap.size) A1 c1 s.hist W (h1.up hI.below) (fun k h => h) p1).mono ?_
  rintro e w1 ⟨g, rfl, hH, hgn, hb1⟩
  have hI1 := hI.step hb1
  have a1 := hI1.sk.c 1 rfl
  clear hI
  go_wp2_with fail
  refine (C_kmv_Check _ A2 c2 s.hashes w1 (h2.up hI1.below)).mono ?_
  rintro e w2 ⟨rfl, hb2⟩
  rw [p2]
  have hH2 := hH.below hb2
  have hI2 := hI1.step hb2
  have a2 := hI2.sk.c 2 rfl
  have a3 := hI2.sk.c 3 rfl
  have a4 := hI2.sk.c 4 rfl
  have a5 := hI2.sk.c 5 rfl
  clear hI1 hH a1
  go_wp2_with fail
  refine (C_gauge_Check s.gauge w2 hg).mono ?_
  rintro e w3 ⟨rfl, hb3⟩
  rw [p3]
  have hH3 := hH2.below hb3
  have hI3 := hI2.step hb3
  have a8 := hI3.ask.c 8 rfl
  clear hI2 hH2 a2 a3 a4 a5
  go_wp2_with fail
  refine (C_hist_Count g _ w3 hH3).mono ?_
  rintro e w4 ⟨rfl, rfl⟩
  have h3 := hI3
  rw [HV.out]
  obtain ⟨er, he⟩ : ∃ er, er = satErr v := ⟨_, rfl⟩
  rw [← he]
  have HE := Lib.hid he
  have o0 : w3.cell? ⟨w.heap.size + 1 + 1 + 1, 0, none⟩ = some (.int .i64 0) := hI3.out.c 0 rfl
  have o1 : w3.cell? ⟨w.heap.size + 1 + 1 + 1, 1, none⟩ = some (.bool false) := hI3.out.c 1 rfl
  have o2 : w3.cell? ⟨w.heap.size + 1 + 1 + 1, 2, none⟩ = some (.int .u64 0) := hI3.out.c 2 rfl
  have o3 : w3.cell? ⟨w.heap.size + 1 + 1 + 1, 3, none⟩ = some (.int .i64 0) := hI3.out.c 3 rfl
  have r0 : w3.cell? ⟨w.heap.size + 1 + 1, 0, none⟩ = some (.int .i64 0) := hI3.res.c 0 rfl
  have r1 : w3.cell? ⟨w.heap.size + 1 + 1, 1, none⟩ = some (.bool false) := hI3.res.c 1 rfl
  have r2 : w3.cell? ⟨w.heap.size + 1 + 1, 2, none⟩ = some (.int .u64 0) := hI3.res.c 2 rfl
  have r3 : w3.cell? ⟨w.heap.size + 1 + 1, 3, none⟩ = some (.int .i64 0) := hI3.res.c 3 rfl
  have of1 : w3.frozen? ⟨w.heap.size + 1 + 1 + 1, 1, none⟩ = false := hI3.out.f 1
  have of2 : w3.frozen? ⟨w.heap.size + 1 + 1 + 1, 2, none⟩ = false := hI3.out.f 2
  have of3 : w3.frozen? ⟨w.heap.size + 1 + 1 + 1, 3, none⟩ = false := hI3.out.f 3
  have rf0 : w3.frozen? ⟨w.heap.size + 1 + 1, 0, none⟩ = false := hI3.res.f 0
  have rf1 : w3.frozen? ⟨w.heap.size + 1 + 1, 1, none⟩ = false := hI3.res.f 1
  have rf2 : w3.frozen? ⟨w.heap.size + 1 + 1, 2, none⟩ = false := hI3.res.f 2
  have rf3 : w3.frozen? ⟨w.heap.size + 1 + 1, 3, none⟩ = false := hI3.res.f 3
  clear he hH3 a8 hI3 hb1 hb2 hb3 h1 h2 p0 p1 p2 p3
  cases he0 : (er == 0)
  · have hQ := ((((h3.set 2 (.int .u64 v)).set 3 (.int .i64 er)).set 1 (.bool false)).set 2 (.int .u64 0)).fin (.int .i64 0) (.bool false) (.int .u64 0) (.int .i64 er)
    have HQ := Lib.hid hQ
    have HE0 := Lib.hid he0
    clear hQ h3
    go_wp2_with fail
    obtain ⟨q1, q2⟩ := HQ.out
    revert q1 q2
    clear HQ o0 o1 o2 o3 r0 r1 r2 r3 of1 of2 of3 rf0 rf1 rf2 rf3
    generalize (World.setCell _ ⟨w.heap.size + 1 + 1, 3, none⟩ (.int .i64 er)) = Y
    intro q1 q2
    have k0 : Y.cell? ⟨w.heap.size + 1 + 1, 0, none⟩ = some (.int .i64 0) := q1.c 0 rfl
    have k1 : Y.cell? ⟨w.heap.size + 1 + 1, 1, none⟩ = some (.bool false) := q1.c 1 rfl
    have k2 : Y.cell? ⟨w.heap.size + 1 + 1, 2, none⟩ = some (.int .u64 0) := q1.c 2 rfl
    have k3 : Y.cell? ⟨w.heap.size + 1 + 1, 3, none⟩ = some (.int .i64 er) := q1.c 3 rfl
    refine bodyPost_ret (v := .agg (ansL 0 false 0 er).toArray) (by simp [results, Tryz.results18, go_sem, k0, k1, k2, k3]) rfl ⟨?_, q2⟩
    rw [← HE.out, HE0.out, if_neg (fun e => by have := HE0.out; rw [e] at this; cases this)]
  · have hQ := (((h3.set 2 (.int .u64 v)).set 3 (.int .i64 er)).set 1 (.bool true)).fin (.int .i64 0) (.bool true) (.int .u64 v) (.int .i64 er)
    have HQ := Lib.hid hQ
    have HE0 := Lib.hid he0
    clear hQ h3
    go_wp2_with fail
    obtain ⟨q1, q2⟩ := HQ.out
    revert q1 q2
    clear HQ o0 o1 o2 o3 r0 r1 r2 r3 of1 of2 of3 rf0 rf1 rf2 rf3
    generalize (World.setCell _ ⟨w.heap.size + 1 + 1, 3, none⟩ (.int .i64 er)) = Y
    intro q1 q2
    have k0 : Y.cell? ⟨w.heap.size + 1 + 1, 0, none⟩ = some (.int .i64 0) := q1.c 0 rfl
    have k1 : Y.cell? ⟨w.heap.size + 1 + 1, 1, none⟩ = some (.bool true) := q1.c 1 rfl
    have k2 : Y.cell? ⟨w.heap.size + 1 + 1, 2, none⟩ = some (.int .u64 v) := q1.c 2 rfl
    have k3 : Y.cell? ⟨w.heap.size + 1 + 1, 3, none⟩ = some (.int .i64 er) := q1.c 3 rfl
    refine bodyPost_ret (v := .agg (ansL 0 true v er).toArray) (by simp [results, Tryz.results18, go_sem, k0, k1, k2, k3]) rfl ⟨?_, q2⟩
    rw [← HE.out, HE0.out, if_pos (by simpa using HE0.out)]
end Go.Proofs.YtbefkiebdokbdaaGreat.V
end

section
/- query.Window at a count. -/
namespace Go.Proofs.YtbefkiebdokbdaaGreat.V
open Go.RowKit
set_option linter.unusedVariables false
set_option maxRecDepth 100000

theorem el_Sketch : ElemOf Tryz.prog 141 44 (Rep.sz Sketch) 80 := ElemOf.mk' (z := .agg #[.slice none 0 0, .slice none 0 0, .int .u64 0, .int .u64 0, .int .u64 0, .int .u64 0]) Tryz.underlying141 (by kernel_rfl) rfl
def inW (frm to : Int) (r : Row) : Bool := decide (frm ≤ r.at_) && decide (r.at_ < to)
/-- The sketches of a window. -/
def winS (frm to : Int) (l : List Row) : List Sketch := (l.filter (inW frm to)).map (·.s)
/-- The sum of sketches, as a sketch. -/
def sumS (l : List Sketch) : Sketch := ⟨hBk (sumH l) 7424, sumK l, sumG l⟩
/-- A sketch's buckets stand. -/
def HistOk (s : Sketch) : Prop := ∀ b ∈ s.hist, U64 b.n ∧ 0 ≤ b.at_ ∧ b.at_ < 7424
/-- What a window counts. -/
def cntS (l : List Sketch) : Int := hUp (hAdd h0 (hBk (sumH l) 7424)) 7424
def RWin (w : World) (frm v : Int) (e : Ending) (w' : World) : Prop :=
  e = .returned (.agg (ansL frm (satErr v == 0) (if satErr v = 0 then v else 0) (satErr v)).toArray) ∧ Below w.heap.size w w'

structure WI (w X : World) (ask : List Value) : Prop where
  ask : Blk X w.heap.size ask 31
  res : Blk X (w.heap.size + 1) (ansL 0 false 0 0) 47
  below : Below w.heap.size w X
theorem WI.step {w X X' : World} {ask : List Value} (h : WI w X ask) (hb : Below X.heap.size X X') : WI w X' ask := ⟨h.ask.below hb, h.res.below hb, h.below.trans (hb.mono h.below.size)⟩
theorem WI.frm {w X X' : World} {ask : List Value} (h : WI w X ask) (hf : Frm (fun k => w.heap.size + 2 ≤ k) X X') : WI w X' ask :=
  ⟨h.ask.frm hf (by omega), h.res.frm hf (by omega), hf.to_below h.below (fun k _ e => by omega)⟩
theorem WI.new (w : World) (ask : List Value) : WI w ((w.alloc (.cells ask.toArray 31)).alloc (.cells (ansL 0 false 0 0).toArray 47)) ask := by
  have hs : (w.alloc (.cells ask.toArray 31)).heap.size = w.heap.size + 1 := by simp
  have hr := Blk.new (w.alloc (.cells ask.toArray 31)) (ansL 0 false 0 0) 47
  rw [hs] at hr
  exact ⟨(Blk.new w ask _).below ((Below.refl _ _).alloc (Nat.le_refl _) _), hr, ((Below.refl _ _).alloc (Nat.le_refl _) _).alloc (by omega) _⟩

set_option maxHeartbeats 4000000 in
theorem C_Window_count (A : Option Addr) (cap : Nat) (xs : List Row) (start step n frm to : Int) (w : World) (hr : Sl (fun k => k < w.heap.size) w A xs) (hl : xs.length ≤ 1048576)
    (hc : ∀ r ∈ xs, pCheck r.s = true) (hg : ∀ r ∈ xs, r.s.gauge.wf) (hb : ∀ r ∈ xs, HistOk r.s) (hp : ∀ l : List Sketch, (∀ s ∈ l, HistOk s) → (∀ s ∈ l, s.gauge.wf) → (∀ s ∈ l, pCheck s = true) → pCheck (sumS l) = true ∧ (sumG l).wf) :
    Calls Tryz.prog 61 #[.agg (askL start step n).toArray, .slice A xs.length cap, .int .i64 frm, .int .i64 to] w (RWin w frm (cntS (winS frm to xs))) := by
  have hlen := hr.1
  have hP : pCheck (sumS (winS frm to xs)) = true ∧ (sumG (winS frm to xs)).wf := hp _ (fun s hs => by
    obtain ⟨r, hr, rfl⟩ := List.mem_map.1 hs
    exact hb r (List.mem_filter.1 hr).1) (fun s hs => by
    obtain ⟨r, hr, rfl⟩ := List.mem_map.1 hs
    exact hg r (List.mem_filter.1 hr).1) (fun s hs => by
    obtain ⟨r, hr, rfl⟩ := List.mem_map.1 hs
    exact hc r (List.mem_filter.1 hr).1)
  have hQ : ∀ s ∈ winS frm to xs, pCheck s = true := fun s hs => by
    obtain ⟨r, hr, rfl⟩ := List.mem_map.1 hs
    exact hc r (List.mem_filter.1 hr).1
  have HP := Lib.hid hP
  have HQ := Lib.hid hQ
  clear hP hQ hp hc hg hb
  go_enter Tryz.func61, Tryz.ntmps61
  go_wp2_with fail
  obtain ⟨W, hW⟩ : ∃ W, W = (w.alloc (.cells (askL start step n).toArray 31)).alloc (.cells (ansL 0 false 0 0).toArray 47) := ⟨_, rfl⟩
  have hI : WI w W (askL start step n) := hW ▸ WI.new w _
  have hWs : W.heap.size = w.heap.size + 2 := by rw [hW]; simp
  show Code.wp _ _ _ _ ((w.alloc (.cells (askL start step n).toArray 31)).alloc (.cells (ansL 0 false 0 0).toArray 47))
  rw [← hW]
  clear hW
  go_loopw [9, 11, 17] (fun v _ i wr => ∃ (k : Nat), k ≤ xs.length ∧ i = .int .i64 k ∧ Own wr (w.heap.size + 2) 44 v (winS frm to (xs.take k)) ∧ WI w wr (askL start step n)) (fun _ _ i _ => xs.length - (intOf i).toNat)
  case atStart => exact ⟨0, Nat.zero_le _, rfl, Own.nil _ _ _, hI⟩
  case round =>
    clear hI
    obtain ⟨k, hk, rfl, hown, hI⟩ := hrel
    by_cases hlt : k < xs.length
    · obtain ⟨b, off, A0, c0, A1, c1, A2, c2, rfl, hob, hlb, y0, y1, y2, y3, y4, y5, y6, y7, s0, hi, s1, s2, hgw, m0, m1, m2⟩ := (hr.below hI.below).row hlt
      have htk : xs.take (k + 1) = xs.take k ++ [xs[k]] := List.take_succ_eq_append_getElem hlt
      have hle : (winS frm to (xs.take k)).length ≤ k := by
        unfold winS; rw [List.length_map]
        have := List.length_filter_le (inW frm to) (xs.take k); simp at this; omega
      have hfl : winS frm to (xs.take (k + 1)) = winS frm to (xs.take k) ++ (if inW frm to xs[k] = true then [xs[k].s] else []) := by
        unfold winS
        rw [htk, List.filter_append, List.map_append]; simp only [List.filter_cons, List.filter_nil]
        split <;> rfl
      have HT := Lib.hid hfl
      clear htk hfl
      generalize winS frm to (xs.take k) = pre at *
      generalize xs[k] = r at *
      obtain ⟨W2, hW2⟩ : ∃ W2, W2 = wr.alloc (.cells (rowL A0 c0 A1 c1 A2 c2 r).toArray 67) := ⟨_, rfl⟩
      have hbW : Below wr.heap.size wr W2 := hW2 ▸ (Below.refl _ _).alloc (Nat.le_refl _) _
      have hI2 := hI.step hbW
      have hown2 := hown.below hbW
      have hBW : Blk W2 wr.heap.size (rowL A0 c0 A1 c1 A2 c2 r) 67 := hW2 ▸ Blk.new _ _ _
      by_cases ha : frm ≤ r.at_
      · by_cases hb : r.at_ < to
        · have e : inW frm to r = true := by unfold inW; simp [ha, hb]
          have HE := Lib.hid e
          clear e
          have hub : ∀ j, u9.ownBlock = some j → w.heap.size + 2 ≤ j ∧ j < wr.heap.size := fun j hj => by obtain ⟨cs, _, ho'⟩ := hown; exact ho'.lt j hj
          have hws := hI.below.size
          have hwz := hbW.size
          have hrw := hI.res.lt
          have hrow1 : Rep.rep (fun k => k < W2.heap.size ∧ some k ≠ u9.ownBlock) W2 (sketchL A1 c1 A2 c2 r.s) r.s := by
            have hf : ∀ k, k < W2.heap.size → k < w.heap.size → (k < W2.heap.size ∧ some k ≠ u9.ownBlock) := fun k h1 h2 => ⟨h1, fun e => by have := (hub k e.symm).1; omega⟩
            exact ⟨A1, c1, A2, c2, rfl, (s1.below hbW).mono hf, (s2.below hbW).mono hf, hgw, m1, m2⟩
          have hA1 : pre.length + 1 ≤ 9223372036854775807 := by omega
          have hA2 : (pre.length + 1) * 80 ≤ 140737488355328 := by omega
          have hA3 : w.heap.size + 2 ≤ W2.heap.size := by omega
          clear s0 s1 s2 hbW hBW hown hI
          have hWz : W2.heap.size = wr.heap.size + 1 := by rw [hW2]; simp
          go_wp2_with (at_builtin; rw [← hW2]; refine wpOwn_append1 (sketchL A1 c1 A2 c2 r.s) r.s rfl _ _ 141 44 44 80 (w.heap.size + 2) rfl rfl el_Sketch rfl hown2 (by rw [hWz]; rfl) hrow1 hA1 hA2 hA3 ?_)
          intro v' w3 ho2 hg2 hat2
          rw [← hW2] at hg2
          go_wp2
          go_roundw
          case rel => exact ⟨k + 1, by omega, by go_num, by rw [HT.out, HE.out]; simpa using ho2, hI2.frm ((Frm.of_grown' hg2).mono (fun k _ e => (hub _ e).1))⟩
          case measure => simp [intOf]; omega
        · have e : inW frm to r = false := by unfold inW; simp [hb]
          have HE := Lib.hid e
          clear e
          go_wp2
          rw [← hW2]
          go_roundw
          case rel => exact ⟨k + 1, by omega, by go_num, by rw [HT.out, HE.out]; simpa using hown2, hI2⟩
          case measure => simp [intOf]; omega
      · have e : inW frm to r = false := by unfold inW; simp [ha]
        have HE := Lib.hid e
        clear e
        go_wp2
        rw [← hW2]
        go_roundw
        case rel => exact ⟨k + 1, by omega, by go_num, by rw [HT.out, HE.out]; simpa using hown2, hI2⟩
        case measure => simp [intOf]; omega
    · have hkk : k = xs.length := by omega
      rw [hkk, List.take_length] at hown
      have hrw := hI.res.lt
      obtain ⟨B, c, rfl, hsl⟩ := hown.sl (by omega)
      have hq := HQ.out
      have hsumn : cntS (winS frm to xs) = hUp (hAdd h0 (sumS (winS frm to xs)).hist) 7424 := rfl
      have HCN := Lib.hid hsumn
      clear hsumn
      have hp2 := HP.out
      generalize winS frm to xs = l at *
      have HP2 := Lib.hid hp2
      have HQ2 := Lib.hid hq
      clear hp2 hq hown
      go_wp2_with fail
      refine (C_pair_Sum B c l wr hsl HQ2.out).mono ?_
      rintro e w1 ⟨A1, c1, A2, c2, v1, v2, rfl, rfl, rfl, z1, z2, m1, m2, hb1⟩
      have hI1 := hI.step hb1
      clear hI hsl
      have a0 := hI1.ask.c 0 rfl
      have a1 := hI1.ask.c 1 rfl
      have a2 := hI1.ask.c 2 rfl
      have a3 := hI1.ask.c 3 rfl
      have a4 := hI1.ask.c 4 rfl
      have a5 := hI1.ask.c 5 rfl
      have a6 := hI1.ask.c 6 rfl
      have a7 := hI1.ask.c 7 rfl
      have a8 := hI1.ask.c 8 rfl
      have a9 := hI1.ask.c 9 rfl
      have a10 := hI1.ask.c 10 rfl
      have hz1 := hb1.size
      have nea : w.heap.size ≠ w1.heap.size := by omega
      have neb : w1.heap.size ≠ w.heap.size := by omega
      have nec : w.heap.size < w1.heap.size := by omega
      go_wp2_with fail
      obtain ⟨Z, hZ⟩ : ∃ Z, Z = w1.alloc (.cells (sketchL A1 c1 A2 c2 (sumS l)).toArray 44) := ⟨_, rfl⟩
      have hbZ : Below w1.heap.size w1 Z := hZ ▸ (Below.refl _ _).alloc (Nat.le_refl _) _
      have hI2 := hI1.step hbZ
      show Calls _ _ _ (w1.alloc (.cells (sketchL A1 c1 A2 c2 (sumS l)).toArray 44)) _
      rw [← hZ]
      refine (C_One_count A1 c1 A2 c2 (sumS l) start step n Z (Sl.up z1 hbZ) (Sl.up z2 hbZ) HP2.out.2 HP2.out.1).mono ?_
      rintro e w2 ⟨rfl, hb2⟩
      rw [← HCN.out]
      have hI3 := hI2.step hb2
      have hzz := hbZ.size
      have hz2 := hb2.size
      generalize cntS l = v at *
      clear hI1 hI2 hZ hbZ z1 z2 a0 a1 a2 a3 a4 a5 a6 a7 a8 a9 a10
      obtain ⟨hs, hhs⟩ : ∃ x, x = (satErr v == 0) := ⟨_, rfl⟩
      obtain ⟨vv, hvv⟩ : ∃ x, x = (if satErr v = 0 then v else 0) := ⟨_, rfl⟩
      obtain ⟨er, her⟩ : ∃ x, x = satErr v := ⟨_, rfl⟩
      have fin : ∀ X, Below w.heap.size w X → RWin w frm v (.returned (.agg (ansL frm hs vv er).toArray)) X := fun X hb => ⟨by rw [hhs, hvv, her], hb⟩
      have FIN := Lib.hid fin
      rw [← hhs, ← hvv, ← her]
      clear fin hhs hvv her
      have r0 := hI3.res.c 0 rfl
      have r1 := hI3.res.c 1 rfl
      have r2 := hI3.res.c 2 rfl
      have r3 := hI3.res.c 3 rfl
      have f0 := hI3.res.f 0
      have f1 := hI3.res.f 1
      have f2 := hI3.res.f 2
      have f3 := hI3.res.f 3
      have ne1 : w.heap.size + 1 ≠ w2.heap.size := by omega
      have ne2 : w2.heap.size ≠ w.heap.size + 1 := by omega
      have ne3 : w.heap.size + 1 < w2.heap.size := by omega
      go_wp2_with fail
      have q1 := (((hI3.res.set 0 (.int .i64 frm)).set 1 (.bool hs)).set 2 (.int .u64 vv)).set 3 (.int .i64 er)
      have q2 := ((((Frm.refl (fun k => k = w.heap.size + 1) w2).one rfl 0 (.int .i64 frm)).one rfl 1 (.bool hs)).one rfl 2 (.int .u64 vv)).one rfl 3 (.int .i64 er)
      have q3 := q2.to_below hI3.below (fun k _ e => by omega)
      revert q1 q3
      clear q2 r0 r1 r2 r3 f0 f1 f2 f3
      generalize (World.setCell _ ⟨w.heap.size + 1, 3, none⟩ (.int .i64 er)) = Y
      intro q1 q3
      have q4 := q1.below ((Below.refl _ _).alloc (Nat.le_refl _) (.cells #[.int .i64 frm, .bool hs, .int .u64 vv, .int .i64 er] 47))
      have q5 := q3.alloc q3.size (.cells #[.int .i64 frm, .bool hs, .int .u64 vv, .int .i64 er] 47)
      clear q1 q3
      generalize Y.alloc (.cells #[.int .i64 frm, .bool hs, .int .u64 vv, .int .i64 er] 47) = X at *
      have k0 := q4.c 0 rfl
      have k1 := q4.c 1 rfl
      have k2 := q4.c 2 rfl
      have k3 := q4.c 3 rfl
      exact bodyPost_ret (v := .agg (ansL frm hs vv er).toArray) (by simp [results, Tryz.results61, go_sem, k0, k1, k2, k3]) rfl (FIN.out _ q5)
end Go.Proofs.YtbefkiebdokbdaaGreat.V
end

section
/- varvelaw23.told$1: the first answer laid. -/
namespace Go.Proofs.YtbefkiebdokbdaaGreat.V
open Go.RowKit
set_option linter.unusedVariables false
set_option maxRecDepth 100000

theorem el_Answer : ElemOf Tryz.prog 58 47 (Rep.sz Answer) 32 := ElemOf.mk' (z := .agg #[.int .i64 0, .bool false, .int .u64 0, .int .i64 0]) Tryz.underlying58 (by kernel_rfl) rfl

set_option maxHeartbeats 2000000 in
/-- The closure that told hands on, at the first answer: the list lies in block bl, its bound in block bm. -/
theorem C_told1 (bl bm : Nat) (a : Answer) (m : Int) (tl : Nat) (w : World) (ha : a.wf) (hl : Blk w bl [.slice none 0 0] tl) (hm : w.cell? ⟨bm, 0, none⟩ = some (.int .i64 m)) (hne : bl ≠ bm) (h1 : 1 < m) :
    Calls Tryz.prog 62 #[.agg (encAnswer a).toArray, .pointer (some ⟨bl, 0, none⟩), .pointer (some ⟨bm, 0, none⟩)] w fun e w' => e = .returned (.bool true) ∧
      ∃ B c, Blk w' bl [.slice B 1 c] tl ∧ Sl (fun k => w.heap.size ≤ k) w' B [a] ∧ Frm (fun k => k = bl) w w' := by
  have hbl := hl.lt
  have hbm : bm < w.heap.size := by
    by_cases h : bm < w.heap.size
    · exact h
    · have : w.heap[bm]? = none := by rw [Array.getElem?_eq_none_iff]; omega
      simp [World.cell?, this] at hm
  have x0 := hl.c 0 rfl
  have xf := hl.f 0
  have n1 : bl ≠ w.heap.size := by omega
  have n2 : bm ≠ w.heap.size := by omega
  have n3 : w.heap.size ≠ bl := by omega
  have n4 : w.heap.size ≠ bm := by omega
  unfold encAnswer
  go_enter Tryz.func62, Tryz.ntmps62
  go_wp2_with (at_builtin; (refine wpOwn_append1 (encAnswer a) a rfl _ _ 58 47 47 32 (w.heap.size + 1) rfl rfl el_Answer (xs := []) rfl (Own.nil _ _ _) (by rw [World.size_alloc]; rfl) ⟨rfl, ha⟩ (by simp) (by simp) (by simp) ?_))
  intro v' w1 ho1 hg1 hat
  obtain ⟨B, c, rfl, hsl⟩ := ho1.sl (by have := hg1.size; simp at this; omega)
  obtain ⟨W, hW⟩ : ∃ W, W = w.alloc (.cells (encAnswer a).toArray 47) := ⟨_, rfl⟩
  have hbW : Below w.heap.size w W := hW ▸ (Below.refl _ _).alloc (Nat.le_refl _) _
  have hg1' : W.grownBy w1 (Value.ownBlock (.slice none 0 0)) := by rw [hW]; exact hg1
  have hf1 : Frm (fun _ => False) w w1 := (Frm.of_below hbW).trans ⟨hg1'.os, hg1'.tape, hg1'.output, hg1'.size, fun k hk _ => hg1'.block k hk (fun e => by cases e)⟩
  have hl1 := hl.frm hf1 (fun h => h)
  have y0 := hl1.c 0 rfl
  have yf := hl1.f 0
  have hm1 : w1.cell? ⟨bm, 0, none⟩ = some (.int .i64 m) := fcell hf1 (fun h => h) hm
  clear x0 xf hm hg1 hg1' hbW hW
  have hfl := ho1.flat (w' := w1.setCell ⟨bl, 0, none⟩ (.slice B 1 c)) (fun _ _ _ _ _ _ h => h) (((Frm.refl (fun k => k = bl) w1).one rfl 0 (.slice B 1 c)).mono (fun k _ e => by omega))
  have hset := hl1.set 0 (.slice B 1 c)
  have hfin := (hf1.mono (S' := fun k => k = bl) (fun _ _ h => h.elim)).one rfl 0 (.slice B 1 c)
  clear hf1 hl1
  go_wp2
  go_ret
  exact ⟨rfl, B, c, hset, hfl.mono (fun k _ h => by omega), hfin⟩

theorem C_Windows (start step n : Int) (w : World) :
    Calls Tryz.prog 60 #[.int .i64 start, .int .i64 step, .int .i64 n] w fun e w' => e = .returned (.func (.func 95) #[] #[.pointer (some ⟨w.heap.size + 1, 0, none⟩), .pointer (some ⟨w.heap.size + 2, 0, none⟩), .pointer (some ⟨w.heap.size, 0, none⟩)]) ∧
      Blk w' w.heap.size [.int .i64 start] 3 ∧ Blk w' (w.heap.size + 1) [.int .i64 step] 3 ∧ Blk w' (w.heap.size + 2) [.int .i64 n] 3 ∧ Below w.heap.size w w' ∧ w'.heap.size = w.heap.size + 3 := by
  go_enter Tryz.func60, Tryz.ntmps60
  go_wp2
  go_ret
  have ba : ∀ (X : World) (o : Obj), Below X.heap.size X (X.alloc o) := fun X o => (Below.refl _ _).alloc (Nat.le_refl _) o
  have s1 : (w.alloc (.cells #[.int .i64 start] 3)).heap.size = w.heap.size + 1 := by simp
  have s2 : ((w.alloc (.cells #[.int .i64 start] 3)).alloc (.cells #[.int .i64 step] 3)).heap.size = w.heap.size + 2 := by simp
  have n0 := Blk.new w [.int .i64 start] 3
  have n1 := Blk.new (w.alloc (.cells #[.int .i64 start] 3)) [.int .i64 step] 3
  have n2 := Blk.new ((w.alloc (.cells #[.int .i64 start] 3)).alloc (.cells #[.int .i64 step] 3)) [.int .i64 n] 3
  rw [s1] at n1
  rw [s2] at n2
  exact ⟨rfl, (n0.below (ba _ _)).below (ba _ _), n1.below (ba _ _), n2, (((Below.refl _ _).alloc (Nat.le_refl _) _).alloc (by omega) _).alloc (by omega) _, by simp⟩
end Go.Proofs.YtbefkiebdokbdaaGreat.V
end
