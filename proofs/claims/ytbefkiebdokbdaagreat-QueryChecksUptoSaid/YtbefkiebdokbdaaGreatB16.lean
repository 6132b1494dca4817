/- Part 16 of the proof: Pair, Pair2, RowA, RowB, RowC, Copy, Copy2, Copy3, Copy4, Cal, Cal2. -/
import Derived.Deep.QuietTactic
import Derived.BigQuiet
import Derived.Test.YtbefkiebdokbdaaGreatB2
import Derived.Test.YtbefkiebdokbdaaGreatB4
import Derived.Test.YtbefkiebdokbdaaGreatB13
import Derived.Test.YtbefkiebdokbdaaGreatB15

section
/- Contracts of package pair: Check. -/
namespace Go.Proofs.YtbefkiebdokbdaaGreat.V
open Go.RowKit
set_option linter.unusedVariables false
set_option maxRecDepth 100000

theorem bcell {w w' : World} {b off : Nat} {v : Value} (h : Below w.heap.size w w') (hc : w.cell? ⟨b, off, none⟩ = some v) : w'.cell? ⟨b, off, none⟩ = some v := by
  have hl : b < w.heap.size := by
    by_cases hl : b < w.heap.size
    · exact hl
    · have : w.heap[b]? = none := by rw [Array.getElem?_eq_none_iff]; omega
      simp [World.cell?, this] at hc
  exact (World.cell?_of_block (h.block b hl)).trans hc

/-- A sketch as a value. -/
@[reducible] def sketchV (A1 : Option Addr) (c1 : Nat) (A2 : Option Addr) (c2 : Nat) (s : Sketch) : Value :=
  .agg #[.slice A1 s.hist.length c1, .slice A2 s.hashes.length c2, .int .u64 s.gauge.n, .int .u64 s.gauge.nans, .int .u64 s.gauge.lo, .int .u64 s.gauge.hi]
def pCheck (s : Sketch) : Bool := chk (-1) s.hist && kchk s.hashes && gCheck s.gauge

theorem C_pair_Check (ok : Nat → Prop) (A1 : Option Addr) (c1 : Nat) (A2 : Option Addr) (c2 : Nat) (s : Sketch) (w : World) (h1 : Sl ok w A1 s.hist) (h2 : Sl ok w A2 s.hashes) (hg : s.gauge.wf) :
    Calls Tryz.prog 117 #[sketchV A1 c1 A2 c2 s] w fun e w' => e = .returned (.bool (pCheck s)) ∧ Below w.heap.size w w' := by
  have hp : pCheck s = (chk (-1) s.hist && kchk s.hashes && gCheck s.gauge) := rfl
  generalize pCheck s = r at *
  have HP := Lib.hid hp
  clear hp
  have hc1 := fun w h => C_hist_Check ok A1 c1 s.hist w h
  have hc2 := fun w h => C_kmv_Check ok A2 c2 s.hashes w h
  have hc3 := fun w => C_gauge_Check s.gauge w hg
  go_enter Tryz.func117, Tryz.ntmps117
  go_wp2_with fail
  obtain ⟨W, hW⟩ : ∃ W, W = w.alloc (.cells #[.slice A1 s.hist.length c1, .slice A2 s.hashes.length c2, .int .u64 s.gauge.n, .int .u64 s.gauge.nans, .int .u64 s.gauge.lo, .int .u64 s.gauge.hi] 44) := ⟨_, rfl⟩
  rw [← hW]
  have hbW : Below w.heap.size w W := hW ▸ (Below.refl _ _).alloc (Nat.le_refl _) _
  have x1 : W.cell? ⟨w.heap.size, 1, none⟩ = some (.slice A2 s.hashes.length c2) := by rw [hW]; simp
  have x2 : W.cell? ⟨w.heap.size, 2, none⟩ = some (.int .u64 s.gauge.n) := by rw [hW]; simp
  have x3 : W.cell? ⟨w.heap.size, 3, none⟩ = some (.int .u64 s.gauge.nans) := by rw [hW]; simp
  have x4 : W.cell? ⟨w.heap.size, 4, none⟩ = some (.int .u64 s.gauge.lo) := by rw [hW]; simp
  have x5 : W.cell? ⟨w.heap.size, 5, none⟩ = some (.int .u64 s.gauge.hi) := by rw [hW]; simp
  clear hW
  refine (hc1 _ (h1.below hbW)).mono ?_
  rintro e w1 ⟨rfl, hb1⟩
  have hbw1 := hbW.trans (hb1.mono hbW.size)
  replace x1 := bcell hb1 x1
  replace x2 := bcell hb1 x2
  replace x3 := bcell hb1 x3
  replace x4 := bcell hb1 x4
  replace x5 := bcell hb1 x5
  cases hc : chk (-1) s.hist
  · go_wp2
    go_ret
    exact ⟨ret_b (by rw [HP.out, hc]; rfl), hbw1⟩
  · go_wp2_with fail
    refine (hc2 _ (h2.below hbw1)).mono ?_
    rintro e w2 ⟨rfl, hb2⟩
    have hbw2 := hbw1.trans (hb2.mono hbw1.size)
    replace x2 := bcell hb2 x2
    replace x3 := bcell hb2 x3
    replace x4 := bcell hb2 x4
    replace x5 := bcell hb2 x5
    cases hk : kchk s.hashes
    · go_wp2
      go_ret
      exact ⟨ret_b (by rw [HP.out, hc, hk]; rfl), hbw2⟩
    · go_wp2_with fail
      refine (hc3 _).mono ?_
      rintro e w3 ⟨rfl, hb3⟩
      have hbw3 := hbw2.trans (hb3.mono hbw2.size)
      go_wp2
      go_ret
      exact ⟨ret_b (by rw [HP.out, hc, hk]; rfl), hbw3⟩
end Go.Proofs.YtbefkiebdokbdaaGreat.V
end

section
/- Contracts of package pair: Sum of sketches that all may be. -/
namespace Go.Proofs.YtbefkiebdokbdaaGreat.V
open Go.RowKit
set_option linter.unusedVariables false
set_option maxRecDepth 100000

def GBlk (w : World) (b : Nat) (g : Gauge) : Prop := w.heap[b]? = some (.cells #[.int .u64 g.n, .int .u64 g.nans, .int .u64 g.lo, .int .u64 g.hi] 42 (0, 0))
section
variable {w w' : World} {b : Nat} {g : Gauge}
theorem GBlk.lt (h : GBlk w b g) : b < w.heap.size := (Array.getElem?_eq_some_iff.1 h).1
theorem GBlk.c0 (h : GBlk w b g) : w.cell? ⟨b, 0, none⟩ = some (.int .u64 g.n) := by unfold GBlk at h; simp [World.cell?, h]
theorem GBlk.c1 (h : GBlk w b g) : w.cell? ⟨b, 1, none⟩ = some (.int .u64 g.nans) := by unfold GBlk at h; simp [World.cell?, h]
theorem GBlk.c2 (h : GBlk w b g) : w.cell? ⟨b, 2, none⟩ = some (.int .u64 g.lo) := by unfold GBlk at h; simp [World.cell?, h]
theorem GBlk.c3 (h : GBlk w b g) : w.cell? ⟨b, 3, none⟩ = some (.int .u64 g.hi) := by unfold GBlk at h; simp [World.cell?, h]
theorem GBlk.f (h : GBlk w b g) (o : Nat) : w.frozen? ⟨b, o, none⟩ = false := by unfold GBlk at h; simp [World.frozen?, h]
theorem GBlk.frm {S : Nat → Prop} (h : GBlk w b g) (hf : Frm S w w') (hn : ¬ S b) : GBlk w' b g := by unfold GBlk; rw [hf.block b h.lt hn]; exact h
theorem GBlk.below (h : GBlk w b g) (hb : Below w.heap.size w w') : GBlk w' b g := by unfold GBlk; rw [hb.block b h.lt]; exact h
end
/-- The sums so far. -/
def sumH (l : List Sketch) : List Int := l.foldl (fun h s => hAdd h s.hist) h0
def sumK (l : List Sketch) : List Int := l.foldl (fun k s => kAll k s.hashes) []
def sumG (l : List Sketch) : Gauge := l.foldl (fun g s => gMerge g s.gauge) ⟨0, 0, 0, 0⟩
theorem sumH_take {l : List Sketch} {k : Nat} (hk : k < l.length) : sumH (l.take (k + 1)) = hAdd (sumH (l.take k)) l[k].hist := by
  unfold sumH; rw [List.take_succ_eq_append_getElem hk, List.foldl_append]; rfl
theorem sumK_take {l : List Sketch} {k : Nat} (hk : k < l.length) : sumK (l.take (k + 1)) = kAll (sumK (l.take k)) l[k].hashes := by
  unfold sumK; rw [List.take_succ_eq_append_getElem hk, List.foldl_append]; rfl
theorem sumG_take {l : List Sketch} {k : Nat} (hk : k < l.length) : sumG (l.take (k + 1)) = gMerge (sumG (l.take k)) l[k].gauge := by
  unfold sumG; rw [List.take_succ_eq_append_getElem hk, List.foldl_append]; rfl
theorem sumG_wf {l : List Sketch} (h : ∀ s ∈ l, s.gauge.wf) : (sumG l).wf := by
  unfold sumG
  have : ∀ (l : List Sketch) (g : Gauge), g.wf → (∀ s ∈ l, s.gauge.wf) → (l.foldl (fun g s => gMerge g s.gauge) g).wf := by
    intro l
    induction l with
    | nil => intro g hg _; exact hg
    | cons x l ih => intro g hg h; exact ih _ (gMerge_wf hg (h x (by simp))) (fun s hs => h s (by simp [hs]))
  exact this l _ (by simp [Gauge.wf, U64]) h

/-- What Sum has in hand. -/
structure Acc (w0 w : World) (gh gk m gg r : Nat) (h ks : List Int) (g : Gauge) : Prop where
  hist : HistAt w gh h
  kmv : KmvAt w gk m ks
  gauge : GBlk w gg g
  res : w.heap[r]? = some (.cells #[.slice none 0 0, .slice none 0 0, .int .u64 0, .int .u64 0, .int .u64 0, .int .u64 0] 44 (0, 0))
  below : Below w0.heap.size w0 w
  new : w0.heap.size ≤ gh ∧ w0.heap.size ≤ gk ∧ w0.heap.size ≤ m ∧ w0.heap.size ≤ gg ∧ w0.heap.size ≤ r
  ne : gh ≠ gk ∧ gh ≠ m ∧ gg ≠ gh ∧ gg ≠ gk ∧ gg ≠ m ∧ r ≠ gh ∧ r ≠ gk ∧ r ≠ m ∧ r ≠ gg
theorem Acc.frm0 {w0 w w' : World} {gh gk m gg r : Nat} {h ks : List Int} {g : Gauge} (H : Acc w0 w gh gk m gg r h ks g) (hb : Below w.heap.size w w') : Acc w0 w' gh gk m gg r h ks g :=
  ⟨H.hist.below hb, H.kmv.below hb, H.gauge.below hb, by rw [hb.block r (Array.getElem?_eq_some_iff.1 H.res).1]; exact H.res, H.below.trans (hb.mono H.below.size), H.new, H.ne⟩
theorem Acc.hset {w0 w w' : World} {gh gk m gg r : Nat} {h h' ks : List Int} {g : Gauge} (H : Acc w0 w gh gk m gg r h ks g) (hg : w.grownBy w' (some gh)) (hh : HistAt w' gh h') : Acc w0 w' gh gk m gg r h' ks g := by
  obtain ⟨n1, n2, n3, n4, n5, n6, n7, n8, n9⟩ := H.ne
  have hf : Frm (fun k => k = gh) w w' := Frm.of_grown hg rfl
  exact ⟨hh, H.kmv.frm hf (fun e => n1 e.symm) (fun e => n2 e.symm), H.gauge.frm hf n3, by rw [hf.block r (Array.getElem?_eq_some_iff.1 H.res).1 n6]; exact H.res,
    hf.to_below H.below (fun k _ e => by subst e; exact H.new.1), H.new, H.ne⟩
theorem Acc.kset {w0 w w' : World} {gh gk m gg r : Nat} {h ks ks' : List Int} {g : Gauge} (H : Acc w0 w gh gk m gg r h ks g) (hf : Frm (fun k => k = gk ∨ k = m) w w') (hk : KmvAt w' gk m ks') : Acc w0 w' gh gk m gg r h ks' g := by
  obtain ⟨n1, n2, n3, n4, n5, n6, n7, n8, n9⟩ := H.ne
  exact ⟨H.hist.frm hf (by omega), hk, H.gauge.frm hf (by omega), by rw [hf.block r (Array.getElem?_eq_some_iff.1 H.res).1 (by omega)]; exact H.res,
    hf.to_below H.below (fun k _ e => by have := H.new; omega), H.new, H.ne⟩

theorem Acc.drew {w0 w : World} {gh gk m gg r : Nat} {h ks : List Int} {g : Gauge} (H : Acc w0 w gh gk m gg r h ks g) : Acc w0 w.drew gh gk m gg r h ks g := H.frm0 ⟨rfl, rfl, rfl, Nat.le_refl _, fun _ _ => rfl⟩
section
variable {w : World} {r : Nat}
def RBlk (w : World) (r : Nat) : Prop := w.heap[r]? = some (.cells #[.slice none 0 0, .slice none 0 0, .int .u64 0, .int .u64 0, .int .u64 0, .int .u64 0] 44 (0, 0))
theorem RBlk.c0 (h : RBlk w r) : w.cell? ⟨r, 0, none⟩ = some (.slice none 0 0) := by unfold RBlk at h; simp [World.cell?, h]
theorem RBlk.c1 (h : RBlk w r) : w.cell? ⟨r, 1, none⟩ = some (.slice none 0 0) := by unfold RBlk at h; simp [World.cell?, h]
theorem RBlk.c2 (h : RBlk w r) : w.cell? ⟨r, 2, none⟩ = some (.int .u64 0) := by unfold RBlk at h; simp [World.cell?, h]
theorem RBlk.c3 (h : RBlk w r) : w.cell? ⟨r, 3, none⟩ = some (.int .u64 0) := by unfold RBlk at h; simp [World.cell?, h]
theorem RBlk.c4 (h : RBlk w r) : w.cell? ⟨r, 4, none⟩ = some (.int .u64 0) := by unfold RBlk at h; simp [World.cell?, h]
theorem RBlk.c5 (h : RBlk w r) : w.cell? ⟨r, 5, none⟩ = some (.int .u64 0) := by unfold RBlk at h; simp [World.cell?, h]
theorem RBlk.f (h : RBlk w r) (o : Nat) : w.frozen? ⟨r, o, none⟩ = false := by unfold RBlk at h; simp [World.frozen?, h]
end
theorem Sl.sketch {ok : Nat → Prop} {w : World} {A : Option Addr} {xs : List Sketch} (h : Sl ok w A xs) {k : Nat} (hk : k < xs.length) :
    ∃ b off A1 c1 A2 c2, A = some ⟨b, off, none⟩ ∧ ok b ∧ b < w.heap.size ∧ w.cell? ⟨b, off + k * 6, none⟩ = some (.slice A1 xs[k].hist.length c1) ∧ w.cell? ⟨b, off + k * 6 + 1, none⟩ = some (.slice A2 xs[k].hashes.length c2)
      ∧ w.cell? ⟨b, off + k * 6 + 2, none⟩ = some (.int .u64 xs[k].gauge.n) ∧ w.cell? ⟨b, off + k * 6 + 3, none⟩ = some (.int .u64 xs[k].gauge.nans) ∧ w.cell? ⟨b, off + k * 6 + 4, none⟩ = some (.int .u64 xs[k].gauge.lo) ∧ w.cell? ⟨b, off + k * 6 + 5, none⟩ = some (.int .u64 xs[k].gauge.hi)
      ∧ Sl ok w A1 xs[k].hist ∧ Sl ok w A2 xs[k].hashes ∧ xs[k].gauge.wf := by
  obtain ⟨b, off, vs, rfl, hv, hc⟩ := h.at_ hk
  obtain ⟨A1, c1, A2, c2, rfl, h1, h2, h3, _⟩ := hv
  exact ⟨b, off, A1, c1, A2, c2, rfl, hc.1, hc.2.1, hc.c0, hc.c1, hc.cj 2 _ rfl, hc.cj 3 _ rfl, hc.cj 4 _ rfl, hc.cj 5 _ rfl, h1, h2, h3⟩

theorem GBlk.set4 {w : World} {b : Nat} {g : Gauge} (h : GBlk w b g) (g' : Gauge) : GBlk ((((w.setCell ⟨b, 0, none⟩ (.int .u64 g'.n)).setCell ⟨b, 1, none⟩ (.int .u64 g'.nans)).setCell ⟨b, 2, none⟩ (.int .u64 g'.lo)).setCell ⟨b, 3, none⟩ (.int .u64 g'.hi)) b g' := by
  unfold GBlk at *
  have hl := (Array.getElem?_eq_some_iff.1 h).1
  have h' := (Array.getElem?_eq_some_iff.1 h).2
  simp [World.setCell, Array.getElem?_modify, h]
theorem Acc.gset {w0 w : World} {gh gk m gg r : Nat} {h ks : List Int} {g : Gauge} (H : Acc w0 w gh gk m gg r h ks g) (g' : Gauge) :
    Acc w0 ((((w.setCell ⟨gg, 0, none⟩ (.int .u64 g'.n)).setCell ⟨gg, 1, none⟩ (.int .u64 g'.nans)).setCell ⟨gg, 2, none⟩ (.int .u64 g'.lo)).setCell ⟨gg, 3, none⟩ (.int .u64 g'.hi)) gh gk m gg r h ks g' := by
  obtain ⟨n1, n2, n3, n4, n5, n6, n7, n8, n9⟩ := H.ne
  have hg := H.gauge.set4 g'
  have hf : Frm (fun k => k = gg) w ((((w.setCell ⟨gg, 0, none⟩ (.int .u64 g'.n)).setCell ⟨gg, 1, none⟩ (.int .u64 g'.nans)).setCell ⟨gg, 2, none⟩ (.int .u64 g'.lo)).setCell ⟨gg, 3, none⟩ (.int .u64 g'.hi)) :=
by
    have a0 : Frm (fun k => k = gg) w w := Frm.refl _ w
    have a1 := a0.set (p := ⟨gg, 0, none⟩) (.inr rfl) (.int .u64 g'.n)
    have a2 := a1.set (p := ⟨gg, 1, none⟩) (.inr rfl) (.int .u64 g'.nans)
    have a3 := a2.set (p := ⟨gg, 2, none⟩) (.inr rfl) (.int .u64 g'.lo)
    exact a3.set (p := ⟨gg, 3, none⟩) (.inr rfl) (.int .u64 g'.hi)
  exact ⟨H.hist.frm hf (fun e => n3 e.symm), H.kmv.frm hf (fun e => n4 e.symm) (fun e => n5 e.symm), hg, by rw [hf.block r (Array.getElem?_eq_some_iff.1 H.res).1 n9]; exact H.res,
    hf.to_below H.below (fun k _ e => by subst e; exact H.new.2.2.2.1), H.new, H.ne⟩
theorem keeps_of {w a b : World} (h : Below w.heap.size w a) (h' : Below w.heap.size w b) (hs : a.heap.size ≤ b.heap.size) : Keeps (fun k => k < w.heap.size) a b :=
  ⟨hs, fun k hk _ => by rw [h'.block k hk, h.block k hk]⟩
theorem fcell {S : Nat → Prop} {w w' : World} {b off : Nat} {v : Value} (hf : Frm S w w') (hn : ¬ S b) (hc : w.cell? ⟨b, off, none⟩ = some v) : w'.cell? ⟨b, off, none⟩ = some v := by
  have hl : b < w.heap.size := by
    by_cases hl : b < w.heap.size
    · exact hl
    · have : w.heap[b]? = none := by rw [Array.getElem?_eq_none_iff]; omega
      simp [World.cell?, this] at hc
  exact (hf.cell (p := ⟨b, off, none⟩) hl hn).trans hc

theorem cset {w : World} {b o r p : Nat} {v x : Value} (h : w.cell? ⟨b, o, none⟩ = some v) (hne : r ≠ b) : (w.setCell ⟨r, p, none⟩ x).cell? ⟨b, o, none⟩ = some v :=
by
  have a0 : Frm (fun k => k = r) w w := Frm.refl _ w
  exact fcell (a0.set (p := ⟨r, p, none⟩) (.inr rfl) x) (fun e => hne e.symm) h
/-- A row of plain elements that was owned, read in a world in which older blocks may have been written. -/
theorem Own.flat {α : Type} [Rep α] {w w' : World} {base e n c : Nat} {A : Option Addr} {xs : List α} (hflat : ∀ (ok ok' : Nat → Prop) (w w' : World) (vs : List Value) (x : α), Rep.rep ok w vs x → Rep.rep ok' w' vs x)
    (h : Own w base e (.slice A n c) xs) (hf : Frm (fun k => k < base) w w') : Sl (fun k => base ≤ k ∧ k < w'.heap.size) w' A xs := by
  obtain ⟨cs, hr, ho⟩ := h
  have hr' : Reps (fun k => base ≤ k ∧ k < w'.heap.size) w' cs xs := by
    clear ho
    induction hr with
    | nil => exact .nil
    | cons h _ ih => exact .cons (hflat _ _ _ _ _ _ h) ih
  rcases ho.2 with ⟨hv, h0⟩ | ⟨g, cap, cur, hv, hg, hh, hn, hm, hs, ht⟩
  · exact ⟨by omega, cs, hr', fun hp => by omega⟩
  · have hl := (Array.getElem?_eq_some_iff.1 hh).1
    refine ⟨by unfold maxLen at hm; omega, cs, hr', fun hp => ⟨g, 0, by cases hv; rfl, ⟨hg, Nat.lt_of_lt_of_le hl hf.size⟩, Nat.lt_of_lt_of_le hl hf.size, fun j u hu => ?_⟩⟩
    have := ho.cells (g := g) (by cases hv; rfl) j u hu
    rw [show (⟨g, 0, none⟩ : Addr).add j = ⟨g, 0 + j, none⟩ by unfold Addr.add; split <;> simp_all] at this
    exact fcell hf (by omega) this
theorem cdrew {w : World} {b o : Nat} {v : Value} (h : w.cell? ⟨b, o, none⟩ = some v) : w.drew.cell? ⟨b, o, none⟩ = some v := h

set_option maxHeartbeats 4000000 in
theorem C_pair_Sum (A : Option Addr) (cap : Nat) (xs : List Sketch) (w : World) (hr : Sl (fun k => k < w.heap.size) w A xs) (hc : ∀ s ∈ xs, pCheck s = true) :
    Calls Tryz.prog 96 #[.slice A xs.length cap] w fun e w' => ∃ A1 c1 A2 c2 v1 v2, e = .returned (.tuple #[.agg #[v1, v2, .int .u64 (sumG xs).n, .int .u64 (sumG xs).nans, .int .u64 (sumG xs).lo, .int .u64 (sumG xs).hi], .int .i64 0])
      ∧ v1 = .slice A1 (hBk (sumH xs) 7424).length c1 ∧ v2 = .slice A2 (sumK xs).length c2 ∧ Sl (fun k => k < w'.heap.size) w' A1 (hBk (sumH xs) 7424) ∧ Sl (fun k => k < w'.heap.size) w' A2 (sumK xs) ∧ (A1 = none → c1 = 0) ∧ (A2 = none → c2 = 0) ∧ Below w.heap.size w w' := by
  have hlen := hr.1
  have HC := Lib.hid hc
  clear hc
  go_enter Tryz.func96, Tryz.ntmps96
  go_wp2_with fail
  refine (C_hist_New _).mono ?_
  rintro e w1 ⟨rfl, hH, hb1⟩
  go_wp2_with fail
  refine (C_kmv_New _).mono ?_
  rintro e w2 ⟨rfl, hK, hb2⟩
  go_wp2_with fail
  obtain ⟨W, hW⟩ : ∃ W, W = w2.alloc (.cells #[.int .u64 0, .int .u64 0, .int .u64 0, .int .u64 0] 42) := ⟨_, rfl⟩
  have hA : Acc w W (w.heap.size + 1) (w1.heap.size + 1) w1.heap.size w2.heap.size w.heap.size (sumH (xs.take 0)) (sumK (xs.take 0)) (sumG (xs.take 0)) := by
    have hb0 : Below w.heap.size w (w.alloc (.cells #[.slice none 0 0, .slice none 0 0, .int .u64 0, .int .u64 0, .int .u64 0, .int .u64 0] 44)) := (Below.refl _ _).alloc (Nat.le_refl _) _
    have hs0 : (w.alloc (.cells #[.slice none 0 0, .slice none 0 0, .int .u64 0, .int .u64 0, .int .u64 0, .int .u64 0] 44)).heap.size = w.heap.size + 1 := by simp
    have hs1 := hb1.size
    have hs2 := hb2.size
    have hlt := hH.lt
    have hkl := hK.lt
    rw [hs0] at hs1 hlt
    have hbW : Below w2.heap.size w2 W := hW ▸ (Below.refl _ _).alloc (Nat.le_refl _) _
    rw [hs0] at hH
    refine ⟨(hH.below hb2).below hbW, hK.below hbW, by rw [hW]; exact heap_alloc_new _ _, ?_, ((hb0.trans (hb1.mono hb0.size)).trans (hb2.mono (by omega))).trans (hbW.mono (by omega)), by omega, by omega⟩
    rw [hbW.block _ (by omega), hb2.block _ (by omega), hb1.block _ (by rw [hs0]; omega)]
    exact heap_alloc_new _ _
  rw [← hW]
  clear hW hH hK hb1 hb2
  generalize w.heap.size + 1 = gh at *
  generalize w1.heap.size + 1 = gk at *
  generalize w1.heap.size = m at *
  generalize w2.heap.size = gg at *
  go_loopw [8, 14] (fun _ i wr => ∃ (k : Nat), k ≤ xs.length ∧ i = .int .i64 k ∧ Acc w wr gh gk m gg w.heap.size (sumH (xs.take k)) (sumK (xs.take k)) (sumG (xs.take k))) (fun _ i _ => xs.length - (intOf i).toNat)
  case atStart => exact ⟨0, Nat.zero_le _, rfl, hA⟩
  case round =>
    clear hA
    obtain ⟨k, hk, rfl, hA⟩ := hrel
    by_cases hlt : k < xs.length
    · obtain ⟨b, off, A1, c1, A2, c2, rfl, hob, hlb, y0, y1, y2, y3, y4, y5, s1, s2, sg⟩ := (hr.below hA.below).sketch hlt
      have hpc := HC.out _ (List.getElem_mem hlt)
      unfold pCheck at hpc
      rw [Bool.and_eq_true, Bool.and_eq_true] at hpc
      obtain ⟨⟨p1, p2⟩, p3⟩ := hpc
      have p0 : pCheck xs[k] = true := HC.out _ (List.getElem_mem hlt)
      have e1 := sumH_take hlt
      have e2 := sumK_take hlt
      have e3 := sumG_take hlt
      have hgw : (sumG (xs.take k)).wf := sumG_wf (fun s hs => by
        obtain ⟨j, hj, e⟩ := List.mem_iff_getElem.1 (List.mem_of_mem_take hs)
        obtain ⟨_, _, _, _, _, _, _, _, _, _, _, _, _, _, _, _, _, g⟩ := hr.sketch hj
        exact e ▸ g)
      generalize sumH (xs.take k) = H0 at *
      generalize sumK (xs.take k) = K0 at *
      generalize sumG (xs.take k) = G0 at *
      obtain ⟨G1, hG1⟩ : ∃ G1, G1 = gMerge G0 xs[k].gauge := ⟨_, rfl⟩
      rw [← hG1] at e3
      have E4 := Lib.hid hG1
      clear hG1
      have E1 := Lib.hid e1
      have E2 := Lib.hid e2
      have E3 := Lib.hid e3
      clear e1 e2 e3
      generalize xs[k] = s at *
      go_wp2_with fail
      obtain ⟨W, hW⟩ : ∃ W, W = wr.alloc (.cells #[.slice A1 s.hist.length c1, .slice A2 s.hashes.length c2, .int .u64 s.gauge.n, .int .u64 s.gauge.nans, .int .u64 s.gauge.lo, .int .u64 s.gauge.hi] 44) := ⟨_, rfl⟩
      rw [← hW]
      have hbW : Below wr.heap.size wr W := hW ▸ (Below.refl _ _).alloc (Nat.le_refl _) _
      have x0 : W.cell? ⟨wr.heap.size, 0, none⟩ = some (.slice A1 s.hist.length c1) := by rw [hW]; simp
      have x1 : W.cell? ⟨wr.heap.size, 1, none⟩ = some (.slice A2 s.hashes.length c2) := by rw [hW]; simp
      have x2 : W.cell? ⟨wr.heap.size, 2, none⟩ = some (.int .u64 s.gauge.n) := by rw [hW]; simp
      have x3 : W.cell? ⟨wr.heap.size, 3, none⟩ = some (.int .u64 s.gauge.nans) := by rw [hW]; simp
      have x4 : W.cell? ⟨wr.heap.size, 4, none⟩ = some (.int .u64 s.gauge.lo) := by rw [hW]; simp
      have x5 : W.cell? ⟨wr.heap.size, 5, none⟩ = some (.int .u64 s.gauge.hi) := by rw [hW]; simp
      have hWs : W.heap.size = wr.heap.size + 1 := by rw [hW]; simp
      clear hW y0 y1 y2 y3 y4 y5
      refine (C_pair_Check _ A1 c1 A2 c2 s _ (s1.below hbW) (s2.below hbW) sg).mono ?_
      rintro e w1 ⟨rfl, hb1⟩
      rw [p0]
      have hA1 := (hA.frm0 hbW).frm0 hb1
      have hsz1 : wr.heap.size + 1 ≤ w1.heap.size := by have := hb1.size; have : W.heap.size = wr.heap.size + 1 := hWs; omega
      have z0 := bcell hb1 x0
      have z1 := bcell hb1 x1
      have z2 := bcell hb1 x2
      have z3 := bcell hb1 x3
      have z4 := bcell hb1 x4
      have z5 := bcell hb1 x5
      have hl1 := hA.hist.lt
      have hl2 := hA.kmv.lt
      have hl3 := hA.gauge.lt
      have hnw := hA.new
      have q1 := s1.keep (keeps_of hA.below hA1.below (by omega))
      have q2 := s2.keep (keeps_of hA.below hA1.below (by omega))
      clear x0 x1 x2 x3 x4 x5 hbW hb1
      go_wp2_with fail
      refine (C_hist_Merge _ gh H0 A1 c1 s.hist _ q1 (fun k hk e => by omega) hA1.hist p1).mono ?_
      rintro e w2 ⟨rfl, hh2, hg2⟩
      have hA2 := hA1.hset hg2 hh2
      have f2 : Frm (fun k => k = gh) w1 w2 := Frm.of_grown hg2 rfl
      replace z1 := fcell f2 (by omega) z1
      replace z2 := fcell f2 (by omega) z2
      replace z3 := fcell f2 (by omega) z3
      replace z4 := fcell f2 (by omega) z4
      replace z5 := fcell f2 (by omega) z5
      replace q2 := q2.keep (keeps_of hA1.below hA2.below hg2.size)
      clear hA1 hh2 hg2 q1
      go_wp2_with fail
      refine (C_kmv_Merge _ gk m K0 A2 c2 s.hashes _ q2 (fun k hk => by omega) hA2.kmv p2).mono ?_
      rintro e w3 ⟨rfl, hk3, hf3⟩
      have hA3 := hA2.kset hf3 hk3
      replace z2 := fcell hf3 (by omega) z2
      replace z3 := fcell hf3 (by omega) z3
      replace z4 := fcell hf3 (by omega) z4
      replace z5 := fcell hf3 (by omega) z5
      clear hA2 hk3 q2
      have g0 := hA3.gauge.c0
      have g1 := hA3.gauge.c1
      have g2 := hA3.gauge.c2
      have g3 := hA3.gauge.c3
      go_wp2_with fail
      refine (C_gauge_Merge G0 s.gauge _ hgw sg).mono ?_
      rintro e w4 ⟨rfl, hb4⟩
      rw [← E4.out]
      have hA4 := hA3.frm0 hb4
      clear hA3
      replace g0 := bcell hb4 g0
      replace g1 := bcell hb4 g1
      replace g2 := bcell hb4 g2
      replace g3 := bcell hb4 g3
      have gf := hA4.gauge.f
      have gf0 := gf 0
      have gf1 := gf 1
      have gf2 := gf 2
      have gf3 := gf 3
      go_wp2
      go_roundw
      case rel => exact ⟨k + 1, by omega, by go_num, by rw [E1.out, E2.out, E3.out]; exact hA4.gset G1⟩
      case measure => simp [intOf]; omega
    · have hkk : k = xs.length := by omega
      rw [hkk, List.take_length] at hA
      clear hlt
      go_wp2_with fail
      have g0 := hA.gauge.c0
      have g1 := hA.gauge.c1
      have g2 := hA.gauge.c2
      have g3 := hA.gauge.c3
      have r0 := RBlk.c0 hA.res
      obtain ⟨n1, n2, n3, n4, n5, n6, n7, n8, n9⟩ := hA.ne
      generalize hgH : sumH xs = H0 at *
      generalize hgK : sumK xs = K0 at *
      generalize hgG : sumG xs = G0 at *
      have GH := Lib.hid hgH
      have GK := Lib.hid hgK
      have GG := Lib.hid hgG
      clear hgH hgK hgG
      go_region_held3? (fun w' => w'.cell? ⟨gg, 0, none⟩ = some (.int .u64 G0.n) ∧ w'.cell? ⟨gg, 1, none⟩ = some (.int .u64 G0.nans) ∧ w'.cell? ⟨gg, 2, none⟩ = some (.int .u64 G0.lo) ∧ w'.cell? ⟨gg, 3, none⟩ = some (.int .u64 G0.hi)) ((first | (refine ⟨?_, ?_, ?_, ?_⟩ <;> with_reducible assumption) | (refine ⟨?_, ?_, ?_, ?_⟩ <;> ((repeat (with_reducible refine cset ?_ n9)); with_reducible assumption)) | (refine ⟨?_, ?_, ?_, ?_⟩ <;> (with_reducible refine cdrew ?_) <;> with_reducible assumption))) (first
        | (go_at_call 122; refine (C_hist_Buckets _ _ _ hA.drew.hist).mono ?_; rintro e wa ⟨v1, rfl, ho1, hba⟩; obtain ⟨B1, d1, rfl, hnil1⟩ := ho1.form; have hAa := hA.drew.frm0 hba; have ga0 := hAa.gauge.c0; have ga1 := hAa.gauge.c1; have ga2 := hAa.gauge.c2; have ga3 := hAa.gauge.c3)
        | (go_at_call 123; refine (C_kmv_Hashes _ _ _ _ hAa.kmv).mono ?_; rintro e wb ⟨v2, rfl, ho2, hbb⟩; obtain ⟨B2, d2, rfl, hnil2⟩ := ho2.form; have hAb := hAa.frm0 hbb; have gb0 := hAb.gauge.c0; have gb1 := hAb.gauge.c1; have gb2 := hAb.gauge.c2; have gb3 := hAb.gauge.c3; have rb0 := RBlk.c0 hAb.res; have rb1 := RBlk.c1 hAb.res; have rb2 := RBlk.c2 hAb.res; have rb3 := RBlk.c3 hAb.res; have rb4 := RBlk.c4 hAb.res; have rb5 := RBlk.c5 hAb.res; have rf0 := RBlk.f hAb.res 0; have rf1 := RBlk.f hAb.res 1; have rf2 := RBlk.f hAb.res 2; have rf3 := RBlk.f hAb.res 3; have rf4 := RBlk.f hAb.res 4; have rf5 := RBlk.f hAb.res 5))
      have hsz := hA.below.size
      have hrl : w.heap.size < wr.heap.size := (Array.getElem?_eq_some_iff.1 hA.res).1
      have hs1 := hba.size
      have hs2 := hbb.size
      have hds : wr.drew.heap.size = wr.heap.size := rfl
      have hRf : ((((((wb.setCell ⟨w.heap.size, 0, none⟩ (.slice B1 (hBk H0 7424).length d1)).setCell ⟨w.heap.size, 1, none⟩ (.slice B2 K0.length d2)).setCell ⟨w.heap.size, 2, none⟩ (.int .u64 G0.n)).setCell ⟨w.heap.size, 3, none⟩ (.int .u64 G0.nans)).setCell ⟨w.heap.size, 4, none⟩ (.int .u64 G0.lo)).setCell ⟨w.heap.size, 5, none⟩ (.int .u64 G0.hi)).heap[w.heap.size]? = some (.cells #[.slice B1 (hBk H0 7424).length d1, .slice B2 K0.length d2, .int .u64 G0.n, .int .u64 G0.nans, .int .u64 G0.lo, .int .u64 G0.hi] 44 (0, 0)) := by
        simp [World.setCell, Array.getElem?_modify, hAb.res]
      generalize hWf : ((((((wb.setCell ⟨w.heap.size, 0, none⟩ (.slice B1 (hBk H0 7424).length d1)).setCell ⟨w.heap.size, 1, none⟩ (.slice B2 K0.length d2)).setCell ⟨w.heap.size, 2, none⟩ (.int .u64 G0.n)).setCell ⟨w.heap.size, 3, none⟩ (.int .u64 G0.nans)).setCell ⟨w.heap.size, 4, none⟩ (.int .u64 G0.lo)).setCell ⟨w.heap.size, 5, none⟩ (.int .u64 G0.hi)) = Wf at hRf ⊢
      have hfw : Frm (fun k => k = w.heap.size) wb Wf := by
        rw [← hWf]
        have a0 : Frm (fun k => k = w.heap.size) wb wb := Frm.refl _ wb
        have a1 := a0.set (p := ⟨w.heap.size, 0, none⟩) (.inr rfl) (.slice B1 (hBk H0 7424).length d1)
        have a2 := a1.set (p := ⟨w.heap.size, 1, none⟩) (.inr rfl) (.slice B2 K0.length d2)
        have a3 := a2.set (p := ⟨w.heap.size, 2, none⟩) (.inr rfl) (.int .u64 G0.n)
        have a4 := a3.set (p := ⟨w.heap.size, 3, none⟩) (.inr rfl) (.int .u64 G0.nans)
        have a5 := a4.set (p := ⟨w.heap.size, 4, none⟩) (.inr rfl) (.int .u64 G0.lo)
        exact a5.set (p := ⟨w.heap.size, 5, none⟩) (.inr rfl) (.int .u64 G0.hi)
      have hfin : (∃ v1 v2, Value.tuple #[.agg #[.slice B1 (hBk H0 7424).length d1, .slice B2 K0.length d2, .int .u64 G0.n, .int .u64 G0.nans, .int .u64 G0.lo, .int .u64 G0.hi], .int .i64 0] = Value.tuple #[.agg #[v1, v2, .int .u64 G0.n, .int .u64 G0.nans, .int .u64 G0.lo, .int .u64 G0.hi], .int .i64 0] ∧ v1 = .slice B1 (hBk H0 7424).length d1 ∧ v2 = .slice B2 K0.length d2 ∧ Sl (fun k => k < Wf.heap.size) Wf B1 (hBk H0 7424) ∧ Sl (fun k => k < Wf.heap.size) Wf B2 K0 ∧ (B1 = none → d1 = 0) ∧ (B2 = none → d2 = 0) ∧ Below w.heap.size w Wf) := by
        refine ⟨_, _, rfl, rfl, rfl, ?_, ?_, fun h => (hnil1 h).2, fun h => (hnil2 h).2, ?_⟩
        · have hf1 : Frm (fun k => k < wr.drew.heap.size) wa Wf := (Frm.of_below (hbb)).trans (hfw.mono (fun k _ e => by omega))
          exact (ho1.flat (fun _ _ _ _ _ _ h => h) hf1).mono (fun k _ h => h.2)
        · have hf1 : Frm (fun k => k < wa.heap.size) wb Wf := hfw.mono (fun k _ e => by omega)
          exact (ho2.flat (fun _ _ _ _ _ _ h => h) hf1).mono (fun k _ h => h.2)
        · exact hfw.to_below hAb.below (fun k _ e => by omega)
      have HF := Lib.hid hfin
      clear hfin hfw hA hAa hAb ho1 ho2 hba hbb
      have k0 : Wf.cell? ⟨w.heap.size, 0, none⟩ = some (.slice B1 (hBk H0 7424).length d1) := by simp [World.cell?, hRf]
      have k1 : Wf.cell? ⟨w.heap.size, 1, none⟩ = some (.slice B2 K0.length d2) := by simp [World.cell?, hRf]
      have k2 : Wf.cell? ⟨w.heap.size, 2, none⟩ = some (.int .u64 G0.n) := by simp [World.cell?, hRf]
      have k3 : Wf.cell? ⟨w.heap.size, 3, none⟩ = some (.int .u64 G0.nans) := by simp [World.cell?, hRf]
      have k4 : Wf.cell? ⟨w.heap.size, 4, none⟩ = some (.int .u64 G0.lo) := by simp [World.cell?, hRf]
      have k5 : Wf.cell? ⟨w.heap.size, 5, none⟩ = some (.int .u64 G0.hi) := by simp [World.cell?, hRf]
      go_wp2
      refine bodyPost_ret (v := .tuple #[.agg #[.slice B1 (hBk H0 7424).length d1, .slice B2 K0.length d2, .int .u64 G0.n, .int .u64 G0.nans, .int .u64 G0.lo, .int .u64 G0.hi], .int .i64 0]) (by simp [results, Tryz.results96, go_sem, k0, k1, k2, k3, k4, k5]) rfl ?_
      rw [GH.out, GK.out, GG.out]
      obtain ⟨v1, v2, h1, h2, h3, h4, h5, h6, h7, h8⟩ := HF.out
      exact ⟨B1, d1, B2, d2, v1, v2, by rw [h1], h2, h3, h4, h5, h6, h7, h8⟩
end Go.Proofs.YtbefkiebdokbdaaGreat.V
end

section
/- Contracts: plain.List at labels, buckets, hashes. -/
namespace Go.Proofs.YtbefkiebdokbdaaGreat.V
open Go.RowKit
set_option linter.unusedVariables false
set_option maxRecDepth 100000

theorem el_Label : ElemOf Tryz.prog 65 111 (Rep.sz Label) 32 := ElemOf.mk' (z := .agg #[.string ⟨#[]⟩, .string ⟨#[]⟩]) Tryz.underlying65 (by kernel_rfl) rfl

theorem C_List_Label (A : Option Addr) (cap : Nat) (xs : List Label) (w : World) (hr : Sl (fun k => k < w.heap.size) w A xs) (hA : A = none → cap = 0) (hl : xs.length ≤ 1048576) :
    Calls Tryz.prog 113 #[.slice A xs.length cap] w fun e w' => ∃ v, e = .returned v ∧ Own w' w.heap.size 111 v xs ∧ Below w.heap.size w w' := by
  go_enter Tryz.func113, Tryz.ntmps113
  go_wp2_with (at_builtin; refine wpOwn_append rfl _ _ 65 111 32 w.heap.size rfl el_Label (xs := []) rfl (Own.nil _ _ _) rfl rfl hA (hr.mono (fun k _ h => ⟨h, fun e => by cases e⟩)) (by simp; omega) (by simp; omega) (Nat.le_refl _) ?_)
  intro v w' ho hg hat
  go_wp2
  go_ret
  exact ⟨v, rfl, by simpa using ho, (Below.refl _ _).grown hg (Nat.le_refl _) (fun j hj => by cases hj)⟩
theorem C_List_Bucket (A : Option Addr) (cap : Nat) (xs : List Bucket) (w : World) (hr : Sl (fun k => k < w.heap.size) w A xs) (hA : A = none → cap = 0) (hl : xs.length ≤ 1048576) :
    Calls Tryz.prog 114 #[.slice A xs.length cap] w fun e w' => ∃ v, e = .returned v ∧ Own w' w.heap.size 120 v xs ∧ Below w.heap.size w w' := by
  go_enter Tryz.func114, Tryz.ntmps114
  go_wp2_with (at_builtin; refine wpOwn_append rfl _ _ 39 120 16 w.heap.size rfl el_Bucket (xs := []) rfl (Own.nil _ _ _) rfl rfl hA (hr.mono (fun k _ h => ⟨h, fun e => by cases e⟩)) (by simp; omega) (by simp; omega) (Nat.le_refl _) ?_)
  intro v w' ho hg hat
  go_wp2
  go_ret
  exact ⟨v, rfl, by simpa using ho, (Below.refl _ _).grown hg (Nat.le_refl _) (fun j hj => by cases hj)⟩
theorem C_List_num (A : Option Addr) (cap : Nat) (xs : List Int) (w : World) (hr : Sl (fun k => k < w.heap.size) w A xs) (hA : A = none → cap = 0) (hl : xs.length ≤ 1048576) :
    Calls Tryz.prog 115 #[.slice A xs.length cap] w fun e w' => ∃ v, e = .returned v ∧ Own w' w.heap.size 29 v xs ∧ Below w.heap.size w w' := by
  go_enter Tryz.func115, Tryz.ntmps115
  go_wp2_with (at_builtin; refine wpOwn_append rfl _ _ 40 29 8 w.heap.size rfl el_U64 (xs := []) rfl (Own.nil _ _ _) rfl rfl hA (hr.mono (fun k _ h => ⟨h, fun e => by cases e⟩)) (by simp; omega) (by simp; omega) (Nat.le_refl _) ?_)
  intro v w' ho hg hat
  go_wp2
  go_ret
  exact ⟨v, rfl, by simpa using ho, (Below.refl _ _).grown hg (Nat.le_refl _) (fun j hj => by cases hj)⟩
end Go.Proofs.YtbefkiebdokbdaaGreat.V
end

section
/- Contracts: rows.One, rows.May. -/
namespace Go.Proofs.YtbefkiebdokbdaaGreat.V
open Go.RowKit
set_option linter.unusedVariables false
set_option maxRecDepth 100000

/-- A block of the call's own, cell by cell. -/
def Blk (w : World) (b : Nat) (vs : List Value) (t : Nat) : Prop := w.heap[b]? = some (.cells vs.toArray t (0, 0))
section
variable {w w' : World} {b t : Nat} {vs : List Value}
theorem Blk.lt (h : Blk w b vs t) : b < w.heap.size := (Array.getElem?_eq_some_iff.1 h).1
theorem Blk.c (h : Blk w b vs t) (i : Nat) {v : Value} (hv : vs[i]? = some v) : w.cell? ⟨b, i, none⟩ = some v := by unfold Blk at h; simp [World.cell?, h, hv]
theorem Blk.f (h : Blk w b vs t) (i : Nat) : w.frozen? ⟨b, i, none⟩ = false := by unfold Blk at h; simp [World.frozen?, h]
theorem Blk.frm {S : Nat → Prop} (h : Blk w b vs t) (hf : Frm S w w') (hn : ¬ S b) : Blk w' b vs t := by unfold Blk; rw [hf.block b h.lt hn]; exact h
theorem Blk.below (h : Blk w b vs t) (hb : Below w.heap.size w w') : Blk w' b vs t := by unfold Blk; rw [hb.block b h.lt]; exact h
theorem Blk.drew (h : Blk w b vs t) : Blk w.drew b vs t := h
theorem Blk.set (h : Blk w b vs t) (i : Nat) (x : Value) : Blk (w.setCell ⟨b, i, none⟩ x) b (vs.set i x) t := by
  unfold Blk at *
  simp [World.setCell, Array.getElem?_modify, h]
theorem Blk.other (h : Blk w b vs t) {r : Nat} (i : Nat) (x : Value) (hne : r ≠ b) : Blk (w.setCell ⟨r, i, none⟩ x) b vs t := by
  have a0 : Frm (fun k => k = r) w w := Frm.refl _ w
  exact h.frm (a0.set (p := ⟨r, i, none⟩) (.inr rfl) x) (fun e => hne e.symm)
theorem Blk.new (w : World) (vs : List Value) (t : Nat) : Blk (w.alloc (.cells vs.toArray t)) w.heap.size vs t := heap_alloc_new _ _
end
theorem Frm.one {S : Nat → Prop} {w w' : World} (h : Frm S w w') {r : Nat} (hr : S r) (i : Nat) (x : Value) : Frm S w (w'.setCell ⟨r, i, none⟩ x) := h.set (p := ⟨r, i, none⟩) (.inr hr) x

/-- A row as a value. -/
@[reducible] def rowL (A0 : Option Addr) (c0 : Nat) (A1 : Option Addr) (c1 : Nat) (A2 : Option Addr) (c2 : Nat) (r : Row) : List Value :=
  [.slice A0 r.labels.length c0, .int .i64 r.at_, .slice A1 r.s.hist.length c1, .slice A2 r.s.hashes.length c2, .int .u64 r.s.gauge.n, .int .u64 r.s.gauge.nans, .int .u64 r.s.gauge.lo, .int .u64 r.s.gauge.hi]

theorem C_rows_May (ok : Nat → Prop) (A0 : Option Addr) (c0 : Nat) (A1 : Option Addr) (c1 : Nat) (A2 : Option Addr) (c2 : Nat) (r : Row) (w : World) (h0 : Sl ok w A0 r.labels) (h1 : Sl ok w A1 r.s.hist) (h2 : Sl ok w A2 r.s.hashes) (hg : r.s.gauge.wf) :
    Calls Tryz.prog 93 #[.agg (rowL A0 c0 A1 c1 A2 c2 r).toArray] w fun e w' => e = .returned (.bool (tr (LabelsP r.labels) && pCheck r.s)) ∧ Below w.heap.size w w' := by
  have hc1 := fun w h => C_label_Check ok A0 c0 r.labels w h
  have hc2 := fun w h1 h2 => C_pair_Check ok A1 c1 A2 c2 r.s w h1 h2 hg
  go_enter Tryz.func93, Tryz.ntmps93
  go_wp2_with fail
  obtain ⟨W, hW⟩ : ∃ W, W = w.alloc (.cells (rowL A0 c0 A1 c1 A2 c2 r).toArray 67) := ⟨_, rfl⟩
  have hbW : Below w.heap.size w W := hW ▸ (Below.refl _ _).alloc (Nat.le_refl _) _
  have hB : Blk W w.heap.size (rowL A0 c0 A1 c1 A2 c2 r) 67 := hW ▸ Blk.new _ _ _
  rw [← hW]
  clear hW
  refine (hc1 _ (h0.below hbW)).mono ?_
  rintro e w1 ⟨rfl, hb1⟩
  have hbw1 := hbW.trans (hb1.mono hbW.size)
  have hB1 := hB.below hb1
  have x2 := hB1.c 2 rfl
  have x3 := hB1.c 3 rfl
  have x4 := hB1.c 4 rfl
  have x5 := hB1.c 5 rfl
  have x6 := hB1.c 6 rfl
  have x7 := hB1.c 7 rfl
  clear hB hB1
  cases hL : tr (LabelsP r.labels)
  · go_wp2
    go_ret
    exact ⟨ret_b (by rw [hL]; rfl), hbw1⟩
  · go_wp2_with fail
    refine (hc2 _ (h1.below hbw1) (h2.below hbw1)).mono ?_
    rintro e w2 ⟨rfl, hb2⟩
    go_wp2
    go_ret
    exact ⟨ret_b (by rw [hL]; rfl), hbw1.trans (hb2.mono hbw1.size)⟩

@[reducible] def rowZ : List Value := [.slice none 0 0, .int .i64 0, .slice none 0 0, .slice none 0 0, .int .u64 0, .int .u64 0, .int .u64 0, .int .u64 0]
/-- What rows.One has in hand: its box b with cells P, its result behind it, and what has been since wa. -/
structure OneI (w wa X : World) (b : Nat) (P : List Value) : Prop where
  blk : Blk X b P 67
  res : Blk X (b + 1) rowZ 67
  frm : Frm (fun k => k = b ∨ k = b + 1) wa X
  below : Below w.heap.size w X
  new : w.heap.size ≤ b
section
variable {w wa X X' : World} {b : Nat} {P : List Value}
theorem OneI.step (h : OneI w wa X b P) (hb : Below X.heap.size X X') : OneI w wa X' b P := ⟨h.blk.below hb, h.res.below hb, h.frm.trans (.of_below hb), h.below.trans (hb.mono h.below.size), h.new⟩
theorem OneI.drew (h : OneI w wa X b P) : OneI w wa X.drew b P := h.step ⟨rfl, rfl, rfl, Nat.le_refl _, fun _ _ => rfl⟩
theorem OneI.set (h : OneI w wa X b P) (i : Nat) (x : Value) : OneI w wa (X.setCell ⟨b, i, none⟩ x) b (P.set i x) := by
  have a0 : Frm (fun k => k = b) X X := Frm.refl _ X
  have a1 := a0.one rfl i x
  exact ⟨h.blk.set i x, h.res.other i x (by omega), h.frm.one (.inl rfl) i x, a1.to_below h.below (fun k _ e => by have := h.new; omega), h.new⟩
theorem OneI.sl {α : Type} [Rep α] (h : OneI w wa X b P) {A : Option Addr} {xs : List α} (hs : Sl (fun k => k < w.heap.size) w A xs) : Sl (fun k => k < X.heap.size) X A xs :=
  (hs.below h.below).mono (fun k _ hk => Nat.lt_of_lt_of_le hk h.below.size)
end

/-- The row that rows.One gives. -/
theorem oneEnd {w wa X X1 X2 : World} {b e0 e1 e2 c0 c1 c2 : Nat} {P : List Value} {B0 B1 B2 : Option Addr} {r : Row} (hI : OneI w wa X b P)
    (F1 : Frm (fun k => k = b ∨ k = b + 1) X1 X) (F2 : Frm (fun k => k = b ∨ k = b + 1) X2 X) {b0 b1 b2 : Nat}
    (ho0 : Own wa b0 e0 (.slice B0 r.labels.length c0) r.labels) (h0 : b + 2 ≤ b0) (ho1 : Own X1 b1 e1 (.slice B1 r.s.hist.length c1) r.s.hist) (h1 : b + 2 ≤ b1) (ho2 : Own X2 b2 e2 (.slice B2 r.s.hashes.length c2) r.s.hashes) (h2 : b + 2 ≤ b2)
    (hi : I64 r.at_) (hg : r.s.gauge.wf) (m0 : B0 = none → r.labels = [] ∧ c0 = 0) (m1 : B1 = none → r.s.hist = [] ∧ c1 = 0) (m2 : B2 = none → r.s.hashes = [] ∧ c2 = 0) :
    ∀ X', Frm (fun k => k = b ∨ k = b + 1) X X' → RowRep (fun k => w.heap.size ≤ k) X' (rowL B0 c0 B1 c1 B2 c2 r) r := by
  intro X' hf
  have hn := hI.new
  refine ⟨B0, c0, B1, c1, B2, c2, rfl, ?_, hi, ?_, ?_, hg, fun h => (m0 h).2, fun h => (m1 h).2, fun h => (m2 h).2⟩
  · exact (ho0.flat (fun _ _ _ _ _ _ h => h) ((hI.frm.trans hf).mono (fun k _ h => by omega))).mono (fun k _ h => by omega)
  · exact (ho1.flat (fun _ _ _ _ _ _ h => h) ((F1.trans hf).mono (fun k _ h => by omega))).mono (fun k _ h => by omega)
  · exact (ho2.flat (fun _ _ _ _ _ _ h => h) ((F2.trans hf).mono (fun k _ h => by omega))).mono (fun k _ h => by omega)

/-- Eight cells laid into a block. -/
@[reducible] def set8 (w : World) (b : Nat) (v0 v1 v2 v3 v4 v5 v6 v7 : Value) : World :=
  ((((((((w.setCell ⟨b, 0, none⟩ v0).setCell ⟨b, 1, none⟩ v1).setCell ⟨b, 2, none⟩ v2).setCell ⟨b, 3, none⟩ v3).setCell ⟨b, 4, none⟩ v4).setCell ⟨b, 5, none⟩ v5).setCell ⟨b, 6, none⟩ v6).setCell ⟨b, 7, none⟩ v7)
theorem Blk.set8 {w : World} {b t : Nat} (h : Blk w b rowZ t) (v0 v1 v2 v3 v4 v5 v6 v7 : Value) : Blk (set8 w b v0 v1 v2 v3 v4 v5 v6 v7) b [v0, v1, v2, v3, v4, v5, v6, v7] t :=
  (((((((h.set 0 v0).set 1 v1).set 2 v2).set 3 v3).set 4 v4).set 5 v5).set 6 v6).set 7 v7
theorem Frm.set8 {S : Nat → Prop} {w w' : World} (h : Frm S w w') {b : Nat} (hb : S b) (v0 v1 v2 v3 v4 v5 v6 v7 : Value) : Frm S w (set8 w' b v0 v1 v2 v3 v4 v5 v6 v7) :=
  (((((((h.one hb 0 v0).one hb 1 v1).one hb 2 v2).one hb 3 v3).one hb 4 v4).one hb 5 v5).one hb 6 v6).one hb 7 v7

set_option maxHeartbeats 2000000 in
theorem C_rows_One (A0 : Option Addr) (c0 : Nat) (A1 : Option Addr) (c1 : Nat) (A2 : Option Addr) (c2 : Nat) (r : Row) (w : World) (h0 : Sl (fun k => k < w.heap.size) w A0 r.labels) (h1 : Sl (fun k => k < w.heap.size) w A1 r.s.hist) (h2 : Sl (fun k => k < w.heap.size) w A2 r.s.hashes) (hi : I64 r.at_) (hg : r.s.gauge.wf)
    (n0 : A0 = none → c0 = 0) (n1 : A1 = none → c1 = 0) (n2 : A2 = none → c2 = 0) (l0 : r.labels.length ≤ 1048576) (l1 : r.s.hist.length ≤ 1048576) (l2 : r.s.hashes.length ≤ 1048576) :
    Calls Tryz.prog 92 #[.agg (rowL A0 c0 A1 c1 A2 c2 r).toArray] w fun e w' => ∃ B0 d0 B1 d1 B2 d2, e = .returned (.agg (rowL B0 d0 B1 d1 B2 d2 r).toArray) ∧ RowRep (fun k => w.heap.size ≤ k) w' (rowL B0 d0 B1 d1 B2 d2 r) r ∧ Below w.heap.size w w' := by
  go_enter Tryz.func92, Tryz.ntmps92
  go_wp2_with fail
  obtain ⟨W, hW⟩ : ∃ W, W = (w.alloc (.cells (rowL A0 c0 A1 c1 A2 c2 r).toArray 67)).alloc (.cells rowZ.toArray 67) := ⟨_, rfl⟩
  have hI : OneI w W W w.heap.size (rowL A0 c0 A1 c1 A2 c2 r) := by
    rw [hW]
    have hs : (w.alloc (.cells (rowL A0 c0 A1 c1 A2 c2 r).toArray 67)).heap.size = w.heap.size + 1 := by simp
    have hr := Blk.new (w.alloc (.cells (rowL A0 c0 A1 c1 A2 c2 r).toArray 67)) rowZ 67
    rw [hs] at hr
    exact ⟨(Blk.new w _ _).below ((Below.refl _ _).alloc (Nat.le_refl _) _), hr, Frm.refl _ _, ((Below.refl _ _).alloc (Nat.le_refl _) _).alloc (by simp) _, Nat.le_refl _⟩
  have hWs : W.heap.size = w.heap.size + 2 := by rw [hW]; simp
  rw [← hW]
  clear hW
  refine (C_List_Label A0 c0 r.labels _ (hI.sl h0) n0 l0).mono ?_
  rintro e wa ⟨v0, rfl, ho0, hba⟩
  obtain ⟨B0, d0, rfl, m0⟩ := ho0.form
  have hIa : OneI w wa wa w.heap.size (rowL A0 c0 A1 c1 A2 c2 r) := by
    have := hI.step hba
    exact ⟨this.blk, this.res, Frm.refl _ _, this.below, this.new⟩
  have x0 := hIa.blk.c 0 rfl
  have f0 := hIa.blk.f 0
  have hIb := hIa.set 0 (.slice B0 r.labels.length d0)
  have y2 := hIb.blk.c 2 rfl
  have y3 := hIb.blk.c 3 rfl
  clear hI
  go_wp2_with fail
  have hIc := hIb.drew
  have z2 := hIc.blk.c 2 rfl
  have z3 := hIc.blk.c 3 rfl
  clear x0 f0 hba
  go_region_with (first
    | (go_at_call 114; refine (C_List_Bucket A1 c1 r.s.hist _ (hIc.sl h1) n1 l1).mono ?_; rintro e X1 ⟨v1, rfl, ho1, hb1⟩; obtain ⟨B1, d1, rfl, m1⟩ := ho1.form; have hI1 := hIc.step hb1; have p2 := hI1.blk.c 2 rfl; have p3 := hI1.blk.c 3 rfl; have q2 := hI1.blk.f 2; have q3 := hI1.blk.f 3; have hI1' := hI1.set 2 (.slice B1 r.s.hist.length d1))
    | (go_at_call 115; refine (C_List_num A2 c2 r.s.hashes _ (hI1.sl h2) n2 l2).mono ?_; rintro e X2 ⟨v2, rfl, ho2, hb2⟩; obtain ⟨B2, d2, rfl, m2⟩ := ho2.form; have hI2 := hI1.step hb2; have u2 := hI2.blk.c 2 rfl; have u3 := hI2.blk.c 3 rfl; have t2 := hI2.blk.f 2; have t3 := hI2.blk.f 3; have hI3 := (hI2.set 2 (.slice B1 r.s.hist.length d1)).set 3 (.slice B2 r.s.hashes.length d2); have F1 := @Frm.of_below (fun k => k = w.heap.size ∨ k = w.heap.size + 1) _ _ hb2; have F2 := ((Frm.refl (fun k => k = w.heap.size ∨ k = w.heap.size + 1) X2).one (.inl rfl) 2 (.slice B1 r.s.hist.length d1)).one (.inl rfl) 3 (.slice B2 r.s.hashes.length d2); have hz := hb2.size)
    | (go_at_call 115; refine (C_List_num A2 c2 r.s.hashes _ (hI1'.sl h2) n2 l2).mono ?_; rintro e X2 ⟨v2, rfl, ho2, hb2⟩; obtain ⟨B2, d2, rfl, m2⟩ := ho2.form; have hI2 := hI1'.step hb2; have u2 := hI2.blk.c 2 rfl; have u3 := hI2.blk.c 3 rfl; have t2 := hI2.blk.f 2; have t3 := hI2.blk.f 3; have hI3 := hI2.set 3 (.slice B2 r.s.hashes.length d2); have F1 := ((Frm.refl (fun k => k = w.heap.size ∨ k = w.heap.size + 1) X1).one (.inl rfl) 2 (.slice B1 r.s.hist.length d1)).trans (@Frm.of_below (fun k => k = w.heap.size ∨ k = w.heap.size + 1) _ _ hb2); have F2 := (Frm.refl (fun k => k = w.heap.size ∨ k = w.heap.size + 1) X2).one (.inl rfl) 3 (.slice B2 r.s.hashes.length d2); have hz := hb2.size))
  all_goals
    have hz1 := hb1.size
    have hz0 := hIa.below.size
    have hzb : w.heap.size + 2 ≤ wa.heap.size := by have := hIa.res.lt; omega
    have hX1 : w.heap.size + 2 ≤ X1.heap.size := by have : (wa.setCell ⟨w.heap.size, 0, none⟩ (.slice B0 r.labels.length d0)).drew.heap.size = wa.heap.size := by simp [World.setCell, World.drew]
                                                    omega
    have hfin := oneEnd (r := r) hI3 (F1.trans F2) F2 ho0 (by omega) ho1 (by simp [World.setCell, World.drew]; omega) ho2 (by first | omega | (simp [World.setCell]; omega)) hi hg m0 m1 m2
    have hI4 : OneI w wa _ w.heap.size (rowL B0 d0 B1 d1 B2 d2 r) := hI3
    revert hfin hI4
    clear hI3 F1 F2 hz hI2 t2 t3 u2 u3 hI1' hI1 p2 p3 q2 q3 ho1 ho2 hb1 hb2
    generalize (World.setCell _ ⟨w.heap.size, 3, none⟩ (.slice B2 r.s.hashes.length d2)) = Wf
    intro hfin hI4
    clear hIc z2 z3 hIb y2 y3 hIa ho0
    have k0 := hI4.blk.c 0 rfl
    have k1 := hI4.blk.c 1 rfl
    have k2 := hI4.blk.c 2 rfl
    have k3 := hI4.blk.c 3 rfl
    have k4 := hI4.blk.c 4 rfl
    have k5 := hI4.blk.c 5 rfl
    have k6 := hI4.blk.c 6 rfl
    have k7 := hI4.blk.c 7 rfl
    have j0 := hI4.res.c 0 rfl
    have j1 := hI4.res.c 1 rfl
    have j2 := hI4.res.c 2 rfl
    have j3 := hI4.res.c 3 rfl
    have j4 := hI4.res.c 4 rfl
    have j5 := hI4.res.c 5 rfl
    have j6 := hI4.res.c 6 rfl
    have j7 := hI4.res.c 7 rfl
    have f0 := hI4.res.f 0
    have f1 := hI4.res.f 1
    have f2 := hI4.res.f 2
    have f3 := hI4.res.f 3
    have f4 := hI4.res.f 4
    have f5 := hI4.res.f 5
    have f6 := hI4.res.f 6
    have f7 := hI4.res.f 7
    have FIN := Lib.hid hfin
    clear hfin
    go_wp2
    have hblk := hI4.res.set8 (.slice B0 r.labels.length d0) (.int .i64 r.at_) (.slice B1 r.s.hist.length d1) (.slice B2 r.s.hashes.length d2) (.int .u64 r.s.gauge.n) (.int .u64 r.s.gauge.nans) (.int .u64 r.s.gauge.lo) (.int .u64 r.s.gauge.hi)
    have hfrm := (Frm.refl (fun k => k = w.heap.size ∨ k = w.heap.size + 1) Wf).set8 (b := w.heap.size + 1) (.inr rfl) (.slice B0 r.labels.length d0) (.int .i64 r.at_) (.slice B1 r.s.hist.length d1) (.slice B2 r.s.hashes.length d2) (.int .u64 r.s.gauge.n) (.int .u64 r.s.gauge.nans) (.int .u64 r.s.gauge.lo) (.int .u64 r.s.gauge.hi)
    have hbel := hfrm.to_below hI4.below (fun k _ e => by omega)
    have hrow := FIN.out _ hfrm
    revert hblk hbel hrow
    unfold set8
    clear hfrm j0 j1 j2 j3 j4 j5 j6 j7 k0 k1 k2 k3 k4 k5 k6 k7 f0 f1 f2 f3 f4 f5 f6 f7
    generalize (World.setCell _ ⟨w.heap.size + 1, 7, none⟩ (.int .u64 r.s.gauge.hi)) = Wg
    intro hblk hbel hrow
    have k0 := hblk.c 0 rfl
    have k1 := hblk.c 1 rfl
    have k2 := hblk.c 2 rfl
    have k3 := hblk.c 3 rfl
    have k4 := hblk.c 4 rfl
    have k5 := hblk.c 5 rfl
    have k6 := hblk.c 6 rfl
    have k7 := hblk.c 7 rfl
    refine bodyPost_ret (v := .agg (rowL B0 d0 B1 d1 B2 d2 r).toArray) (by simp [results, Tryz.results92, go_sem, k0, k1, k2, k3, k4, k5, k6, k7]) rfl ?_
    exact ⟨B0, d0, B1, d1, B2, d2, rfl, hrow, hbel⟩
end Go.Proofs.YtbefkiebdokbdaaGreat.V
end

section
/- Contracts: rows.Own. -/
namespace Go.Proofs.YtbefkiebdokbdaaGreat.V
open Go.RowKit
set_option linter.unusedVariables false
set_option maxRecDepth 100000

theorem el_Row : ElemOf Tryz.prog 51 67 (Rep.sz Row) 112 := ElemOf.mk' (z := .agg #[.slice none 0 0, .int .i64 0, .slice none 0 0, .slice none 0 0, .int .u64 0, .int .u64 0, .int .u64 0, .int .u64 0]) Tryz.underlying51 (by kernel_rfl) rfl

theorem Sl.row {ok : Nat → Prop} {w : World} {A : Option Addr} {xs : List Row} (h : Sl ok w A xs) {k : Nat} (hk : k < xs.length) :
    ∃ b off A0 c0 A1 c1 A2 c2, A = some ⟨b, off, none⟩ ∧ ok b ∧ b < w.heap.size ∧ w.cell? ⟨b, off + k * 8, none⟩ = some (.slice A0 xs[k].labels.length c0) ∧ w.cell? ⟨b, off + k * 8 + 1, none⟩ = some (.int .i64 xs[k].at_)
      ∧ w.cell? ⟨b, off + k * 8 + 2, none⟩ = some (.slice A1 xs[k].s.hist.length c1) ∧ w.cell? ⟨b, off + k * 8 + 3, none⟩ = some (.slice A2 xs[k].s.hashes.length c2)
      ∧ w.cell? ⟨b, off + k * 8 + 4, none⟩ = some (.int .u64 xs[k].s.gauge.n) ∧ w.cell? ⟨b, off + k * 8 + 5, none⟩ = some (.int .u64 xs[k].s.gauge.nans) ∧ w.cell? ⟨b, off + k * 8 + 6, none⟩ = some (.int .u64 xs[k].s.gauge.lo) ∧ w.cell? ⟨b, off + k * 8 + 7, none⟩ = some (.int .u64 xs[k].s.gauge.hi)
      ∧ Sl ok w A0 xs[k].labels ∧ I64 xs[k].at_ ∧ Sl ok w A1 xs[k].s.hist ∧ Sl ok w A2 xs[k].s.hashes ∧ xs[k].s.gauge.wf ∧ (A0 = none → c0 = 0) ∧ (A1 = none → c1 = 0) ∧ (A2 = none → c2 = 0) := by
  obtain ⟨b, off, vs, rfl, hv, hc⟩ := h.at_ hk
  obtain ⟨A0, c0, A1, c1, A2, c2, rfl, h0, hi, h1, h2, h3, m0, m1, m2⟩ := hv
  exact ⟨b, off, A0, c0, A1, c1, A2, c2, rfl, hc.1, hc.2.1, hc.c0, hc.c1, hc.cj 2 _ rfl, hc.cj 3 _ rfl, hc.cj 4 _ rfl, hc.cj 5 _ rfl, hc.cj 6 _ rfl, hc.cj 7 _ rfl, h0, hi, h1, h2, h3, m0, m1, m2⟩

/-- The lists of a row are of a borne size. -/
def Row.small (r : Row) : Prop := r.labels.length ≤ 1048576 ∧ r.s.hist.length ≤ 1048576 ∧ r.s.hashes.length ≤ 1048576

set_option maxHeartbeats 2000000 in
theorem C_rows_Own (A : Option Addr) (cap : Nat) (xs : List Row) (w : World) (hr : Sl (fun k => k < w.heap.size) w A xs) (hl : xs.length ≤ 1048576) (hs : ∀ r ∈ xs, r.small) :
    Calls Tryz.prog 57 #[.slice A xs.length cap] w fun e w' => ∃ v, e = .returned v ∧ Own w' w.heap.size 67 v xs ∧ Below w.heap.size w w' := by
  have HS := Lib.hid hs
  clear hs
  go_enter Tryz.func57, Tryz.ntmps57
  go_wp2_with fail
  go_loopw [3, 5, 8] (fun v _ i wr => ∃ (k : Nat), k ≤ xs.length ∧ i = .int .i64 k ∧ Own wr w.heap.size 67 v (xs.take k) ∧ Below w.heap.size w wr) (fun _ _ i _ => xs.length - (intOf i).toNat)
  case atStart => exact ⟨0, Nat.zero_le _, rfl, Own.nil _ _ _, Below.refl _ _⟩
  case round =>
    obtain ⟨k, hk, rfl, hown, hbl⟩ := hrel
    by_cases hlt : k < xs.length
    · have hsm := HS.out _ (List.getElem_mem hlt)
      obtain ⟨l0, l1, l2⟩ := hsm
      obtain ⟨b, off, A0, c0, A1, c1, A2, c2, rfl, hob, hlb, y0, y1, y2, y3, y4, y5, y6, y7, s0, hi, s1, s2, hg, m0, m1, m2⟩ := (hr.below hbl).row hlt
      have htk : xs.take (k + 1) = xs.take k ++ [xs[k]] := List.take_succ_eq_append_getElem hlt
      have HT := Lib.hid htk
      clear htk
      have hlen : (xs.take k).length = k := by simp; omega
      generalize xs.take k = pre at *
      generalize xs[k] = r at *
      go_wp2_with fail
      obtain ⟨W, hW⟩ : ∃ W, W = wr.alloc (.cells (rowL A0 c0 A1 c1 A2 c2 r).toArray 67) := ⟨_, rfl⟩
      have hbW : Below wr.heap.size wr W := hW ▸ (Below.refl _ _).alloc (Nat.le_refl _) _
      rw [← hW]
      clear hW y0 y1 y2 y3 y4 y5 y6 y7
      have hws := hbl.size
      have hwz := hbW.size
      have tosl : ∀ {α : Type} [Rep α] {B : Option Addr} {zs : List α}, Sl (fun k => k < w.heap.size) wr B zs → Sl (fun k => k < W.heap.size) W B zs := fun h => (h.below hbW).mono (fun k _ h => by omega)
      refine (C_rows_One A0 c0 A1 c1 A2 c2 r _ (tosl s0) (tosl s1) (tosl s2) hi hg m0 m1 m2 l0 l1 l2).mono ?_
      rintro e w1 ⟨B0, d0, B1, d1, B2, d2, rfl, hrow, hb1⟩
      clear tosl s0 s1 s2
      have hown1 := (hown.below hbW).below hb1
      have hob : ∀ j, u3.ownBlock = some j → w.heap.size ≤ j ∧ j < wr.heap.size := fun j hj => by obtain ⟨cs, _, ho'⟩ := hown; exact ho'.lt j hj
      have hz1 := hb1.size
      have hrow1 : Rep.rep (fun k => k < w1.heap.size ∧ some k ≠ u3.ownBlock) w1 (rowL B0 d0 B1 d1 B2 d2 r) r := Rep.mono (α := Row) hrow (fun k hk h => ⟨hk, fun e => by have := hob k e.symm; omega⟩)
      have hA1 : pre.length + 1 ≤ 9223372036854775807 := by omega
      have hA2 : (pre.length + 1) * 112 ≤ 140737488355328 := by omega
      have hA3 : w.heap.size ≤ w1.heap.size := by omega
      have hb2 : Below w.heap.size w w1 := (hbl.trans (hbW.mono hws)).trans (hb1.mono (by omega))
      clear hown hbl hrow hb1 hbW
      go_wp2_with (at_builtin; refine wpOwn_append1 (rowL B0 d0 B1 d1 B2 d2 r) r rfl _ _ 51 67 67 112 w.heap.size rfl rfl el_Row rfl hown1 rfl hrow1 hA1 hA2 hA3 ?_)
      intro v' w2 ho2 hg2 hat2
      go_wp2
      go_roundw
      case rel => exact ⟨k + 1, by omega, by go_num, by rw [HT.out]; exact ho2, hb2.grown hg2 hb2.size (fun j hj => (hob j hj).1)⟩
      case measure => simp [intOf]; omega
    · have hkk : k = xs.length := by omega
      rw [hkk, List.take_length] at hown
      go_wp2
      go_ret
      exact ⟨_, rfl, hown, hbl⟩
end Go.Proofs.YtbefkiebdokbdaaGreat.V
end

section
/- Contracts of varvelaw00: copies of lists; Place. -/
namespace Go.Proofs.YtbefkiebdokbdaaGreat.V
open Go.RowKit
set_option linter.unusedVariables false
set_option maxRecDepth 100000

theorem C_v_Labels (A : Option Addr) (cap : Nat) (xs : List Label) (w : World) (hr : Sl (fun k => k < w.heap.size) w A xs) (hA : A = none → cap = 0) (hl : xs.length ≤ 1048576) :
    Calls Tryz.prog 91 #[.slice A xs.length cap] w fun e w' => ∃ v, e = .returned v ∧ Own w' w.heap.size 111 v xs ∧ Below w.heap.size w w' := by
  go_enter Tryz.func91, Tryz.ntmps91
  go_wp2_with (at_builtin; refine wpOwn_append rfl _ _ 65 111 32 w.heap.size rfl el_Label (xs := []) rfl (Own.nil _ _ _) rfl rfl hA (hr.mono (fun k _ h => ⟨h, fun e => by cases e⟩)) (by simp; omega) (by simp; omega) (Nat.le_refl _) ?_)
  intro v w' ho hg hat
  go_wp2
  go_ret
  exact ⟨v, rfl, by simpa using ho, (Below.refl _ _).grown hg (Nat.le_refl _) (fun j hj => by cases hj)⟩
theorem C_v_Buckets (A : Option Addr) (cap : Nat) (xs : List Bucket) (w : World) (hr : Sl (fun k => k < w.heap.size) w A xs) (hA : A = none → cap = 0) (hl : xs.length ≤ 1048576) :
    Calls Tryz.prog 50 #[.slice A xs.length cap] w fun e w' => ∃ v, e = .returned v ∧ Own w' w.heap.size 120 v xs ∧ Below w.heap.size w w' := by
  go_enter Tryz.func50, Tryz.ntmps50
  go_wp2_with (at_builtin; refine wpOwn_append rfl _ _ 39 120 16 w.heap.size rfl el_Bucket (xs := []) rfl (Own.nil _ _ _) rfl rfl hA (hr.mono (fun k _ h => ⟨h, fun e => by cases e⟩)) (by simp; omega) (by simp; omega) (Nat.le_refl _) ?_)
  intro v w' ho hg hat
  go_wp2
  go_ret
  exact ⟨v, rfl, by simpa using ho, (Below.refl _ _).grown hg (Nat.le_refl _) (fun j hj => by cases hj)⟩
theorem C_v_Nums (A : Option Addr) (cap : Nat) (xs : List Int) (w : World) (hr : Sl (fun k => k < w.heap.size) w A xs) (hA : A = none → cap = 0) (hl : xs.length ≤ 1048576) :
    Calls Tryz.prog 51 #[.slice A xs.length cap] w fun e w' => ∃ v, e = .returned v ∧ Own w' w.heap.size 29 v xs ∧ Below w.heap.size w w' := by
  go_enter Tryz.func51, Tryz.ntmps51
  go_wp2_with (at_builtin; refine wpOwn_append rfl _ _ 40 29 8 w.heap.size rfl el_U64 (xs := []) rfl (Own.nil _ _ _) rfl rfl hA (hr.mono (fun k _ h => ⟨h, fun e => by cases e⟩)) (by simp; omega) (by simp; omega) (Nat.le_refl _) ?_)
  intro v w' ho hg hat
  go_wp2
  go_ret
  exact ⟨v, rfl, by simpa using ho, (Below.refl _ _).grown hg (Nat.le_refl _) (fun j hj => by cases hj)⟩

def place (x n : Int) : Int := if Int.tmod x n < 0 then Int.tmod x n + n else Int.tmod x n
end Go.Proofs.YtbefkiebdokbdaaGreat.V
end

section
/- varvelaw00.Sketch: a sketch copied. -/
namespace Go.Proofs.YtbefkiebdokbdaaGreat.V
open Go.RowKit
set_option linter.unusedVariables false
set_option maxRecDepth 100000

@[reducible] def skL (A1 : Option Addr) (c1 : Nat) (A2 : Option Addr) (c2 : Nat) (s : Sketch) : List Value :=
  [.slice A1 s.hist.length c1, .slice A2 s.hashes.length c2, .int .u64 s.gauge.n, .int .u64 s.gauge.nans, .int .u64 s.gauge.lo, .int .u64 s.gauge.hi]
@[reducible] def skZ : List Value := [.slice none 0 0, .slice none 0 0, .int .u64 0, .int .u64 0, .int .u64 0, .int .u64 0]
/-- What a copier of a struct has in hand. -/
structure CopI (w X : World) (P Z : List Value) (t : Nat) : Prop where
  blk : Blk X w.heap.size P t
  res : Blk X (w.heap.size + 1) Z t
  below : Below w.heap.size w X
section
variable {w X X' : World} {P Z : List Value} {t : Nat}
theorem CopI.step (h : CopI w X P Z t) (hb : Below X.heap.size X X') : CopI w X' P Z t := ⟨h.blk.below hb, h.res.below hb, h.below.trans (hb.mono h.below.size)⟩
theorem CopI.set (h : CopI w X P Z t) (i : Nat) (x : Value) : CopI w (X.setCell ⟨w.heap.size, i, none⟩ x) (P.set i x) Z t := by
  have a0 : Frm (fun k => k = w.heap.size) X X := Frm.refl _ X
  exact ⟨h.blk.set i x, h.res.other i x (by omega), (a0.one rfl i x).to_below h.below (fun k _ e => by omega)⟩
theorem CopI.new (w : World) (P Z : List Value) (t : Nat) : CopI w ((w.alloc (.cells P.toArray t)).alloc (.cells Z.toArray t)) P Z t := by
  have hs : (w.alloc (.cells P.toArray t)).heap.size = w.heap.size + 1 := by simp
  have hr := Blk.new (w.alloc (.cells P.toArray t)) Z t
  rw [hs] at hr
  exact ⟨(Blk.new w _ _).below ((Below.refl _ _).alloc (Nat.le_refl _) _), hr, ((Below.refl _ _).alloc (Nat.le_refl _) _).alloc (by omega) _⟩
end

set_option maxHeartbeats 2000000 in
theorem C_v_Sketch (A1 : Option Addr) (c1 : Nat) (A2 : Option Addr) (c2 : Nat) (s : Sketch) (w : World) (h1 : Sl (fun k => k < w.heap.size) w A1 s.hist) (h2 : Sl (fun k => k < w.heap.size) w A2 s.hashes) (hg : s.gauge.wf)
    (n1 : A1 = none → c1 = 0) (n2 : A2 = none → c2 = 0) (l1 : s.hist.length ≤ 1048576) (l2 : s.hashes.length ≤ 1048576) :
    Calls Tryz.prog 19 #[.agg (skL A1 c1 A2 c2 s).toArray] w fun e w' => ∃ B1 d1 B2 d2, e = .returned (.agg (skL B1 d1 B2 d2 s).toArray) ∧ Sl (fun k => w.heap.size ≤ k) w' B1 s.hist ∧ Sl (fun k => w.heap.size ≤ k) w' B2 s.hashes ∧ (B1 = none → d1 = 0) ∧ (B2 = none → d2 = 0) ∧ Below w.heap.size w w' := by
  go_enter Tryz.func19, Tryz.ntmps19
  go_wp2_with fail
  obtain ⟨W, hW⟩ : ∃ W, W = (w.alloc (.cells (skL A1 c1 A2 c2 s).toArray 44)).alloc (.cells skZ.toArray 44) := ⟨_, rfl⟩
  have hI : CopI w W (skL A1 c1 A2 c2 s) skZ 44 := hW ▸ CopI.new w _ _ _
  have hWs : W.heap.size = w.heap.size + 2 := by rw [hW]; simp
  show Calls _ _ _ ((w.alloc (.cells (skL A1 c1 A2 c2 s).toArray 44)).alloc (.cells skZ.toArray 44)) _
  rw [← hW]
  clear hW
  refine (C_v_Buckets A1 c1 s.hist _ ((h1.below hI.below).mono (fun k _ h => by omega)) n1 l1).mono ?_
  rintro e wa ⟨v0, rfl, ho1, hba⟩
  obtain ⟨B1, d1, rfl, m1⟩ := ho1.form
  have hIa := hI.step hba
  have hza := hba.size
  have x0 := hIa.blk.c 0 rfl
  have f0 := hIa.blk.f 0
  have hIb := hIa.set 0 (.slice B1 s.hist.length d1)
  have y1 := hIb.blk.c 1 rfl
  clear hI
  go_wp2_with fail
  have hFb : Frm (fun k => k = w.heap.size) wa (wa.setCell ⟨w.heap.size, 0, none⟩ (.slice B1 s.hist.length d1)) := (Frm.refl (fun k => k = w.heap.size) wa).one rfl 0 _
  have hzb := hFb.size
  generalize wa.setCell ⟨w.heap.size, 0, none⟩ (.slice B1 s.hist.length d1) = wb at *
  refine (C_v_Nums A2 c2 s.hashes wb ((h2.below hIb.below).mono (fun k _ h => by omega)) n2 l2).mono ?_
  rintro e wc ⟨v1, rfl, ho2, hbc⟩
  obtain ⟨B2, d2, rfl, m2⟩ := ho2.form
  have hIc := hIb.step hbc
  have hzc := hbc.size
  have z0 := hIc.blk.c 0 rfl
  have z1 := hIc.blk.c 1 rfl
  have z2 := hIc.blk.c 2 rfl
  have z3 := hIc.blk.c 3 rfl
  have z4 := hIc.blk.c 4 rfl
  have z5 := hIc.blk.c 5 rfl
  have g1 := hIc.blk.f 1
  have r0 := hIc.res.c 0 rfl
  have r1 := hIc.res.c 1 rfl
  have r2 := hIc.res.c 2 rfl
  have r3 := hIc.res.c 3 rfl
  have r4 := hIc.res.c 4 rfl
  have r5 := hIc.res.c 5 rfl
  have q0 := hIc.res.f 0
  have q1 := hIc.res.f 1
  have q2 := hIc.res.f 2
  have q3 := hIc.res.f 3
  have q4 := hIc.res.f 4
  have q5 := hIc.res.f 5
  have e1 : w.heap.size ≠ w.heap.size + 1 := by omega
  clear x0 f0 hIa y1
  go_wp2
  have hId := hIc.set 1 (.slice B2 s.hashes.length d2)
  have hFd : Frm (fun k => k = w.heap.size) wc (wc.setCell ⟨w.heap.size, 1, none⟩ (.slice B2 s.hashes.length d2)) := (Frm.refl (fun k => k = w.heap.size) wc).one rfl 1 _
  have hblk := (((((hId.res.set 0 (.slice B1 s.hist.length d1)).set 1 (.slice B2 s.hashes.length d2)).set 2 (.int .u64 s.gauge.n)).set 3 (.int .u64 s.gauge.nans)).set 4 (.int .u64 s.gauge.lo)).set 5 (.int .u64 s.gauge.hi)
  have hfrm := ((((((hFd.mono (S' := fun k => k = w.heap.size ∨ k = w.heap.size + 1) (fun _ _ h => .inl h)).one (r := w.heap.size + 1) (.inr rfl) 0 (.slice B1 s.hist.length d1)).one (r := w.heap.size + 1) (.inr rfl) 1 (.slice B2 s.hashes.length d2)).one (r := w.heap.size + 1) (.inr rfl) 2 (.int .u64 s.gauge.n)).one (r := w.heap.size + 1) (.inr rfl) 3 (.int .u64 s.gauge.nans)).one (r := w.heap.size + 1) (.inr rfl) 4 (.int .u64 s.gauge.lo)).one (r := w.heap.size + 1) (.inr rfl) 5 (.int .u64 s.gauge.hi)
  revert hblk hfrm
  clear hId hFd r0 r1 r2 r3 r4 r5 q0 q1 q2 q3 q4 q5 z0 z1 z2 z3 z4 z5 g1
  generalize (World.setCell _ ⟨w.heap.size + 1, 5, none⟩ (.int .u64 s.gauge.hi)) = Y
  intro hblk hfrm
  have hbel := hfrm.to_below hIc.below (fun k _ e => by omega)
  have hf1 : Frm (fun k => k = w.heap.size ∨ k = w.heap.size + 1) wa Y := ((hFb.mono (S' := fun k => k = w.heap.size ∨ k = w.heap.size + 1) (fun _ _ h => .inl h)).trans (.of_below hbc)).trans hfrm
  have s1 := (ho1.flat (fun _ _ _ _ _ _ h => h) (hf1.mono (fun k _ h => by omega))).mono (ok' := fun k => w.heap.size ≤ k) (fun k _ h => by omega)
  have s2 := (ho2.flat (fun _ _ _ _ _ _ h => h) (hfrm.mono (fun k _ h => by omega))).mono (ok' := fun k => w.heap.size ≤ k) (fun k _ h => by omega)
  have k0 := hblk.c 0 rfl
  have k1 := hblk.c 1 rfl
  have k2 := hblk.c 2 rfl
  have k3 := hblk.c 3 rfl
  have k4 := hblk.c 4 rfl
  have k5 := hblk.c 5 rfl
  exact bodyPost_ret (v := .agg (skL B1 d1 B2 d2 s).toArray) (by simp [results, Tryz.results19, go_sem, k0, k1, k2, k3, k4, k5]) rfl ⟨B1, d1, B2, d2, rfl, s1, s2, fun h => (m1 h).2, fun h => (m2 h).2, hbel⟩
end Go.Proofs.YtbefkiebdokbdaaGreat.V
end

section
/- varvelaw00.Row, Rows: rows copied. -/
namespace Go.Proofs.YtbefkiebdokbdaaGreat.V
open Go.RowKit
set_option linter.unusedVariables false
set_option maxRecDepth 100000

/-- Six cells laid into a block from place 2 on. -/
theorem CopI.set6 {w X : World} {P Z : List Value} {t : Nat} (h : CopI w X P Z t) (v0 v1 v2 v3 v4 v5 : Value) :
    CopI w ((((((X.setCell ⟨w.heap.size, 2, none⟩ v0).setCell ⟨w.heap.size, 3, none⟩ v1).setCell ⟨w.heap.size, 4, none⟩ v2).setCell ⟨w.heap.size, 5, none⟩ v3).setCell ⟨w.heap.size, 6, none⟩ v4).setCell ⟨w.heap.size, 7, none⟩ v5)
      ((((((P.set 2 v0).set 3 v1).set 4 v2).set 5 v3).set 6 v4).set 7 v5) Z t :=
  (((((h.set 2 v0).set 3 v1).set 4 v2).set 5 v3).set 6 v4).set 7 v5
theorem Frm.set6 {S : Nat → Prop} {w w' : World} (h : Frm S w w') {b : Nat} (hb : S b) (v0 v1 v2 v3 v4 v5 : Value) :
    Frm S w ((((((w'.setCell ⟨b, 2, none⟩ v0).setCell ⟨b, 3, none⟩ v1).setCell ⟨b, 4, none⟩ v2).setCell ⟨b, 5, none⟩ v3).setCell ⟨b, 6, none⟩ v4).setCell ⟨b, 7, none⟩ v5) :=
  (((((h.one hb 2 v0).one hb 3 v1).one hb 4 v2).one hb 5 v3).one hb 6 v4).one hb 7 v5

set_option maxHeartbeats 2000000 in
theorem C_v_Row (A0 : Option Addr) (c0 : Nat) (A1 : Option Addr) (c1 : Nat) (A2 : Option Addr) (c2 : Nat) (r : Row) (w : World) (h0 : Sl (fun k => k < w.heap.size) w A0 r.labels) (h1 : Sl (fun k => k < w.heap.size) w A1 r.s.hist) (h2 : Sl (fun k => k < w.heap.size) w A2 r.s.hashes) (hi : I64 r.at_) (hg : r.s.gauge.wf)
    (n0 : A0 = none → c0 = 0) (n1 : A1 = none → c1 = 0) (n2 : A2 = none → c2 = 0) (l0 : r.labels.length ≤ 1048576) (l1 : r.s.hist.length ≤ 1048576) (l2 : r.s.hashes.length ≤ 1048576) :
    Calls Tryz.prog 56 #[.agg (rowL A0 c0 A1 c1 A2 c2 r).toArray] w fun e w' => ∃ B0 d0 B1 d1 B2 d2, e = .returned (.agg (rowL B0 d0 B1 d1 B2 d2 r).toArray) ∧ RowRep (fun k => w.heap.size ≤ k) w' (rowL B0 d0 B1 d1 B2 d2 r) r ∧ Below w.heap.size w w' := by
  go_enter Tryz.func56, Tryz.ntmps56
  go_wp2_with fail
  obtain ⟨W, hW⟩ : ∃ W, W = (w.alloc (.cells (rowL A0 c0 A1 c1 A2 c2 r).toArray 67)).alloc (.cells rowZ.toArray 67) := ⟨_, rfl⟩
  have hI : CopI w W (rowL A0 c0 A1 c1 A2 c2 r) rowZ 67 := hW ▸ CopI.new w _ _ _
  have hWs : W.heap.size = w.heap.size + 2 := by rw [hW]; simp
  show Calls _ _ _ ((w.alloc (.cells (rowL A0 c0 A1 c1 A2 c2 r).toArray 67)).alloc (.cells rowZ.toArray 67)) _
  rw [← hW]
  clear hW
  refine (C_v_Labels A0 c0 r.labels _ ((h0.below hI.below).mono (fun k _ h => by omega)) n0 l0).mono ?_
  rintro e wa ⟨v0, rfl, ho0, hba⟩
  obtain ⟨B0, d0, rfl, m0⟩ := ho0.form
  have hIa := hI.step hba
  have hza := hba.size
  have x0 := hIa.blk.c 0 rfl
  have f0 := hIa.blk.f 0
  have hIb := hIa.set 0 (.slice B0 r.labels.length d0)
  have y2 := hIb.blk.c 2 rfl
  have y3 := hIb.blk.c 3 rfl
  have y4 := hIb.blk.c 4 rfl
  have y5 := hIb.blk.c 5 rfl
  have y6 := hIb.blk.c 6 rfl
  have y7 := hIb.blk.c 7 rfl
  clear hI
  go_wp2_with fail
  have hFb : Frm (fun k => k = w.heap.size) wa (wa.setCell ⟨w.heap.size, 0, none⟩ (.slice B0 r.labels.length d0)) := (Frm.refl (fun k => k = w.heap.size) wa).one rfl 0 _
  have hzb := hFb.size
  generalize wa.setCell ⟨w.heap.size, 0, none⟩ (.slice B0 r.labels.length d0) = wb at *
  refine (C_v_Sketch A1 c1 A2 c2 r.s wb ((h1.below hIb.below).mono (fun k _ h => by omega)) ((h2.below hIb.below).mono (fun k _ h => by omega)) hg n1 n2 l1 l2).mono ?_
  rintro e wc ⟨B1, d1, B2, d2, rfl, s1, s2, m1, m2, hbc⟩
  have hIc := hIb.step hbc
  have hzc := hbc.size
  have z0 := hIc.blk.c 0 rfl
  have z1 := hIc.blk.c 1 rfl
  have z2 := hIc.blk.c 2 rfl
  have z3 := hIc.blk.c 3 rfl
  have z4 := hIc.blk.c 4 rfl
  have z5 := hIc.blk.c 5 rfl
  have z6 := hIc.blk.c 6 rfl
  have z7 := hIc.blk.c 7 rfl
  have g2 := hIc.blk.f 2
  have g3 := hIc.blk.f 3
  have g4 := hIc.blk.f 4
  have g5 := hIc.blk.f 5
  have g6 := hIc.blk.f 6
  have g7 := hIc.blk.f 7
  clear x0 f0 hIa y2 y3 y4 y5 y6 y7
  have hId := hIc.set6 (.slice B1 r.s.hist.length d1) (.slice B2 r.s.hashes.length d2) (.int .u64 r.s.gauge.n) (.int .u64 r.s.gauge.nans) (.int .u64 r.s.gauge.lo) (.int .u64 r.s.gauge.hi)
  have hFd := (Frm.refl (fun k => k = w.heap.size) wc).set6 (b := w.heap.size) rfl (.slice B1 r.s.hist.length d1) (.slice B2 r.s.hashes.length d2) (.int .u64 r.s.gauge.n) (.int .u64 r.s.gauge.nans) (.int .u64 r.s.gauge.lo) (.int .u64 r.s.gauge.hi)
  have r0 := hIc.res.c 0 rfl
  have r1 := hIc.res.c 1 rfl
  have r2 := hIc.res.c 2 rfl
  have r3 := hIc.res.c 3 rfl
  have r4 := hIc.res.c 4 rfl
  have r5 := hIc.res.c 5 rfl
  have r6 := hIc.res.c 6 rfl
  have r7 := hIc.res.c 7 rfl
  have q0 := hIc.res.f 0
  have q1 := hIc.res.f 1
  have q2 := hIc.res.f 2
  have q3 := hIc.res.f 3
  have q4 := hIc.res.f 4
  have q5 := hIc.res.f 5
  have q6 := hIc.res.f 6
  have q7 := hIc.res.f 7
  have e1 : w.heap.size ≠ w.heap.size + 1 := by omega
  go_wp2
  have hblk := hId.res.set8 (.slice B0 r.labels.length d0) (.int .i64 r.at_) (.slice B1 r.s.hist.length d1) (.slice B2 r.s.hashes.length d2) (.int .u64 r.s.gauge.n) (.int .u64 r.s.gauge.nans) (.int .u64 r.s.gauge.lo) (.int .u64 r.s.gauge.hi)
  have hfrm := (hFd.mono (S' := fun k => k = w.heap.size ∨ k = w.heap.size + 1) (fun _ _ h => .inl h)).set8 (b := w.heap.size + 1) (.inr rfl) (.slice B0 r.labels.length d0) (.int .i64 r.at_) (.slice B1 r.s.hist.length d1) (.slice B2 r.s.hashes.length d2) (.int .u64 r.s.gauge.n) (.int .u64 r.s.gauge.nans) (.int .u64 r.s.gauge.lo) (.int .u64 r.s.gauge.hi)
  revert hblk hfrm
  unfold set8
  clear hId hFd r0 r1 r2 r3 r4 r5 r6 r7 q0 q1 q2 q3 q4 q5 q6 q7 z0 z1 z2 z3 z4 z5 z6 z7 g2 g3 g4 g5 g6 g7
  generalize (World.setCell _ ⟨w.heap.size + 1, 7, none⟩ (.int .u64 r.s.gauge.hi)) = Y
  intro hblk hfrm
  have hbel := hfrm.to_below hIc.below (fun k _ e => by omega)
  have hf1 : Frm (fun k => k = w.heap.size ∨ k = w.heap.size + 1) wa Y := ((hFb.mono (S' := fun k => k = w.heap.size ∨ k = w.heap.size + 1) (fun _ _ h => .inl h)).trans (.of_below hbc)).trans hfrm
  have t0 := (ho0.flat (fun _ _ _ _ _ _ h => h) (hf1.mono (fun k _ h => by omega))).mono (ok' := fun k => w.heap.size ≤ k) (fun k _ h => by omega)
  have t1 := (s1.keep (hfrm.keeps (fun k _ h => by omega))).mono (ok' := fun k => w.heap.size ≤ k) (fun k _ h => by omega)
  have t2 := (s2.keep (hfrm.keeps (fun k _ h => by omega))).mono (ok' := fun k => w.heap.size ≤ k) (fun k _ h => by omega)
  have k0 := hblk.c 0 rfl
  have k1 := hblk.c 1 rfl
  have k2 := hblk.c 2 rfl
  have k3 := hblk.c 3 rfl
  have k4 := hblk.c 4 rfl
  have k5 := hblk.c 5 rfl
  have k6 := hblk.c 6 rfl
  have k7 := hblk.c 7 rfl
  exact bodyPost_ret (v := .agg (rowL B0 d0 B1 d1 B2 d2 r).toArray) (by simp [results, Tryz.results56, go_sem, k0, k1, k2, k3, k4, k5, k6, k7]) rfl ⟨B0, d0, B1, d1, B2, d2, rfl, ⟨B0, d0, B1, d1, B2, d2, rfl, t0, hi, t1, t2, hg, fun h => (m0 h).2, m1, m2⟩, hbel⟩
end Go.Proofs.YtbefkiebdokbdaaGreat.V
end

section
/- varvelaw00.Rows: rows copied; varvelaw00.Place. -/
namespace Go.Proofs.YtbefkiebdokbdaaGreat.V
open Go.RowKit
set_option linter.unusedVariables false
set_option maxRecDepth 100000

set_option maxHeartbeats 2000000 in
theorem C_v_Rows (A : Option Addr) (cap : Nat) (xs : List Row) (w : World) (hr : Sl (fun k => k < w.heap.size) w A xs) (hl : xs.length ≤ 1048576) (hs : ∀ r ∈ xs, r.small) :
    Calls Tryz.prog 22 #[.slice A xs.length cap] w fun e w' => ∃ v, e = .returned v ∧ Own w' w.heap.size 67 v xs ∧ Below w.heap.size w w' := by
  have HS := Lib.hid hs
  clear hs
  go_enter Tryz.func22, Tryz.ntmps22
  go_wp2_with fail
  go_loopw [3, 4] (fun v i wr => ∃ (k : Nat), k ≤ xs.length ∧ i = .int .i64 k ∧ Own wr w.heap.size 67 v (xs.take k) ∧ Below w.heap.size w wr) (fun _ i _ => xs.length - (intOf i).toNat)
  case atStart => exact ⟨0, Nat.zero_le _, rfl, Own.nil _ _ _, Below.refl _ _⟩
  case round =>
    obtain ⟨k, hk, rfl, hown, hbl⟩ := hrel
    by_cases hlt : k < xs.length
    · have hsm := HS.out _ (List.getElem_mem hlt)
      obtain ⟨l0, l1, l2⟩ := hsm
      obtain ⟨b, off, A0, c0, A1, c1, A2, c2, rfl, hob, hlb, y0, y1, y2, y3, y4, y5, y6, y7, s0, hi, s1, s2, hg, m0, m1, m2⟩ := (hr.below hbl).row hlt
      have htk : xs.take (k + 1) = xs.take k ++ [xs[k]] := List.take_succ_eq_append_getElem hlt
      have HT := Lib.hid htk
      clear htk
      have hlen : (xs.take k).length = k := by simp; omega
      generalize xs.take k = pre at *
      generalize xs[k] = r at *
      have hws := hbl.size
      have tosl : ∀ {α : Type} [Rep α] {B : Option Addr} {zs : List α}, Sl (fun k => k < w.heap.size) wr B zs → Sl (fun k => k < wr.heap.size) wr B zs := fun h => h.mono (fun k _ h => by omega)
      go_wp2_with fail
      refine (C_v_Row A0 c0 A1 c1 A2 c2 r _ (tosl s0) (tosl s1) (tosl s2) hi hg m0 m1 m2 l0 l1 l2).mono ?_
      rintro e w1 ⟨B0, d0, B1, d1, B2, d2, rfl, hrow, hb1⟩
      clear tosl s0 s1 s2
      have hown1 := hown.below hb1
      have hob : ∀ j, u3.ownBlock = some j → w.heap.size ≤ j ∧ j < wr.heap.size := fun j hj => by obtain ⟨cs, _, ho'⟩ := hown; exact ho'.lt j hj
      have hz1 := hb1.size
      have hrow1 : Rep.rep (fun k => k < w1.heap.size ∧ some k ≠ u3.ownBlock) w1 (rowL B0 d0 B1 d1 B2 d2 r) r := Rep.mono (α := Row) hrow (fun k hk h => ⟨hk, fun e => by have := hob k e.symm; omega⟩)
      have hA1 : pre.length + 1 ≤ 9223372036854775807 := by omega
      have hA2 : (pre.length + 1) * 112 ≤ 140737488355328 := by omega
      have hA3 : w.heap.size ≤ w1.heap.size := by omega
      have hb2 : Below w.heap.size w w1 := hbl.trans (hb1.mono hws)
      clear hown hbl hrow hb1 y0 y1 y2 y3 y4 y5 y6 y7
      go_wp2_with (at_builtin; refine wpOwn_append1 (rowL B0 d0 B1 d1 B2 d2 r) r rfl _ _ 51 67 67 112 w.heap.size rfl rfl el_Row rfl hown1 rfl hrow1 hA1 hA2 hA3 ?_)
      intro v' w2 ho2 hg2 hat2
      go_wp2
      go_roundw
      case rel => exact ⟨k + 1, by omega, by go_num, by rw [HT.out]; exact ho2, hb2.grown hg2 hb2.size (fun j hj => (hob j hj).1)⟩
      case measure => simp [intOf]; omega
    · have hkk : k = xs.length := by omega
      rw [hkk, List.take_length] at hown
      go_wp2
      go_ret
      exact ⟨_, rfl, hown, hbl⟩

theorem place_lt {v n : Int} (hn : 0 < n) : 0 ≤ place v n ∧ place v n < n := by
  unfold place
  have h1 := Int.tmod_lt_of_pos v hn
  have h2 : -n < Int.tmod v n := by have := Int.tmod_lt_of_pos (-v) hn; rw [Int.neg_tmod] at this; omega
  split <;> omega
theorem C_Place (v n : Int) (w : World) (hv : I64 v) (h0 : 0 < n) (h1 : n ≤ 9223372036854775807) :
    Calls Tryz.prog 25 #[.int .i64 v, .int .i64 n] w fun e w' => e = .returned (.int .i64 (place v n)) ∧ w = w' := by
  obtain ⟨v1, v2⟩ := hv
  have b1 := Int.tmod_lt_of_pos v h0
  have b2 : -n < Int.tmod v n := by have := Int.tmod_lt_of_pos (-v) h0; rw [Int.neg_tmod] at this; omega
  have hz : (n == 0) = false := by simp; omega
  have hn0 : n ≠ 0 := by omega
  have hw : IntKind.i64.wrap (Int.tmod v n) = Int.tmod v n := IntWalk.i64_in _ (by omega)
  have HP : place v n = if Int.tmod v n < 0 then Int.tmod v n + n else Int.tmod v n := rfl
  have H := Lib.hid HP
  clear HP
  go_enter Tryz.func25, Tryz.ntmps25
  by_cases hneg : Int.tmod v n < 0
  · go_wp2
    go_ret
    exact ⟨ret_i (by rw [H.out, if_pos hneg]), rfl⟩
  · go_wp2
    go_ret
    exact ⟨ret_i (by rw [H.out, if_neg (by omega)]), rfl⟩
end Go.Proofs.YtbefkiebdokbdaaGreat.V
end

section
/- Contracts: cal.rest, times, Res, Coarsest, Horizon. -/
namespace Go.Proofs.YtbefkiebdokbdaaGreat.V
open Go.RowKit
set_option linter.unusedVariables false
set_option maxRecDepth 100000

/-- How many slots a row of a level stands for. -/
def resN (k : Nat) : Int := match k with | 0 => 1 | 1 => 6 | 2 => 360 | _ => 8640
theorem resN_pos (k : Nat) : 1 ≤ resN k ∧ resN k ≤ 8640 := by unfold resN; split <;> omega
theorem C_Res (k : Nat) (hk : k < 4) (w : World) : Calls Tryz.prog 73 #[.int .i64 k] w fun e w' => e = .returned (.int .i64 (resN k)) ∧ Below w.heap.size w w' := by
  rcases k with _ | _ | _ | _ | k
  · show Calls Tryz.prog 73 #[.int .i64 0] w fun e w' => e = .returned (.int .i64 1) ∧ Below w.heap.size w w'
    go_enter Tryz.func73, Tryz.ntmps73
    go_wp2
    go_ret
    exact ⟨rfl, by (repeat (first | exact Below.refl _ _ | assumption | refine Below.drew ?_ | refine Below.alloc ?_ (by simp <;> omega) _ | refine Below.setCell ?_ (by simp <;> omega) _))⟩
  · show Calls Tryz.prog 73 #[.int .i64 1] w fun e w' => e = .returned (.int .i64 6) ∧ Below w.heap.size w w'
    go_enter Tryz.func73, Tryz.ntmps73
    go_wp2
    go_ret
    exact ⟨rfl, by (repeat (first | exact Below.refl _ _ | assumption | refine Below.drew ?_ | refine Below.alloc ?_ (by simp <;> omega) _ | refine Below.setCell ?_ (by simp <;> omega) _))⟩
  · show Calls Tryz.prog 73 #[.int .i64 2] w fun e w' => e = .returned (.int .i64 360) ∧ Below w.heap.size w w'
    go_enter Tryz.func73, Tryz.ntmps73
    go_wp2
    go_ret
    exact ⟨rfl, by (repeat (first | exact Below.refl _ _ | assumption | refine Below.drew ?_ | refine Below.alloc ?_ (by simp <;> omega) _ | refine Below.setCell ?_ (by simp <;> omega) _))⟩
  · show Calls Tryz.prog 73 #[.int .i64 3] w fun e w' => e = .returned (.int .i64 8640) ∧ Below w.heap.size w w'
    go_enter Tryz.func73, Tryz.ntmps73
    go_wp2
    go_ret
    exact ⟨rfl, by (repeat (first | exact Below.refl _ _ | assumption | refine Below.drew ?_ | refine Below.alloc ?_ (by simp <;> omega) _ | refine Below.setCell ?_ (by simp <;> omega) _))⟩
  · omega

theorem C_rest (n : Int) (w : World) (hn : I64 n) : Calls Tryz.prog 71 #[.int .i64 n, .int .i64 8640] w fun e w' => e = .returned (.int .i64 (n % 8640)) ∧ w = w' := by
  obtain ⟨n1, n2⟩ := hn
  have b1 := Int.tmod_lt_of_pos n (b := 8640) (by omega)
  have b2 : -8640 < Int.tmod n 8640 := by have := Int.tmod_lt_of_pos (-n) (b := 8640) (by omega); rw [Int.neg_tmod] at this; omega
  have e1 : (Int.tmod n 8640 + 8640) % 8640 = n % 8640 := by
    rw [Int.add_emod_right]
    by_cases h : 0 ≤ n
    · rw [Int.tmod_eq_emod_of_nonneg h]; omega
    · have e : Int.tmod n 8640 = -((-n) % 8640) := by
        rw [← Int.tmod_eq_emod_of_nonneg (by omega), Int.neg_tmod]; omega
      rw [e]; omega
  have HE := Lib.hid e1
  clear e1
  go_enter Tryz.func71, Tryz.ntmps71
  go_wp2
  go_ret
  exact ⟨ret_i (by rw [HE.out]), rfl⟩

theorem C_times (d : Int) (w : World) (h0 : 0 ≤ d) (h1 : d ≤ 1000000000) : Calls Tryz.prog 72 #[.int .i64 d] w fun e w' => e = .returned (.int .i64 (d * 8640)) ∧ w = w' := by
  go_enter Tryz.func72, Tryz.ntmps72
  go_wp2
  go_ret
  exact ⟨rfl, rfl⟩
end Go.Proofs.YtbefkiebdokbdaaGreat.V
end

section
/- Contracts: cal.Coarsest, cal.Horizon. -/
namespace Go.Proofs.YtbefkiebdokbdaaGreat.V
open Go.RowKit
set_option linter.unusedVariables false
set_option maxRecDepth 100000

/-- The greatest level below k of which both are multiples. -/
def coar (start step : Int) : Nat → Nat
  | 0 => 0
  | k + 1 => if start % resN k = 0 ∧ step % resN k = 0 then k else coar start step k
theorem coar_lt (start step : Int) : ∀ k, coar start step k ≤ k
  | 0 => Nat.le_refl _
  | k + 1 => by unfold coar; split <;> have := coar_lt start step k <;> omega
theorem coar_3 (start step : Int) : coar start step 4 < 4 := by
  unfold coar
  split
  · omega
  · have := coar_lt start step 3; omega
set_option maxHeartbeats 1000000 in
theorem C_Coarsest (start step : Int) (w : World) (h0 : 0 ≤ start) (h1 : start ≤ 9223372036854775807) (h2 : 0 ≤ step) (h3 : step ≤ 9223372036854775807) :
    Calls Tryz.prog 38 #[.int .i64 start, .int .i64 step] w fun e w' => e = .returned (.int .i64 (coar start step 4)) ∧ Below w.heap.size w w' := by
  go_enter Tryz.func38, Tryz.ntmps38
  go_wp2_with fail
  go_loopw [5, 7] (fun l i wr => ∃ k : Nat, k ≤ 4 ∧ i = .int .i64 k ∧ l = .int .i64 (coar start step k) ∧ Below w.heap.size w wr) (fun _ i _ => 4 - (intOf i).toNat)
  case atStart => exact ⟨0, by omega, rfl, rfl, Below.refl _ _⟩
  case round =>
    obtain ⟨k, hk, rfl, rfl, hbl⟩ := hrel
    by_cases hlt : k < 4
    · have hr := resN_pos k
      have hrz : (resN k == 0) = false := by simp; omega
      have hrn : resN k ≠ 0 := by omega
      have hcs : coar start step (k + 1) = if start % resN k = 0 ∧ step % resN k = 0 then k else coar start step k := rfl
      have HC := Lib.hid hcs
      clear hcs
      have hsz := hbl.size
      have hwr : IntKind.i64.wrap (↑k + 1) = ↑k + 1 := IntWalk.i64_in _ (by omega)
      generalize hl : coar start step k = lv at *
      by_cases a : start % resN k = 0
      · have a1 : (start % resN k == 0) = true := by simpa using a
        by_cases b : step % resN k = 0
        · have b1 : (step % resN k == 0) = true := by simpa using b
          have HN := Lib.hid (HC.out.trans (if_pos ⟨a, b⟩))
          clear a b HC hsz
          go_wp2_with (go_at_call 73; refine (C_Res k hlt _).mono ?_; rintro e w1 ⟨rfl, hb1⟩; replace hbl := hbl.trans (hb1.mono hbl.size); clear hb1)
          go_roundw
          case rel => exact ⟨k + 1, by omega, by go_num, by rw [HN.out], hbl⟩
          case measure => simp [intOf]; omega
        · have b1 : (step % resN k == 0) = false := by simpa using b
          have HN := Lib.hid (HC.out.trans (if_neg (fun h => b h.2)))
          clear a b HC hsz
          go_wp2_with (go_at_call 73; refine (C_Res k hlt _).mono ?_; rintro e w1 ⟨rfl, hb1⟩; replace hbl := hbl.trans (hb1.mono hbl.size); clear hb1)
          go_roundw
          case rel => exact ⟨k + 1, by omega, by go_num, by rw [HN.out], hbl⟩
          case measure => simp [intOf]; omega
      · have a1 : (start % resN k == 0) = false := by simpa using a
        have HN := Lib.hid (HC.out.trans (if_neg (fun h => a h.1)))
        clear a HC hsz
        go_wp2_with (go_at_call 73; refine (C_Res k hlt _).mono ?_; rintro e w1 ⟨rfl, hb1⟩; replace hbl := hbl.trans (hb1.mono hbl.size); clear hb1)
        go_roundw
        case rel => exact ⟨k + 1, by omega, by go_num, by rw [HN.out], hbl⟩
        case measure => simp [intOf]; omega
    · obtain rfl : k = 4 := by omega
      go_wp2
      go_ret
      exact ⟨rfl, hbl⟩

structure Conf where
  slack : Int
  k0 : Int
  k1 : Int
  k2 : Int
  k3 : Int
@[reducible] def confL (c : Conf) : List Value := [.int .i64 c.slack, .int .i64 c.k0, .int .i64 c.k1, .int .i64 c.k2, .int .i64 c.k3]
def Conf.keep (c : Conf) (k : Nat) : Int := match k with | 0 => c.k0 | 1 => c.k1 | 2 => c.k2 | _ => c.k3
def hzn (keep now : Int) : Int := if now / 8640 ≤ keep then 0 else (now / 8640 - keep) * 8640
theorem C_Horizon (c : Conf) (now : Int) (k : Nat) (w : World) (hk : k < 4) (h0 : 0 ≤ now) (h1 : now ≤ 1099511627776) (hc0 : 1 ≤ c.k0 ∧ c.k0 ≤ 100000) (hc1 : 1 ≤ c.k1 ∧ c.k1 ≤ 100000) (hc2 : 1 ≤ c.k2 ∧ c.k2 ≤ 100000) (hc3 : 1 ≤ c.k3 ∧ c.k3 ≤ 100000) :
    Calls Tryz.prog 37 #[.agg (confL c).toArray, .int .i64 now, .int .i64 k] w fun e w' => e = .returned (.int .i64 (hzn (c.keep k) now)) ∧ Below w.heap.size w w' := by
  obtain ⟨sl, q0, q1, q2, q3⟩ := c
  dsimp only at hc0 hc1 hc2 hc3
  have e1 : (now - now % 8640) / 8640 = now / 8640 := by omega
  have b1 : 0 ≤ now - now % 8640 := by omega
  have key : ∀ (q : Int) (lv : Int), 1 ≤ q ∧ q ≤ 100000 → (lv = 0 ∧ q = q0 ∨ lv = 1 ∧ q = q1 ∨ lv = 2 ∧ q = q2 ∨ lv = 3 ∧ q = q3) →
      Calls Tryz.prog 37 #[.agg #[.int .i64 sl, .int .i64 q0, .int .i64 q1, .int .i64 q2, .int .i64 q3], .int .i64 now, .int .i64 lv] w fun e w' => e = .returned (.int .i64 (hzn q now)) ∧ Below w.heap.size w w' := by
    intro q lv hq hl
    obtain ⟨m1, m2⟩ := hq
    have HE := Lib.hid e1
    have HH := Lib.hid (show hzn q now = if now / 8640 ≤ q then 0 else (now / 8640 - q) * 8640 from rfl)
    generalize hd : now / 8640 = d at *
    have hd1 : 0 ≤ d ∧ d ≤ 200000000 := by omega
    obtain ⟨hd1, hd2⟩ := hd1
    have hr1 : 0 ≤ now % 8640 := by omega
    have hr2 : now % 8640 ≤ now := by omega
    clear hd HE
    have mx0 : max (0 : Int) (min 0 3) = 0 := by decide
    have mx1 : max (0 : Int) (min 1 3) = 1 := by decide
    have mx2 : max (0 : Int) (min 2 3) = 2 := by decide
    have mx3 : max (0 : Int) (min 3 3) = 3 := by decide
    have mx4 : max (0 : Int) 3 = 3 := by decide
    rcases hl with ⟨rfl, rfl⟩ | ⟨rfl, rfl⟩ | ⟨rfl, rfl⟩ | ⟨rfl, rfl⟩
    all_goals
      by_cases hle : d ≤ q
      · have HR := Lib.hid (HH.out.trans (if_pos hle))
        go_enter Tryz.func37, Tryz.ntmps37
        go_wp2_with (go_at_call 71; refine (C_rest now _ ⟨by omega, by omega⟩).mono ?_; rintro e w1 ⟨rfl, rfl⟩)
        go_ret
        exact ⟨ret_i (by rw [HR.out]), by (repeat (first | exact Below.refl _ _ | assumption | refine Below.drew ?_ | refine Below.alloc ?_ (by simp <;> omega) _ | refine Below.setCell ?_ (by simp <;> omega) _))⟩
      · have HR := Lib.hid (HH.out.trans (if_neg hle))
        go_enter Tryz.func37, Tryz.ntmps37
        go_wp2_with (go_at_call 71; refine (C_rest now _ ⟨by omega, by omega⟩).mono ?_; rintro e w1 ⟨rfl, rfl⟩)
        rw [e1]
        refine (C_times (d - q) _ (by omega) (by omega)).mono ?_
        rintro e w1 ⟨rfl, rfl⟩
        go_wp2
        go_ret
        exact ⟨ret_i (by rw [HR.out]), by (repeat (first | exact Below.refl _ _ | assumption | refine Below.drew ?_ | refine Below.alloc ?_ (by simp <;> omega) _ | refine Below.setCell ?_ (by simp <;> omega) _))⟩
  rcases k with _ | _ | _ | _ | k
  · exact key q0 0 hc0 (by simp)
  · exact key q1 1 hc1 (by simp)
  · exact key q2 2 hc2 (by simp)
  · exact key q3 3 hc3 (by simp)
  · omega
end Go.Proofs.YtbefkiebdokbdaaGreat.V
end
