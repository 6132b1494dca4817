/- Contracts of package pair: Check. -/
import Derived.Test.YtbefkiebdokbdaaGreatGauge
import Derived.Test.YtbefkiebdokbdaaGreatHist3
import Derived.Test.YtbefkiebdokbdaaGreatSort6
import Derived.Test.YtbefkiebdokbdaaGreatLabel2
namespace Go.Proofs.YtbefkiebdokbdaaGreat.V
open Go.RowKit
set_option linter.unusedVariables false
set_option maxRecDepth 100000

theorem bcell {w w' : World} {b off : Nat} {v : Value} (h : Below w.heap.size w w') (hc : w.cell? ⟨b, off, none⟩ = some v) : w'.cell? ⟨b, off, none⟩ = some v := by
  have hl : b < w.heap.size := by
    by_cases hl : b < w.heap.size
    · exact hl
    · have : w.heap[b]? = none := by rw [Array.getElem?_eq_none_iff]; omega
      simp [World.cell?, this] at hc
  exact (World.cell?_of_block (h.block b hl)).trans hc

/-- A sketch as a value. -/
@[reducible] def sketchV (A1 : Option Addr) (c1 : Nat) (A2 : Option Addr) (c2 : Nat) (s : Sketch) : Value :=
  .agg #[.slice A1 s.hist.length c1, .slice A2 s.hashes.length c2, .int .u64 s.gauge.n, .int .u64 s.gauge.nans, .int .u64 s.gauge.lo, .int .u64 s.gauge.hi]
def pCheck (s : Sketch) : Bool := chk (-1) s.hist && kchk s.hashes && gCheck s.gauge

theorem C_pair_Check (ok : Nat → Prop) (A1 : Option Addr) (c1 : Nat) (A2 : Option Addr) (c2 : Nat) (s : Sketch) (w : World) (h1 : Sl ok w A1 s.hist) (h2 : Sl ok w A2 s.hashes) (hg : s.gauge.wf) :
    Calls Tryz.prog 117 #[sketchV A1 c1 A2 c2 s] w fun e w' => e = .returned (.bool (pCheck s)) ∧ Below w.heap.size w w' := by
  have hp : pCheck s = (chk (-1) s.hist && kchk s.hashes && gCheck s.gauge) := rfl
  generalize pCheck s = r at *
  have HP := Lib.hid hp
  clear hp
  have hc1 := fun w h => C_hist_Check ok A1 c1 s.hist w h
  have hc2 := fun w h => C_kmv_Check ok A2 c2 s.hashes w h
  have hc3 := fun w => C_gauge_Check s.gauge w hg
  go_enter Tryz.func117, Tryz.ntmps117
  go_wp2_with fail
  obtain ⟨W, hW⟩ : ∃ W, W = w.alloc (.cells #[.slice A1 s.hist.length c1, .slice A2 s.hashes.length c2, .int .u64 s.gauge.n, .int .u64 s.gauge.nans, .int .u64 s.gauge.lo, .int .u64 s.gauge.hi] 44) := ⟨_, rfl⟩
  rw [← hW]
  have hbW : Below w.heap.size w W := hW ▸ (Below.refl _ _).alloc (Nat.le_refl _) _
  have x1 : W.cell? ⟨w.heap.size, 1, none⟩ = some (.slice A2 s.hashes.length c2) := by rw [hW]; simp
  have x2 : W.cell? ⟨w.heap.size, 2, none⟩ = some (.int .u64 s.gauge.n) := by rw [hW]; simp
  have x3 : W.cell? ⟨w.heap.size, 3, none⟩ = some (.int .u64 s.gauge.nans) := by rw [hW]; simp
  have x4 : W.cell? ⟨w.heap.size, 4, none⟩ = some (.int .u64 s.gauge.lo) := by rw [hW]; simp
  have x5 : W.cell? ⟨w.heap.size, 5, none⟩ = some (.int .u64 s.gauge.hi) := by rw [hW]; simp
  clear hW
  refine (hc1 _ (h1.below hbW)).mono ?_
  rintro e w1 ⟨rfl, hb1⟩
  have hbw1 := hbW.trans (hb1.mono hbW.size)
  replace x1 := bcell hb1 x1
  replace x2 := bcell hb1 x2
  replace x3 := bcell hb1 x3
  replace x4 := bcell hb1 x4
  replace x5 := bcell hb1 x5
  cases hc : chk (-1) s.hist
  · go_wp2
    go_ret
    exact ⟨ret_b (by rw [HP.out, hc]; rfl), hbw1⟩
  · go_wp2_with fail
    refine (hc2 _ (h2.below hbw1)).mono ?_
    rintro e w2 ⟨rfl, hb2⟩
    have hbw2 := hbw1.trans (hb2.mono hbw1.size)
    replace x2 := bcell hb2 x2
    replace x3 := bcell hb2 x3
    replace x4 := bcell hb2 x4
    replace x5 := bcell hb2 x5
    cases hk : kchk s.hashes
    · go_wp2
      go_ret
      exact ⟨ret_b (by rw [HP.out, hc, hk]; rfl), hbw2⟩
    · go_wp2_with fail
      refine (hc3 _).mono ?_
      rintro e w3 ⟨rfl, hb3⟩
      have hbw3 := hbw2.trans (hb3.mono hbw2.size)
      go_wp2
      go_ret
      exact ⟨ret_b (by rw [HP.out, hc, hk]; rfl), hbw3⟩
end Go.Proofs.YtbefkiebdokbdaaGreat.V
