/- Pure laws: what a window counts is the sum, held at Most. -/
import Derived.Test.YtbefkiebdokbdaaGreatPure1
namespace Go.Proofs.YtbefkiebdokbdaaGreat.V
open Go.RowKit
set_option linter.unusedVariables false
set_option maxRecDepth 100000

def cap64 (x : Int) : Int := if x ≤ 18446744073709551615 then x else 18446744073709551615
theorem satAdd_cap (a b : Int) : satAdd a b = cap64 (a + b) := rfl
theorem foldl_cap : ∀ (l : List Int) (a : Int), (∀ x ∈ l, 0 ≤ x) → l.foldl satAdd (cap64 a) = cap64 (a + l.sum)
  | [], a, _ => by simp
  | x :: l, a, h => by
    have hx := h x (by simp)
    have e : satAdd (cap64 a) x = cap64 (a + x) := by
      rw [satAdd_cap]; unfold cap64; split <;> split <;> (try split) <;> omega
    rw [List.foldl_cons, e, foldl_cap l (a + x) (fun y hy => h y (by simp [hy])), List.sum_cons]
    congr 1; omega
theorem hUp_cap {h : List Int} (hl : h.length = 7424) (hw : ∀ x ∈ h, U64 x) : hUp h 7424 = cap64 h.sum := by
  unfold hUp
  rw [List.take_of_length_le (by omega)]
  have := foldl_cap h 0 (fun x hx => (hw x hx).1)
  rw [Int.zero_add] at this
  exact this
theorem sum_set : ∀ (h : List Int) (i : Nat) (v : Int), i < h.length → (h.set i v).sum = h.sum - h.getD i 0 + v
  | [], i, v, hi => by simp at hi
  | x :: h, 0, v, _ => by simp [List.getD]; omega
  | x :: h, i + 1, v, hi => by
    have := sum_set h i v (by simpa using hi)
    rw [List.set_cons_succ, List.sum_cons, List.sum_cons, this]
    simp [List.getD]; omega
theorem sum_nonneg : ∀ {h : List Int}, (∀ x ∈ h, 0 ≤ x) → 0 ≤ h.sum
  | [], _ => by simp
  | x :: h, hh => by
    have := sum_nonneg (h := h) (fun y hy => hh y (by simp [hy]))
    have := hh x (by simp)
    rw [List.sum_cons]; omega
theorem getD_le_sum : ∀ {h : List Int} (i : Nat), (∀ x ∈ h, 0 ≤ x) → h.getD i 0 ≤ h.sum
  | [], i, _ => by simp [List.getD]
  | x :: h, 0, hh => by
    have := sum_nonneg (h := h) (fun y hy => hh y (by simp [hy]))
    simp [List.getD]; omega
  | x :: h, i + 1, hh => by
    have h1 := getD_le_sum (h := h) i (fun y hy => hh y (by simp [hy]))
    have h2 := hh x (by simp)
    simp [List.getD] at h1 ⊢; omega
/-- Two sums that are the same, held at Most. -/
def Same64 (a b : Int) : Prop := cap64 a = cap64 b
theorem Same64.add {a b : Int} (h : Same64 a b) {n : Int} (hn : 0 ≤ n) : Same64 (a + n) (b + n) := by
  unfold Same64 cap64 at *; split at h <;> split at h <;> (split <;> split <;> omega)
theorem hAdd_sum : ∀ {l : List Bucket} {h : List Int}, h.length = 7424 → (∀ v ∈ h, U64 v) → (∀ x ∈ l, U64 x.n ∧ 0 ≤ x.at_ ∧ x.at_ < 7424) → Same64 (hAdd h l).sum (h.sum + (l.map (·.n)).sum)
  | [], h, _, _, _ => by simp [hAdd, Same64]
  | x :: l, h, hl, hw, hx => by
    obtain ⟨hu, h1, h2⟩ := hx x (by simp)
    have hi : x.at_.toNat < h.length := by omega
    have w1 := hAdd1_wf hl hw hu
    have ih := hAdd_sum (l := l) (h := hAdd1 h x) w1.1 w1.2 (fun y hy => hx y (by simp [hy]))
    have hle := getD_le_sum x.at_.toNat (fun v hv => (hw v hv).1)
    have hs : Same64 (hAdd1 h x).sum (h.sum + x.n) := by
      unfold hAdd1
      rw [sum_set _ _ _ hi]
      unfold satAdd Same64 cap64
      have := hu.1
      split <;> split <;> split <;> omega
    have hn : 0 ≤ (l.map (·.n)).sum := sum_nonneg (fun v hv => by obtain ⟨b, hb, rfl⟩ := List.mem_map.1 hv; exact (hx b (by simp [hb])).1.1)
    have := hs.add hn
    show Same64 (hAdd (hAdd1 h x) l).sum _
    rw [List.map_cons, List.sum_cons, ← Int.add_assoc]
    exact ih.trans this
/-- All that sketches have seen. -/
def tot (l : List Sketch) : Int := (l.map (fun s => (s.hist.map (·.n)).sum)).sum
theorem sumH_snoc (l : List Sketch) (s : Sketch) : sumH (l ++ [s]) = hAdd (sumH l) s.hist := by unfold sumH; rw [List.foldl_append]; rfl
theorem tot_append (l l' : List Sketch) : tot (l ++ l') = tot l + tot l' := by unfold tot; rw [List.map_append, List.sum_append]
theorem sumH_tot {l : List Sketch} (h : ∀ s ∈ l, HistOk s) : Same64 (sumH l).sum (tot l) := by
  have gen : ∀ (l : List Sketch) (g : List Int), g.length = 7424 → (∀ v ∈ g, U64 v) → (∀ s ∈ l, HistOk s) → Same64 (l.foldl (fun h s => hAdd h s.hist) g).sum (g.sum + tot l) := by
    intro l
    induction l with
    | nil => intro g _ _ _; simp [tot, Same64]
    | cons x l ih =>
      intro g h1 h2 h3
      have hx := h3 x (by simp)
      have w1 := hAdd_wf (l := x.hist) h1 h2 (fun b hb => (hx b hb).1)
      have a1 := hAdd_sum h1 h2 hx
      have a2 := ih _ w1.1 w1.2 (fun s hs => h3 s (by simp [hs]))
      have hn : 0 ≤ tot l := sum_nonneg (fun v hv => by
        obtain ⟨s, hs, rfl⟩ := List.mem_map.1 hv
        exact sum_nonneg (fun v hv => by obtain ⟨b, hb, rfl⟩ := List.mem_map.1 hv; exact (h3 s (by simp [hs]) b hb).1.1))
      have e : g.sum + tot (x :: l) = g.sum + (x.hist.map (·.n)).sum + tot l := by unfold tot; rw [List.map_cons, List.sum_cons]; omega
      rw [e]
      exact a2.trans (a1.add hn)
  have := gen l h0 h0_len h0_wf h
  have hz : h0.sum = 0 := by
    unfold h0
    have : ∀ n, (List.replicate n (0 : Int)).sum = 0 := fun n => by induction n with
      | zero => rfl
      | succ n ih => rw [List.replicate_succ, List.sum_cons, ih]; rfl
    exact this _
  rw [hz, Int.zero_add] at this
  exact this
/-- **What a window counts: all that its sketches have seen, held at Most.** -/
theorem cntS_eq {l : List Sketch} (h : ∀ s ∈ l, HistOk s) : cntS l = cap64 (tot l) := by
  have hw := sumH_wf (l := l) (fun s hs b hb => (h s hs b hb).1)
  unfold cntS
  rw [hAdd_hBk hw.1 hw.2, hUp_cap hw.1 hw.2]
  exact sumH_tot h
end Go.Proofs.YtbefkiebdokbdaaGreat.V
