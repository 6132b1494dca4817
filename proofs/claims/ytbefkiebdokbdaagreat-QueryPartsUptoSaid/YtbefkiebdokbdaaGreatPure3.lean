/- Pure laws: the sum of sketches that may be, may be. -/
import Derived.Test.YtbefkiebdokbdaaGreatPure2
namespace Go.Proofs.YtbefkiebdokbdaaGreat.V
open Go.RowKit
set_option linter.unusedVariables false
set_option maxRecDepth 100000

theorem sumK_ok (l : List Sketch) : Rising (sumK l) ∧ (sumK l).length ≤ 1024 := by
  unfold sumK
  have one : ∀ (xs ks : List Int), Rising ks → ks.length ≤ 1024 → Rising (kAll ks xs) ∧ (kAll ks xs).length ≤ 1024 := by
    intro xs
    induction xs with
    | nil => intro ks h1 h2; exact ⟨h1, h2⟩
    | cons x xs ih => intro ks h1 h2; exact ih _ (kIns_rising h1) (kIns_len ks x)
  have gen : ∀ (l : List Sketch) (ks : List Int), Rising ks → ks.length ≤ 1024 → Rising (l.foldl (fun k s => kAll k s.hashes) ks) ∧ (l.foldl (fun k s => kAll k s.hashes) ks).length ≤ 1024 := by
    intro l
    induction l with
    | nil => intro ks h1 h2; exact ⟨h1, h2⟩
    | cons x l ih => intro ks h1 h2; have := one x.hashes ks h1 h2; exact ih _ this.1 this.2
  exact gen l [] List.Pairwise.nil (by simp)
theorem kchk_sum (l : List Sketch) : kchk (sumK l) = true := by
  have := sumK_ok l
  unfold kchk; rw [decide_eq_true_iff]; exact ⟨this.2, this.1⟩
theorem chk_of : ∀ {l : List Bucket} {last : Int}, (∀ b ∈ l, last < b.at_ ∧ b.at_ < 7424 ∧ b.n ≠ 0) → l.Pairwise (fun a b => a.at_ < b.at_) → chk last l = true
  | [], _, _, _ => rfl
  | x :: l, last, h, hp => by
    obtain ⟨h1, h2, h3⟩ := h x (by simp)
    obtain ⟨p1, p2⟩ := List.pairwise_cons.1 hp
    rw [chk, if_neg (by rintro (c | c | c) <;> omega)]
    exact chk_of (fun b hb => by have := h b (by simp [hb]); exact ⟨p1 b hb, this.2.1, this.2.2⟩) p2
theorem hBk_up {h : List Int} (hw : ∀ x ∈ h, U64 x) : ∀ k, (hBk h k).Pairwise (fun a b => a.at_ < b.at_)
  | 0 => by simp [hBk]
  | k + 1 => by
    have ih := hBk_up hw k
    rw [hBk]
    split
    · rw [List.pairwise_append]
      refine ⟨ih, by simp, fun a ha b hb => ?_⟩
      have e : b = ⟨k, h.getD k 0⟩ := by simpa using hb
      have := (hBk_wf hw k a ha).2.1
      rw [e]; exact this
    · exact ih
theorem chk_hBk {h : List Int} (hw : ∀ x ∈ h, U64 x) : chk (-1) (hBk h 7424) = true :=
  chk_of (fun b hb => by obtain ⟨h1, h2, h3, _⟩ := hBk_wf hw 7424 b hb; exact ⟨by omega, by omega, h3⟩) (hBk_up hw 7424)

theorem fLess_irr {a b : Int} (h1 : fNaN a = false) (h2 : fNaN b = false) : fLess a b = decide (fKey a < fKey b) := by unfold fLess; rw [h1, h2]; rfl
theorem gCheck_merge {a b : Gauge} (wa : a.wf) (wb : b.wf) (ha : gCheck a = true) (hb : gCheck b = true) : gCheck (gMerge a b) = true := by
  obtain ⟨⟨a1, a1'⟩, _⟩ := wa
  obtain ⟨⟨b1, b1'⟩, _⟩ := wb
  by_cases ea : a.n = 0
  · have e1 : (gMerge a b).lo = b.lo := by simp [gMerge, ea]
    have e2 : (gMerge a b).hi = b.hi := by simp [gMerge, ea]
    have e3 : (gMerge a b).n = b.n := by simp only [gMerge, satAdd, ea]; split <;> omega
    unfold gCheck at hb ⊢
    rw [e1, e2, e3]; exact hb
  · by_cases eb : b.n = 0
    · have e1 : (gMerge a b).lo = a.lo := by simp [gMerge, ea, eb]
      have e2 : (gMerge a b).hi = a.hi := by simp [gMerge, ea, eb]
      have e3 : (gMerge a b).n = a.n := by simp only [gMerge, satAdd, eb]; split <;> omega
      unfold gCheck at ha ⊢
      rw [e1, e2, e3]; exact ha
    · have e3 : (gMerge a b).n ≠ 0 := by simp only [gMerge, satAdd]; split <;> omega
      unfold gCheck at ha hb ⊢
      rw [if_neg ea] at ha
      rw [if_neg eb] at hb
      rw [if_neg e3]
      simp only [Bool.and_eq_true, Bool.not_eq_true'] at ha hb ⊢
      obtain ⟨⟨p1, p2⟩, p3⟩ := ha
      obtain ⟨⟨q1, q2⟩, q3⟩ := hb
      have e1 : (gMerge a b).lo = if fLess b.lo a.lo = true then b.lo else a.lo := by simp [gMerge, ea, eb]
      have e2 : (gMerge a b).hi = if fLess a.hi b.hi = true then b.hi else a.hi := by simp [gMerge, ea, eb]
      rw [fLess_irr q1 p1] at e1
      rw [fLess_irr p2 q2] at e2
      rw [fLess_irr p2 p1, decide_eq_false_iff_not] at p3
      rw [fLess_irr q2 q1, decide_eq_false_iff_not] at q3
      simp only [decide_eq_true_eq] at e1 e2
      rw [e1, e2]
      split <;> split <;> simp_all [fLess_irr] <;> omega
theorem gCheck_sum {l : List Sketch} (hw : ∀ s ∈ l, s.gauge.wf) (hc : ∀ s ∈ l, gCheck s.gauge = true) : gCheck (sumG l) = true := by
  unfold sumG
  have gen : ∀ (l : List Sketch) (g : Gauge), g.wf → gCheck g = true → (∀ s ∈ l, s.gauge.wf) → (∀ s ∈ l, gCheck s.gauge = true) → gCheck (l.foldl (fun g s => gMerge g s.gauge) g) = true := by
    intro l
    induction l with
    | nil => intro g _ h _ _; exact h
    | cons x l ih => intro g h1 h2 h3 h4; exact ih _ (gMerge_wf h1 (h3 x (by simp))) (gCheck_merge h1 (h3 x (by simp)) h2 (h4 x (by simp))) (fun s hs => h3 s (by simp [hs])) (fun s hs => h4 s (by simp [hs]))
  exact gen l _ (by simp [Gauge.wf, U64]) (by simp [gCheck]) hw hc
theorem pCheck_sum {l : List Sketch} (hb : ∀ s ∈ l, HistOk s) (hw : ∀ s ∈ l, s.gauge.wf) (hc : ∀ s ∈ l, pCheck s = true) : pCheck (sumS l) = true ∧ (sumG l).wf := by
  have h1 := chk_hBk (sumH_wf (l := l) (fun s hs b h => (hb s hs b h).1)).2
  have h3 := gCheck_sum hw (fun s hs => by have := hc s hs; unfold pCheck at this; rw [Bool.and_eq_true] at this; exact this.2)
  refine ⟨?_, sumG_wf hw⟩
  unfold pCheck sumS
  rw [h1, kchk_sum l, h3]; rfl
end Go.Proofs.YtbefkiebdokbdaaGreat.V
