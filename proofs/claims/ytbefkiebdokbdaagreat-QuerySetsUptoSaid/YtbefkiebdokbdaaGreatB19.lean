/- Part 19 of the proof: Pure1, Pure2, Pure3. -/
import Derived.Test.YtbefkiebdokbdaaGreatB16

section
/- Pure laws on counts: no program in sight. -/
namespace Go.Proofs.YtbefkiebdokbdaaGreat.V
open Go.RowKit
set_option linter.unusedVariables false
set_option maxRecDepth 100000

theorem hBk_wf {h : List Int} (hw : ∀ x ∈ h, U64 x) : ∀ k, ∀ b ∈ hBk h k, 0 ≤ b.at_ ∧ b.at_ < k ∧ b.n ≠ 0 ∧ U64 b.n
  | 0, b, hb => by simp [hBk] at hb
  | k + 1, b, hb => by
    have ih := hBk_wf hw k
    rw [hBk] at hb
    split at hb
    · rename_i hp
      rcases List.mem_append.1 hb with hb | hb
      · obtain ⟨h1, h2, h3⟩ := ih b hb
        exact ⟨h1, by omega, h3⟩
      · have e : b = ⟨k, h.getD k 0⟩ := by simpa using hb
        subst e
        refine ⟨by show (0 : Int) ≤ (k : Int); omega, by show (k : Int) < ((k + 1 : Nat) : Int); omega, by show h.getD k 0 ≠ 0; omega, ?_⟩
        show U64 (h.getD k 0)
        by_cases hk : k < h.length
        · have : h.getD k 0 = h[k] := by simp [hk]
          rw [this]; exact hw _ (List.getElem_mem hk)
        · have : h.getD k 0 = 0 := by simp [List.getD, hk]
          rw [this]; unfold U64; omega
    · obtain ⟨h1, h2, h3⟩ := ih b hb
      exact ⟨h1, by omega, h3⟩
theorem sumH_wf {l : List Sketch} (h : ∀ s ∈ l, ∀ b ∈ s.hist, U64 b.n) : (sumH l).length = 7424 ∧ ∀ v ∈ sumH l, U64 v := by
  unfold sumH
  have : ∀ (l : List Sketch) (g : List Int), g.length = 7424 → (∀ v ∈ g, U64 v) → (∀ s ∈ l, ∀ b ∈ s.hist, U64 b.n) → (l.foldl (fun h s => hAdd h s.hist) g).length = 7424 ∧ ∀ v ∈ l.foldl (fun h s => hAdd h s.hist) g, U64 v := by
    intro l
    induction l with
    | nil => intro g h1 h2 _; exact ⟨h1, h2⟩
    | cons x l ih =>
      intro g h1 h2 h3
      have := hAdd_wf (l := x.hist) h1 h2 (fun b hb => h3 x (by simp) b hb)
      exact ih _ this.1 this.2 (fun s hs => h3 s (by simp [hs]))
  exact this l h0 h0_len h0_wf h
theorem cntS_U64 {l : List Sketch} (h : ∀ s ∈ l, ∀ b ∈ s.hist, U64 b.n) : U64 (cntS l) := by
  unfold cntS
  refine hUp_U64 (hAdd_wf h0_len h0_wf (fun b hb => ?_)).2 7424
  exact (hBk_wf (sumH_wf h).2 7424 b hb).2.2.2

theorem satAdd_zero {x : Int} (hx : U64 x) : satAdd 0 x = x := by
  unfold U64 at hx; unfold satAdd; split <;> omega
/-- The buckets of a count, laid anew, are the count. -/
theorem hAdd_hBk_gen {N : Nat} {H : List Int} (hl : H.length = N) (hw : ∀ x ∈ H, U64 x) : ∀ k, k ≤ N → hAdd (List.replicate N 0) (hBk H k) = H.take k ++ List.replicate (N - k) 0
  | 0, _ => by simp [hBk, hAdd]
  | k + 1, hk => by
    have ih := hAdd_hBk_gen hl hw k (by omega)
    have hkl : k < H.length := by omega
    have hg : H.getD k 0 = H[k] := by simp [hkl]
    have hu := hw _ (List.getElem_mem hkl)
    have ht : H.take (k + 1) = H.take k ++ [H[k]] := List.take_succ_eq_append_getElem hkl
    have hr : List.replicate (N - k) (0 : Int) = 0 :: List.replicate (N - (k + 1)) 0 := by
      rw [show N - k = (N - (k + 1)) + 1 by omega, List.replicate_succ]
    rw [hBk]
    split
    · unfold hAdd at ih ⊢
      rw [List.foldl_append, ih, hr]
      show hAdd1 _ ⟨k, H.getD k 0⟩ = _
      unfold hAdd1
      have e1 : ((k : Int)).toNat = k := by omega
      have e2 : (H.take k ++ 0 :: List.replicate (N - (k + 1)) 0).getD k 0 = 0 := by
        simp [List.getD, List.getElem?_append_right, Nat.min_eq_left (Nat.le_of_lt hkl)]
      simp only [e1, e2, hg]
      have hlt : (H.take k).length = k := by rw [List.length_take]; omega
      rw [satAdd_zero hu, List.set_append_right _ _ (by omega), hlt, Nat.sub_self, List.set_cons_zero, ht, List.append_assoc]
      rfl
    · rename_i hn
      have h0' : H[k] = 0 := by rw [hg] at hn; unfold U64 at hu; omega
      rw [ih, hr, ht, h0']; simp
theorem hAdd_hBk {H : List Int} (hl : H.length = 7424) (hw : ∀ x ∈ H, U64 x) : hAdd h0 (hBk H 7424) = H := by
  have := hAdd_hBk_gen hl hw 7424 (Nat.le_refl _)
  rw [Nat.sub_self, List.replicate_zero, List.append_nil, List.take_of_length_le (by omega)] at this
  exact this
end Go.Proofs.YtbefkiebdokbdaaGreat.V
end

section
/- Pure laws: what a window counts is the sum, held at Most. -/
namespace Go.Proofs.YtbefkiebdokbdaaGreat.V
open Go.RowKit
set_option linter.unusedVariables false
set_option maxRecDepth 100000

def cap64 (x : Int) : Int := if x ≤ 18446744073709551615 then x else 18446744073709551615
theorem satAdd_cap (a b : Int) : satAdd a b = cap64 (a + b) := rfl
theorem foldl_cap : ∀ (l : List Int) (a : Int), (∀ x ∈ l, 0 ≤ x) → l.foldl satAdd (cap64 a) = cap64 (a + l.sum)
  | [], a, _ => by simp
  | x :: l, a, h => by
    have hx := h x (by simp)
    have e : satAdd (cap64 a) x = cap64 (a + x) := by
      rw [satAdd_cap]; unfold cap64; split <;> split <;> (try split) <;> omega
    rw [List.foldl_cons, e, foldl_cap l (a + x) (fun y hy => h y (by simp [hy])), List.sum_cons]
    congr 1; omega
theorem hUp_cap {h : List Int} (hl : h.length = 7424) (hw : ∀ x ∈ h, U64 x) : hUp h 7424 = cap64 h.sum := by
  unfold hUp
  rw [List.take_of_length_le (by omega)]
  have := foldl_cap h 0 (fun x hx => (hw x hx).1)
  rw [Int.zero_add] at this
  exact this
theorem sum_set : ∀ (h : List Int) (i : Nat) (v : Int), i < h.length → (h.set i v).sum = h.sum - h.getD i 0 + v
  | [], i, v, hi => by simp at hi
  | x :: h, 0, v, _ => by simp [List.getD]; omega
  | x :: h, i + 1, v, hi => by
    have := sum_set h i v (by simpa using hi)
    rw [List.set_cons_succ, List.sum_cons, List.sum_cons, this]
    simp [List.getD]; omega
theorem sum_nonneg : ∀ {h : List Int}, (∀ x ∈ h, 0 ≤ x) → 0 ≤ h.sum
  | [], _ => by simp
  | x :: h, hh => by
    have := sum_nonneg (h := h) (fun y hy => hh y (by simp [hy]))
    have := hh x (by simp)
    rw [List.sum_cons]; omega
theorem getD_le_sum : ∀ {h : List Int} (i : Nat), (∀ x ∈ h, 0 ≤ x) → h.getD i 0 ≤ h.sum
  | [], i, _ => by simp [List.getD]
  | x :: h, 0, hh => by
    have := sum_nonneg (h := h) (fun y hy => hh y (by simp [hy]))
    simp [List.getD]; omega
  | x :: h, i + 1, hh => by
    have h1 := getD_le_sum (h := h) i (fun y hy => hh y (by simp [hy]))
    have h2 := hh x (by simp)
    simp [List.getD] at h1 ⊢; omega
/-- Two sums that are the same, held at Most. -/
def Same64 (a b : Int) : Prop := cap64 a = cap64 b
theorem Same64.add {a b : Int} (h : Same64 a b) {n : Int} (hn : 0 ≤ n) : Same64 (a + n) (b + n) := by
  unfold Same64 cap64 at *; split at h <;> split at h <;> (split <;> split <;> omega)
theorem hAdd_sum : ∀ {l : List Bucket} {h : List Int}, h.length = 7424 → (∀ v ∈ h, U64 v) → (∀ x ∈ l, U64 x.n ∧ 0 ≤ x.at_ ∧ x.at_ < 7424) → Same64 (hAdd h l).sum (h.sum + (l.map (·.n)).sum)
  | [], h, _, _, _ => by simp [hAdd, Same64]
  | x :: l, h, hl, hw, hx => by
    obtain ⟨hu, h1, h2⟩ := hx x (by simp)
    have hi : x.at_.toNat < h.length := by omega
    have w1 := hAdd1_wf hl hw hu
    have ih := hAdd_sum (l := l) (h := hAdd1 h x) w1.1 w1.2 (fun y hy => hx y (by simp [hy]))
    have hle := getD_le_sum x.at_.toNat (fun v hv => (hw v hv).1)
    have hs : Same64 (hAdd1 h x).sum (h.sum + x.n) := by
      unfold hAdd1
      rw [sum_set _ _ _ hi]
      unfold satAdd Same64 cap64
      have := hu.1
      split <;> split <;> split <;> omega
    have hn : 0 ≤ (l.map (·.n)).sum := sum_nonneg (fun v hv => by obtain ⟨b, hb, rfl⟩ := List.mem_map.1 hv; exact (hx b (by simp [hb])).1.1)
    have := hs.add hn
    show Same64 (hAdd (hAdd1 h x) l).sum _
    rw [List.map_cons, List.sum_cons, ← Int.add_assoc]
    exact ih.trans this
/-- All that sketches have seen. -/
def tot (l : List Sketch) : Int := (l.map (fun s => (s.hist.map (·.n)).sum)).sum
theorem sumH_snoc (l : List Sketch) (s : Sketch) : sumH (l ++ [s]) = hAdd (sumH l) s.hist := by unfold sumH; rw [List.foldl_append]; rfl
theorem tot_append (l l' : List Sketch) : tot (l ++ l') = tot l + tot l' := by unfold tot; rw [List.map_append, List.sum_append]
theorem sumH_tot {l : List Sketch} (h : ∀ s ∈ l, HistOk s) : Same64 (sumH l).sum (tot l) := by
  have gen : ∀ (l : List Sketch) (g : List Int), g.length = 7424 → (∀ v ∈ g, U64 v) → (∀ s ∈ l, HistOk s) → Same64 (l.foldl (fun h s => hAdd h s.hist) g).sum (g.sum + tot l) := by
    intro l
    induction l with
    | nil => intro g _ _ _; simp [tot, Same64]
    | cons x l ih =>
      intro g h1 h2 h3
      have hx := h3 x (by simp)
      have w1 := hAdd_wf (l := x.hist) h1 h2 (fun b hb => (hx b hb).1)
      have a1 := hAdd_sum h1 h2 hx
      have a2 := ih _ w1.1 w1.2 (fun s hs => h3 s (by simp [hs]))
      have hn : 0 ≤ tot l := sum_nonneg (fun v hv => by
        obtain ⟨s, hs, rfl⟩ := List.mem_map.1 hv
        exact sum_nonneg (fun v hv => by obtain ⟨b, hb, rfl⟩ := List.mem_map.1 hv; exact (h3 s (by simp [hs]) b hb).1.1))
      have e : g.sum + tot (x :: l) = g.sum + (x.hist.map (·.n)).sum + tot l := by unfold tot; rw [List.map_cons, List.sum_cons]; omega
      rw [e]
      exact a2.trans (a1.add hn)
  have := gen l h0 h0_len h0_wf h
  have hz : h0.sum = 0 := by
    unfold h0
    have : ∀ n, (List.replicate n (0 : Int)).sum = 0 := fun n => by induction n with
      | zero => rfl
      | succ n ih => rw [List.replicate_succ, List.sum_cons, ih]; rfl
    exact this _
  rw [hz, Int.zero_add] at this
  exact this
/-- **What a window counts: all that its sketches have seen, held at Most.** -/
theorem cntS_eq {l : List Sketch} (h : ∀ s ∈ l, HistOk s) : cntS l = cap64 (tot l) := by
  have hw := sumH_wf (l := l) (fun s hs b hb => (h s hs b hb).1)
  unfold cntS
  rw [hAdd_hBk hw.1 hw.2, hUp_cap hw.1 hw.2]
  exact sumH_tot h
end Go.Proofs.YtbefkiebdokbdaaGreat.V
end

section
/- Pure laws: the sum of sketches that may be, may be. -/
namespace Go.Proofs.YtbefkiebdokbdaaGreat.V
open Go.RowKit
set_option linter.unusedVariables false
set_option maxRecDepth 100000

theorem sumK_ok (l : List Sketch) : Rising (sumK l) ∧ (sumK l).length ≤ 1024 := by
  unfold sumK
  have one : ∀ (xs ks : List Int), Rising ks → ks.length ≤ 1024 → Rising (kAll ks xs) ∧ (kAll ks xs).length ≤ 1024 := by
    intro xs
    induction xs with
    | nil => intro ks h1 h2; exact ⟨h1, h2⟩
    | cons x xs ih => intro ks h1 h2; exact ih _ (kIns_rising h1) (kIns_len ks x)
  have gen : ∀ (l : List Sketch) (ks : List Int), Rising ks → ks.length ≤ 1024 → Rising (l.foldl (fun k s => kAll k s.hashes) ks) ∧ (l.foldl (fun k s => kAll k s.hashes) ks).length ≤ 1024 := by
    intro l
    induction l with
    | nil => intro ks h1 h2; exact ⟨h1, h2⟩
    | cons x l ih => intro ks h1 h2; have := one x.hashes ks h1 h2; exact ih _ this.1 this.2
  exact gen l [] List.Pairwise.nil (by simp)
theorem kchk_sum (l : List Sketch) : kchk (sumK l) = true := by
  have := sumK_ok l
  unfold kchk; rw [decide_eq_true_iff]; exact ⟨this.2, this.1⟩
theorem chk_of : ∀ {l : List Bucket} {last : Int}, (∀ b ∈ l, last < b.at_ ∧ b.at_ < 7424 ∧ b.n ≠ 0) → l.Pairwise (fun a b => a.at_ < b.at_) → chk last l = true
  | [], _, _, _ => rfl
  | x :: l, last, h, hp => by
    obtain ⟨h1, h2, h3⟩ := h x (by simp)
    obtain ⟨p1, p2⟩ := List.pairwise_cons.1 hp
    rw [chk, if_neg (by rintro (c | c | c) <;> omega)]
    exact chk_of (fun b hb => by have := h b (by simp [hb]); exact ⟨p1 b hb, this.2.1, this.2.2⟩) p2
theorem hBk_up {h : List Int} (hw : ∀ x ∈ h, U64 x) : ∀ k, (hBk h k).Pairwise (fun a b => a.at_ < b.at_)
  | 0 => by simp [hBk]
  | k + 1 => by
    have ih := hBk_up hw k
    rw [hBk]
    split
    · rw [List.pairwise_append]
      refine ⟨ih, by simp, fun a ha b hb => ?_⟩
      have e : b = ⟨k, h.getD k 0⟩ := by simpa using hb
      have := (hBk_wf hw k a ha).2.1
      rw [e]; exact this
    · exact ih
theorem chk_hBk {h : List Int} (hw : ∀ x ∈ h, U64 x) : chk (-1) (hBk h 7424) = true :=
  chk_of (fun b hb => by obtain ⟨h1, h2, h3, _⟩ := hBk_wf hw 7424 b hb; exact ⟨by omega, by omega, h3⟩) (hBk_up hw 7424)

theorem fLess_irr {a b : Int} (h1 : fNaN a = false) (h2 : fNaN b = false) : fLess a b = decide (fKey a < fKey b) := by unfold fLess; rw [h1, h2]; rfl
theorem gCheck_merge {a b : Gauge} (wa : a.wf) (wb : b.wf) (ha : gCheck a = true) (hb : gCheck b = true) : gCheck (gMerge a b) = true := by
  obtain ⟨⟨a1, a1'⟩, _⟩ := wa
  obtain ⟨⟨b1, b1'⟩, _⟩ := wb
  by_cases ea : a.n = 0
  · have e1 : (gMerge a b).lo = b.lo := by simp [gMerge, ea]
    have e2 : (gMerge a b).hi = b.hi := by simp [gMerge, ea]
    have e3 : (gMerge a b).n = b.n := by simp only [gMerge, satAdd, ea]; split <;> omega
    unfold gCheck at hb ⊢
    rw [e1, e2, e3]; exact hb
  · by_cases eb : b.n = 0
    · have e1 : (gMerge a b).lo = a.lo := by simp [gMerge, ea, eb]
      have e2 : (gMerge a b).hi = a.hi := by simp [gMerge, ea, eb]
      have e3 : (gMerge a b).n = a.n := by simp only [gMerge, satAdd, eb]; split <;> omega
      unfold gCheck at ha ⊢
      rw [e1, e2, e3]; exact ha
    · have e3 : (gMerge a b).n ≠ 0 := by simp only [gMerge, satAdd]; split <;> omega
      unfold gCheck at ha hb ⊢
      rw [if_neg ea] at ha
      rw [if_neg eb] at hb
      rw [if_neg e3]
      simp only [Bool.and_eq_true, Bool.not_eq_true'] at ha hb ⊢
      obtain ⟨⟨p1, p2⟩, p3⟩ := ha
      obtain ⟨⟨q1, q2⟩, q3⟩ := hb
      have e1 : (gMerge a b).lo = if fLess b.lo a.lo = true then b.lo else a.lo := by simp [gMerge, ea, eb]
      have e2 : (gMerge a b).hi = if fLess a.hi b.hi = true then b.hi else a.hi := by simp [gMerge, ea, eb]
      rw [fLess_irr q1 p1] at e1
      rw [fLess_irr p2 q2] at e2
      rw [fLess_irr p2 p1, decide_eq_false_iff_not] at p3
      rw [fLess_irr q2 q1, decide_eq_false_iff_not] at q3
      simp only [decide_eq_true_eq] at e1 e2
      rw [e1, e2]
      split <;> split <;> simp_all [fLess_irr] <;> omega
theorem gCheck_sum {l : List Sketch} (hw : ∀ s ∈ l, s.gauge.wf) (hc : ∀ s ∈ l, gCheck s.gauge = true) : gCheck (sumG l) = true := by
  unfold sumG
  have gen : ∀ (l : List Sketch) (g : Gauge), g.wf → gCheck g = true → (∀ s ∈ l, s.gauge.wf) → (∀ s ∈ l, gCheck s.gauge = true) → gCheck (l.foldl (fun g s => gMerge g s.gauge) g) = true := by
    intro l
    induction l with
    | nil => intro g _ h _ _; exact h
    | cons x l ih => intro g h1 h2 h3 h4; exact ih _ (gMerge_wf h1 (h3 x (by simp))) (gCheck_merge h1 (h3 x (by simp)) h2 (h4 x (by simp))) (fun s hs => h3 s (by simp [hs])) (fun s hs => h4 s (by simp [hs]))
  exact gen l _ (by simp [Gauge.wf, U64]) (by simp [gCheck]) hw hc
theorem pCheck_sum {l : List Sketch} (hb : ∀ s ∈ l, HistOk s) (hw : ∀ s ∈ l, s.gauge.wf) (hc : ∀ s ∈ l, pCheck s = true) : pCheck (sumS l) = true ∧ (sumG l).wf := by
  have h1 := chk_hBk (sumH_wf (l := l) (fun s hs b h => (hb s hs b h).1)).2
  have h3 := gCheck_sum hw (fun s hs => by have := hc s hs; unfold pCheck at this; rw [Bool.and_eq_true] at this; exact this.2)
  refine ⟨?_, sumG_wf hw⟩
  unfold pCheck sumS
  rw [h1, kchk_sum l, h3]; rfl
end Go.Proofs.YtbefkiebdokbdaaGreat.V
end
