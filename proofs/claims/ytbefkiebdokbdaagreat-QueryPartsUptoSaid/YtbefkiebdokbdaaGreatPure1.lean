/- Pure laws on counts: no program in sight. -/
import Derived.Test.YtbefkiebdokbdaaGreatWin0
namespace Go.Proofs.YtbefkiebdokbdaaGreat.V
open Go.RowKit
set_option linter.unusedVariables false
set_option maxRecDepth 100000

theorem hBk_wf {h : List Int} (hw : ∀ x ∈ h, U64 x) : ∀ k, ∀ b ∈ hBk h k, 0 ≤ b.at_ ∧ b.at_ < k ∧ b.n ≠ 0 ∧ U64 b.n
  | 0, b, hb => by simp [hBk] at hb
  | k + 1, b, hb => by
    have ih := hBk_wf hw k
    rw [hBk] at hb
    split at hb
    · rename_i hp
      rcases List.mem_append.1 hb with hb | hb
      · obtain ⟨h1, h2, h3⟩ := ih b hb
        exact ⟨h1, by omega, h3⟩
      · have e : b = ⟨k, h.getD k 0⟩ := by simpa using hb
        subst e
        refine ⟨by show (0 : Int) ≤ (k : Int); omega, by show (k : Int) < ((k + 1 : Nat) : Int); omega, by show h.getD k 0 ≠ 0; omega, ?_⟩
        show U64 (h.getD k 0)
        by_cases hk : k < h.length
        · have : h.getD k 0 = h[k] := by simp [hk]
          rw [this]; exact hw _ (List.getElem_mem hk)
        · have : h.getD k 0 = 0 := by simp [List.getD, hk]
          rw [this]; unfold U64; omega
    · obtain ⟨h1, h2, h3⟩ := ih b hb
      exact ⟨h1, by omega, h3⟩
theorem sumH_wf {l : List Sketch} (h : ∀ s ∈ l, ∀ b ∈ s.hist, U64 b.n) : (sumH l).length = 7424 ∧ ∀ v ∈ sumH l, U64 v := by
  unfold sumH
  have : ∀ (l : List Sketch) (g : List Int), g.length = 7424 → (∀ v ∈ g, U64 v) → (∀ s ∈ l, ∀ b ∈ s.hist, U64 b.n) → (l.foldl (fun h s => hAdd h s.hist) g).length = 7424 ∧ ∀ v ∈ l.foldl (fun h s => hAdd h s.hist) g, U64 v := by
    intro l
    induction l with
    | nil => intro g h1 h2 _; exact ⟨h1, h2⟩
    | cons x l ih =>
      intro g h1 h2 h3
      have := hAdd_wf (l := x.hist) h1 h2 (fun b hb => h3 x (by simp) b hb)
      exact ih _ this.1 this.2 (fun s hs => h3 s (by simp [hs]))
  exact this l h0 h0_len h0_wf h
theorem cntS_U64 {l : List Sketch} (h : ∀ s ∈ l, ∀ b ∈ s.hist, U64 b.n) : U64 (cntS l) := by
  unfold cntS
  refine hUp_U64 (hAdd_wf h0_len h0_wf (fun b hb => ?_)).2 7424
  exact (hBk_wf (sumH_wf h).2 7424 b hb).2.2.2

theorem satAdd_zero {x : Int} (hx : U64 x) : satAdd 0 x = x := by
  unfold U64 at hx; unfold satAdd; split <;> omega
/-- The buckets of a count, laid anew, are the count. -/
theorem hAdd_hBk_gen {N : Nat} {H : List Int} (hl : H.length = N) (hw : ∀ x ∈ H, U64 x) : ∀ k, k ≤ N → hAdd (List.replicate N 0) (hBk H k) = H.take k ++ List.replicate (N - k) 0
  | 0, _ => by simp [hBk, hAdd]
  | k + 1, hk => by
    have ih := hAdd_hBk_gen hl hw k (by omega)
    have hkl : k < H.length := by omega
    have hg : H.getD k 0 = H[k] := by simp [hkl]
    have hu := hw _ (List.getElem_mem hkl)
    have ht : H.take (k + 1) = H.take k ++ [H[k]] := List.take_succ_eq_append_getElem hkl
    have hr : List.replicate (N - k) (0 : Int) = 0 :: List.replicate (N - (k + 1)) 0 := by
      rw [show N - k = (N - (k + 1)) + 1 by omega, List.replicate_succ]
    rw [hBk]
    split
    · unfold hAdd at ih ⊢
      rw [List.foldl_append, ih, hr]
      show hAdd1 _ ⟨k, H.getD k 0⟩ = _
      unfold hAdd1
      have e1 : ((k : Int)).toNat = k := by omega
      have e2 : (H.take k ++ 0 :: List.replicate (N - (k + 1)) 0).getD k 0 = 0 := by
        simp [List.getD, List.getElem?_append_right, Nat.min_eq_left (Nat.le_of_lt hkl)]
      simp only [e1, e2, hg]
      have hlt : (H.take k).length = k := by rw [List.length_take]; omega
      rw [satAdd_zero hu, List.set_append_right _ _ (by omega), hlt, Nat.sub_self, List.set_cons_zero, ht, List.append_assoc]
      rfl
    · rename_i hn
      have h0' : H[k] = 0 := by rw [hg] at hn; unfold U64 at hu; omega
      rw [ih, hr, ht, h0']; simp
theorem hAdd_hBk {H : List Int} (hl : H.length = 7424) (hw : ∀ x ∈ H, U64 x) : hAdd h0 (hBk H 7424) = H := by
  have := hAdd_hBk_gen hl hw 7424 (Nat.le_refl _)
  rw [Nat.sub_self, List.replicate_zero, List.append_nil, List.take_of_length_le (by omega)] at this
  exact this
end Go.Proofs.YtbefkiebdokbdaaGreat.V
