/- Part 33 of the proof: Ref11. -/
import Derived.BigGuardPart
import Derived.WalkLawsBesides
import Derived.Test.YtbefkiebdokbdaaGreatB15

section
/- The reference's label: Name. -/
namespace Go.Proofs.YtbefkiebdokbdaaGreat.V
open Go.RowKit
set_option linter.unusedVariables false
set_option maxRecDepth 100000

/-- A byte that may stand at a place of a name. -/
def refCh (c k : Nat) : Prop := c = 95 ∨ (97 ≤ c ∧ c ≤ 122) ∨ (48 ≤ c ∧ c ≤ 57 ∧ k ≠ 0)
theorem NameP_ref (s : ByteArray) : NameP s ↔ (1 ≤ s.size ∧ s.size ≤ 32 ∧ ∀ j, (h : j < s.size) → refCh s[j].toNat j) := by
  unfold NameP
  constructor
  · rintro ⟨h1, h2, h3, h4⟩
    refine ⟨h1, h2, fun j hj => ?_⟩
    have := h4 j hj
    unfold chOk at this
    unfold refCh
    by_cases e : j = 0
    · subst e; have := h3 hj; omega
    · omega
  · rintro ⟨h1, h2, h3⟩
    refine ⟨h1, h2, fun h => ?_, fun j hj => ?_⟩
    · have := h3 0 h; unfold refCh at this; omega
    · have := h3 j hj; unfold refCh at this; unfold chOk; omega
set_option maxHeartbeats 2000000 in
theorem C_ref_Name (s : ByteArray) (w : World) (hs : StrOk s) :
    Calls Tryz.prog 66 #[.string s] w fun e w' => e = .returned (.bool (tr (NameP s))) ∧ w = w' := by
  unfold StrOk at hs
  rw [tr_congr (NameP_ref s)]
  obtain ⟨r, hr⟩ : ∃ r, r = tr (1 ≤ s.size ∧ s.size ≤ 32 ∧ ∀ j, (h : j < s.size) → refCh s[j].toNat j) := ⟨_, rfl⟩
  rw [← hr]
  have NO : ∀ k, (h : k < s.size) → ¬ refCh s[k].toNat k → r = false := fun k h hn => by rw [hr]; exact tr_no (fun c => hn (c.2.2 k h))
  have YES : (∀ j, (h : j < s.size) → refCh s[j].toNat j) → r = (decide (1 ≤ (s.size : Int)) && decide ((s.size : Int) ≤ 32)) := fun h => by
    rw [hr, Bool.eq_iff_iff, tr_iff, Bool.and_eq_true, decide_eq_true_iff, decide_eq_true_iff]
    exact ⟨fun c => ⟨by omega, by omega⟩, fun c => ⟨by omega, by omega, h⟩⟩
  have HNO := Lib.hid NO
  have HYES := Lib.hid YES
  clear NO YES hr
  go_enter Tryz.func66, Tryz.ntmps66
  go_wp2_with fail
  go_loop [3, 4] (fun i _ => ∃ k : Nat, k ≤ s.size ∧ i = .int .i64 k ∧ ∀ j, (h : j < s.size) → j < k → refCh s[j].toNat j) (fun i _ => s.size - (intOf i).toNat)
  case atStart => exact ⟨0, Nat.zero_le _, rfl, fun j h hj => by omega⟩
  case round =>
    obtain ⟨k, hk, rfl, hpre⟩ := hrel
    have HP := Lib.hid hpre
    clear hpre
    by_cases hlt : k < s.size
    · have hno := HNO.out k hlt
      have hyes : refCh s[k].toNat k → ∀ j, (h : j < s.size) → j < k + 1 → refCh s[j].toNat j := fun h j hj hjk => by
        by_cases e : j = k
        · subst e; exact h
        · exact HP.out j hj (by omega)
      have HN := Lib.hid hno
      have HY := Lib.hid hyes
      clear hno hyes HNO HYES HP
      by_cases e0 : k = 0
      · subst e0
        go_wp2
        all_goals first
          | (go_ret; exact ⟨ret_b (HN.out (by unfold refCh; omega)).symm, rfl⟩)
          | (go_round
             case rel => exact ⟨1, by omega, by go_num, HY.out (by unfold refCh; omega)⟩
             case measure => (simp [intOf]; omega))
      · have hk0 : ((k : Int) == 0) = false := by simp; omega
        go_wp2
        all_goals first
          | (go_ret; exact ⟨ret_b (HN.out (by unfold refCh; omega)).symm, rfl⟩)
          | (go_round
             case rel => exact ⟨k + 1, by omega, by go_num, HY.out (by unfold refCh; omega)⟩
             case measure => (simp [intOf]; omega))
    · have hkk : k = s.size := by omega
      subst hkk
      have hy := HYES.out (fun j hj => HP.out j hj hj)
      have HY := Lib.hid hy
      clear hy HNO HYES HP
      go_wp2
      all_goals
        go_ret
        exact ⟨ret_b (by rw [HY.out, Bool.eq_iff_iff]; simp; omega), rfl⟩
end Go.Proofs.YtbefkiebdokbdaaGreat.V
end
