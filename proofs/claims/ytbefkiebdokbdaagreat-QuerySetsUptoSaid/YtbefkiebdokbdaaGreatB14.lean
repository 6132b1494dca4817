/- Part 14 of the proof: Label. -/
import Derived.Deep.QuietTactic
import Derived.BigQuiet
import Derived.Test.YtbefkiebdokbdaaGreatB1

section
/- Contracts of package label: Name, Check, Value. -/
namespace Go.Proofs.YtbefkiebdokbdaaGreat.V
open Go.RowKit
set_option linter.unusedVariables false
set_option maxRecDepth 100000

/-- The truth of a proposition, as a Bool. -/
noncomputable def tr (p : Prop) : Bool := @decide p (Classical.propDecidable p)
theorem tr_iff {p : Prop} : tr p = true ↔ p := by unfold tr; exact @decide_eq_true_iff p (Classical.propDecidable p)
theorem tr_yes {p : Prop} (h : p) : tr p = true := tr_iff.2 h
theorem tr_no {p : Prop} (h : ¬ p) : tr p = false := by cases e : tr p with | false => rfl | true => exact absurd (tr_iff.1 e) h
theorem tr_congr {p q : Prop} (h : p ↔ q) : tr p = tr q := by
  by_cases hp : p
  · rw [tr_yes hp, tr_yes (h.1 hp)]
  · rw [tr_no hp, tr_no (fun c => hp (h.2 c))]
theorem ret_yes {p : Prop} (h : p) : Ending.returned (.bool true) = .returned (.bool (tr p)) := by rw [tr_yes h]
theorem ret_no {p : Prop} (h : ¬ p) : Ending.returned (.bool false) = .returned (.bool (tr p)) := by rw [tr_no h]

def chOk (c : UInt8) : Prop := (97 ≤ c.toNat ∧ c.toNat ≤ 122) ∨ (48 ≤ c.toNat ∧ c.toNat ≤ 57) ∨ c.toNat = 95
/-- May a text be a label's name? -/
def NameP (s : ByteArray) : Prop := 1 ≤ s.size ∧ s.size ≤ 32 ∧ (∀ h : 0 < s.size, ¬ (48 ≤ s[0].toNat ∧ s[0].toNat ≤ 57)) ∧ ∀ j, (h : j < s.size) → chOk s[j]

set_option maxHeartbeats 2000000 in
theorem C_label_Name (s : ByteArray) (w : World) (hs : StrOk s) :
    Calls Tryz.prog 124 #[.string s] w fun e w' => e = .returned (.bool (tr (NameP s))) ∧ w = w' := by
  unfold StrOk at hs
  by_cases h1 : s.size < 1
  · go_enter Tryz.func124, Tryz.ntmps124
    go_wp2
    go_ret
    exact ⟨ret_no (fun h => by have := h.1; omega), rfl⟩
  by_cases h2 : 32 < s.size
  · go_enter Tryz.func124, Tryz.ntmps124
    go_wp2
    go_ret
    exact ⟨ret_no (fun h => by have := h.2.1; omega), rfl⟩
  have h0 : 0 < s.size := by omega
  by_cases h3 : 48 ≤ s[0].toNat ∧ s[0].toNat ≤ 57
  · obtain ⟨h4, h5⟩ := h3
    go_enter Tryz.func124, Tryz.ntmps124
    go_wp2
    go_ret
    exact ⟨ret_no (fun h => h.2.2.1 h0 ⟨h4, h5⟩), rfl⟩
  · have h6 : (s[0].toNat < 48) ∨ (57 < s[0].toNat) := by omega
    have H3 := Lib.hid h3
    clear h3
    rcases h6 with h6 | h6
    all_goals
      go_enter Tryz.func124, Tryz.ntmps124
      go_wp2_with fail
      go_loop [3, 4, 25] (fun _ _ i => ∃ (k : Nat), k ≤ s.size ∧ i = .int .i64 k ∧ ∀ j, (h : j < s.size) → j < k → chOk s[j]) (fun _ _ i => s.size - (intOf i).toNat)
      case atStart => exact ⟨0, Nat.zero_le _, rfl, fun j h hj => by omega⟩
      case round =>
        obtain ⟨k, hk, rfl, hpre⟩ := hrel
        have HP := Lib.hid hpre
        clear hpre h6
        by_cases hlt : k < s.size
        · by_cases hok : chOk s[k]
          · have HO := Lib.hid hok
            have hcl := hok
            unfold chOk at hcl
            clear hok
            rcases hcl with ⟨a, b⟩ | ⟨a, b⟩ | a
            · go_wp2
              go_round
              case rel => exact ⟨k + 1, by omega, by go_num, fun j h hj => by
                by_cases e : j = k
                · subst e; exact HO.out
                · exact HP.out j h (by omega)⟩
              case measure => simp [intOf]; omega
            · go_wp2
              go_round
              case rel => exact ⟨k + 1, by omega, by go_num, fun j h hj => by
                by_cases e : j = k
                · subst e; exact HO.out
                · exact HP.out j h (by omega)⟩
              case measure => simp [intOf]; omega
            · go_wp2
              go_round
              case rel => exact ⟨k + 1, by omega, by go_num, fun j h hj => by
                by_cases e : j = k
                · subst e; exact HO.out
                · exact HP.out j h (by omega)⟩
              case measure => simp [intOf]; omega
          · have HO := Lib.hid hok
            have h7 : s[k].toNat ≠ 95 := fun c => hok (.inr (.inr c))
            have h8 : s[k].toNat < 48 ∨ (57 < s[k].toNat ∧ s[k].toNat < 97) ∨ 122 < s[k].toNat := by
              unfold chOk at hok; omega
            have h9 : ((s[k].toNat : Int) == 95) = false := by simp; omega
            have h10 : ((s[k].toNat : Int) != 95) = true := by simp; omega
            clear hok
            have fin : ∀ W : World, Ending.returned (.bool false) = .returned (.bool (tr (NameP s))) := fun W => ret_no (fun h => HO.out (h.2.2.2 k hlt))
            have FIN := Lib.hid fin
            clear fin
            rcases h8 with a | ⟨a, b⟩ | a
            · go_wp2
              go_ret
              exact ⟨FIN.out w, rfl⟩
            · go_wp2
              go_ret
              exact ⟨FIN.out w, rfl⟩
            · go_wp2
              go_ret
              exact ⟨FIN.out w, rfl⟩
        · go_wp2
          go_ret
          exact ⟨ret_yes ⟨by omega, by omega, fun h => H3.out, fun j h => HP.out j h (by omega)⟩, rfl⟩
end Go.Proofs.YtbefkiebdokbdaaGreat.V
end
