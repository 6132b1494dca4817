/- Part 35 of the proof: Ref11b. -/
import Derived.Test.YtbefkiebdokbdaaGreatB31
import Derived.Test.YtbefkiebdokbdaaGreatB33
import Derived.Test.YtbefkiebdokbdaaGreatB34

section
/- varveref11.Check: it answers. -/
namespace Go.Proofs.YtbefkiebdokbdaaGreat.V
open Go.RowKit
set_option linter.unusedVariables false
set_option maxRecDepth 100000

set_option maxHeartbeats 4000000 in
theorem C_ref11_Check (ok : Nat → Prop) (A : Option Addr) (cap : Nat) (xs : List Label) (w : World) (hr : Sl ok w A xs) :
    Calls Tryz.prog 29 #[.slice A xs.length cap] w fun e w' => (∃ r : Bool, e = .returned (.bool r)) ∧ Below w.heap.size w w' := by
  have hlen := hr.1
  go_enter Tryz.func29, Tryz.ntmps29
  go_wp2_with fail
  go_loopw [3] (fun i wr => ∃ k : Nat, k ≤ xs.length ∧ i = .int .i64 k ∧ Below w.heap.size w wr) (fun i _ => xs.length - (intOf i).toNat)
  case atStart => exact ⟨0, Nat.zero_le _, rfl, Below.refl _ _⟩
  case round =>
    obtain ⟨k, hk, rfl, hbl⟩ := hrel
    by_cases hlt : k < xs.length
    · have hsl := hr.below hbl
      obtain ⟨b, off, rfl, hob, hlb, n0, v0, hsn, hsv⟩ := hsl.label hlt
      have i1 : (0 : Int) ≤ (k : Int) := by omega
      have i2 : (k : Int) < (xs.length : Int) := by omega
      have hfin : ∀ n, Below w.heap.size w (wr.drewN n) := fun n => bdn hbl n
      have HF := Lib.hid hfin
      clear hfin
      generalize xs[k].name = nm at *
      generalize xs[k].value = vl at *
      have hnm : ∀ W, Calls Tryz.prog 66 #[.string nm] W fun e w' => e = .returned (.bool (tr (NameP nm))) ∧ w' = W := fun W => (C_ref_Name nm W hsn).mono fun e w' h => ⟨h.1, h.2.symm⟩
      generalize tr (NameP nm) = nb at hnm
      have HN := Lib.hid hnm
      clear hnm
      go_wp2_with fail
      cases nb
      · skip
        go_quiet ((go_at_call 66; exact Calls.quiet_of_same (HN.out _)))
        go_wp2
        go_ret
        exact ⟨⟨_, rfl⟩, HF.out _⟩
      by_cases h1 : vl.size < 1
      · have d1 : decide ((vl.size : Int) < 1) = true := by rw [decide_eq_true_iff]; omega
        go_quiet ((go_at_call 66; exact Calls.quiet_of_same (HN.out _)))
        go_wp2
        go_ret
        exact ⟨⟨_, rfl⟩, HF.out _⟩
      have d1 : decide ((vl.size : Int) < 1) = false := by rw [decide_eq_false_iff_not]; omega
      by_cases h2 : 64 < vl.size
      · have d2 : decide ((64 : Int) < (vl.size : Int)) = true := by rw [decide_eq_true_iff]; omega
        have d2' : decide (64 < vl.size) = true := by rw [decide_eq_true_iff]; omega
        go_quiet ((go_at_call 66; exact Calls.quiet_of_same (HN.out _)))
        go_wp2
        go_ret
        exact ⟨⟨_, rfl⟩, HF.out _⟩
      have d2 : decide ((64 : Int) < (vl.size : Int)) = false := by rw [decide_eq_false_iff_not]; omega
      have d2' : decide (64 < vl.size) = false := by rw [decide_eq_false_iff_not]; omega
      by_cases h3 : k = 0
      · have d3 : decide ((0 : Int) < (k : Int)) = false := by rw [decide_eq_false_iff_not]; omega
        have d3' : decide (0 < k) = false := by rw [decide_eq_false_iff_not]; omega
        clear h3
        go_quiet ((go_at_call 66; exact Calls.quiet_of_same (HN.out _)))
        go_wp2
        go_roundw
        case rel => exact ⟨k + 1, by omega, by go_num, HF.out _⟩
        case measure => simp [intOf]; omega
      have d3 : decide ((0 : Int) < (k : Int)) = true := by rw [decide_eq_true_iff]; omega
      have d3' : decide (0 < k) = true := by rw [decide_eq_true_iff]; omega
      obtain ⟨b', off', e', _, _, p0, _, _, _⟩ := hsl.label (k := k - 1) (by omega)
      cases e'
      generalize xs[k - 1].name = pn at *
      have hs : IntKind.i64.wrap ((k : Int) - 1) = (k : Int) - 1 := IntWalk.i64_in _ (by omega)
      have hs1 : (0 : Int) ≤ (k : Int) - 1 := by omega
      have hs2 : ((k : Int) - 1).toNat = k - 1 := by omega
      have hs3 : (k : Int) - 1 < (xs.length : Int) := by omega
      cases hLe : strLe nm pn
      · unfold strLe at hLe
        rw [Bool.or_eq_false_iff] at hLe
        obtain ⟨hl1, hl2⟩ := hLe
        go_quiet ((go_at_call 66; exact Calls.quiet_of_same (HN.out _)))
        go_wp2
        go_roundw
        case rel => exact ⟨k + 1, by omega, by go_num, HF.out _⟩
        case measure => simp [intOf]; omega
      · unfold strLe at hLe
        rw [Bool.or_eq_true] at hLe
        rcases hLe with hLe | hLe
        · skip
          go_quiet ((go_at_call 66; exact Calls.quiet_of_same (HN.out _)))
          go_wp2
          go_ret
          exact ⟨⟨_, rfl⟩, HF.out _⟩
        · skip
          go_quiet ((go_at_call 66; exact Calls.quiet_of_same (HN.out _)))
          go_wp2
          go_ret
          exact ⟨⟨_, rfl⟩, HF.out _⟩
    · by_cases q1 : xs.length < 1
      · have e1 : decide (1 ≤ xs.length) = false := by rw [decide_eq_false_iff_not]; omega
        have e1' : decide ((1 : Int) ≤ (xs.length : Int)) = false := by rw [decide_eq_false_iff_not]; omega
        go_wp2
        go_ret
        exact ⟨⟨_, rfl⟩, hbl⟩
      · have e1 : decide (1 ≤ xs.length) = true := by rw [decide_eq_true_iff]; omega
        have e1' : decide ((1 : Int) ≤ (xs.length : Int)) = true := by rw [decide_eq_true_iff]; omega
        go_wp2
        go_ret
        exact ⟨⟨_, rfl⟩, hbl⟩
end Go.Proofs.YtbefkiebdokbdaaGreat.V
end
