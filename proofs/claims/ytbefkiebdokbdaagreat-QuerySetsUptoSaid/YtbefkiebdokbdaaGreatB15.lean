/- Part 15 of the proof: Label2. -/
import Derived.Deep.RegionWith
import Derived.Deep.RegionHeld3
import Derived.Test.YtbefkiebdokbdaaGreatB0
import Derived.Test.YtbefkiebdokbdaaGreatB14

section
/- Contracts of package label: Check. -/
namespace Go.Proofs.YtbefkiebdokbdaaGreat.V
open Go.RowKit
set_option linter.unusedVariables false
set_option maxRecDepth 100000

theorem Sl.label {ok : Nat → Prop} {w : World} {A : Option Addr} {xs : List Label} (h : Sl ok w A xs) {k : Nat} (hk : k < xs.length) :
    ∃ b off, A = some ⟨b, off, none⟩ ∧ ok b ∧ b < w.heap.size ∧ w.cell? ⟨b, off + k * 2, none⟩ = some (.string xs[k].name) ∧ w.cell? ⟨b, off + k * 2 + 1, none⟩ = some (.string xs[k].value) ∧ StrOk xs[k].name ∧ StrOk xs[k].value := by
  obtain ⟨b, off, vs, rfl, hv, hc⟩ := h.at_ hk
  obtain ⟨rfl, h1, h2⟩ := hv
  exact ⟨b, off, rfl, hc.1, hc.2.1, hc.c0, hc.c1, h1, h2⟩

theorem bdn {n : Nat} {w w' : World} (h : Below n w w') (k : Nat) : Below n w (w'.drewN k) := ⟨h.os, h.tape, h.output, h.size, h.block⟩
/-- The model's order on texts. -/
def strLe (a b : ByteArray) : Bool := Op.bytesLess a.toList b.toList || (a.toList == b.toList)
/-- What a label must be, behind its fore-runner. -/
def LabelP (xs : List Label) (k : Nat) : Prop := ∃ h : k < xs.length, NameP xs[k].name ∧ 1 ≤ xs[k].value.size ∧ xs[k].value.size ≤ 64 ∧ (0 < k → strLe xs[k].name (xs[k - 1]'(by omega)).name = false)
/-- May a set of labels be? -/
def LabelsP (xs : List Label) : Prop := 1 ≤ xs.length ∧ xs.length ≤ 8 ∧ ∀ k, k < xs.length → LabelP xs k
def RLabels (w : World) (xs : List Label) (e : Ending) (w' : World) : Prop := e = .returned (.bool (tr (LabelsP xs))) ∧ Below w.heap.size w w'
theorem RLabels.no {w w' : World} {xs : List Label} (h : ¬ LabelsP xs) (hb : Below w.heap.size w w') : RLabels w xs (.returned (.bool false)) w' := ⟨ret_no h, hb⟩

set_option maxHeartbeats 4000000 in
theorem C_label_Check (ok : Nat → Prop) (A : Option Addr) (cap : Nat) (xs : List Label) (w : World) (hr : Sl ok w A xs) :
    Calls Tryz.prog 116 #[.slice A xs.length cap] w (RLabels w xs) := by
  have hlen := hr.1
  by_cases h1 : xs.length < 1
  · go_enter Tryz.func116, Tryz.ntmps116
    go_wp2
    go_ret
    exact .no (fun h => by have := h.1; omega) (Below.refl _ _)
  by_cases h2 : 8 < xs.length
  · go_enter Tryz.func116, Tryz.ntmps116
    go_wp2
    go_ret
    exact .no (fun h => by have := h.2.1; omega) (Below.refl _ _)
  go_enter Tryz.func116, Tryz.ntmps116
  go_wp2_with fail
  go_loopw [3, 4, 15] (fun _ _ i wr => ∃ (k : Nat), k ≤ xs.length ∧ i = .int .i64 k ∧ (∀ j, j < k → LabelP xs j) ∧ Below w.heap.size w wr) (fun _ _ i _ => xs.length - (intOf i).toNat)
  case atStart => exact ⟨0, Nat.zero_le _, rfl, fun j hj => by omega, Below.refl _ _⟩
  case round =>
    obtain ⟨k, hk, rfl, hpre, hbl⟩ := hrel
    have HP := Lib.hid hpre
    clear hpre
    by_cases hlt : k < xs.length
    · have hsl := hr.below hbl
      obtain ⟨b, off, rfl, hob, hlb, hc1, hc2, hn, hv⟩ := hsl.label hlt
      go_wp2_with fail
      have hx1 : (wr.alloc (.cells #[.string xs[k].name, .string xs[k].value] 111)).cell? ⟨wr.heap.size, 0, none⟩ = some (.string xs[k].name) := by simp
      have hx2 : (wr.alloc (.cells #[.string xs[k].name, .string xs[k].value] 111)).cell? ⟨wr.heap.size, 1, none⟩ = some (.string xs[k].value) := by simp
      have hslW := hsl.below ((Below.refl _ _).alloc (Nat.le_refl _) (.cells #[.string xs[k].name, .string xs[k].value] 111))
      have hbW := hbl.alloc hbl.size (.cells #[.string xs[k].name, .string xs[k].value] 111)
      generalize wr.alloc (.cells #[.string xs[k].name, .string xs[k].value] 111) = W at hx1 hx2 hslW hbW ⊢
      have NO : (¬ LabelP xs k) → ∀ n, RLabels w xs (.returned (.bool false)) (W.drewN n) := fun h n => .no (fun c => h (c.2.2 k hlt)) (bdn hbW n)
      have YES : LabelP xs k → ∀ j, j < k + 1 → LabelP xs j := fun h j hj => by
        by_cases e : j = k
        · exact e ▸ h
        · exact HP.out j (by omega)
      have NO' := Lib.hid NO
      have YES' := Lib.hid YES
      clear NO YES
      have eK : LabelP xs k ↔ (NameP xs[k].name ∧ 1 ≤ xs[k].value.size ∧ xs[k].value.size ≤ 64 ∧ (0 < k → strLe xs[k].name (xs[k - 1]'(by omega)).name = false)) := ⟨fun ⟨_, h⟩ => h, fun h => ⟨hlt, h⟩⟩
      generalize LabelP xs k = LP at NO' YES' eK
      generalize xs[k].name = nm at *
      generalize xs[k].value = va at *
      have EK := Lib.hid eK
      clear eK hc1 hc2
      by_cases hnm : NameP nm
      · have ht := tr_yes hnm
        have hcall : ∀ w, Calls Tryz.prog 124 #[.string nm] w fun e w' => e = .returned (.bool true) ∧ w' = w := fun w => (C_label_Name nm w hn).mono fun e w' h => ⟨by rw [h.1, ht], h.2.symm⟩
        have HC := Lib.hid hcall
        clear hcall ht
        by_cases h3 : va.size < 1
        · have hd1 : decide ((va.size : Int) < 1) = true := by simp; omega
          go_quiet ((go_at_call 124; exact Calls.quiet_of_same (HC.out _)))
          go_wp2
          go_ret
          exact NO'.out (fun c => by have := (EK.out.1 c).2.1; omega) _
        have hd1 : decide ((va.size : Int) < 1) = false := by simp; omega
        by_cases h4 : 64 < va.size
        · have hd2 : decide ((64 : Int) < (va.size : Int)) = true := by simp; omega
          go_quiet ((go_at_call 124; exact Calls.quiet_of_same (HC.out _)))
          go_wp2
          go_ret
          exact NO'.out (fun c => by have := (EK.out.1 c).2.2.1; omega) _
        have hd2 : decide ((64 : Int) < (va.size : Int)) = false := by simp; omega
        by_cases h5 : 0 < k
        · obtain ⟨b', off', e', _, _, hp1, _, hpn, _⟩ := hslW.label (k := k - 1) (by omega)
          cases e'
          have hk1 : (0 : Int) < (k : Int) := by omega
          have hd3 : decide ((0 : Int) < (k : Int)) = true := by simp; omega
          have hs : IntKind.i64.wrap ((k : Int) - 1) = (k : Int) - 1 := IntWalk.i64_in _ (by omega)
          have hs1 : (0 : Int) ≤ (k : Int) - 1 := by omega
          have hs2 : ((k : Int) - 1).toNat = k - 1 := by omega
          have hs3 : (k : Int) - 1 < (xs.length : Int) := by omega
          have hLe : strLe nm (xs[k - 1]'(by omega)).name = true ∨ strLe nm (xs[k - 1]'(by omega)).name = false := by cases strLe nm (xs[k - 1]'(by omega)).name <;> simp
          have eEK : LP ↔ (NameP nm ∧ 1 ≤ va.size ∧ va.size ≤ 64 ∧ (0 < k → strLe nm (xs[k - 1]'(by omega)).name = false)) := EK.out
          clear EK
          generalize (xs[k - 1]'(by omega)).name = pn at *
          have EK := Lib.hid eEK
          clear eEK
          rcases hLe with hLe | hLe
          · have hfin : ¬ LP := fun c => by have := (EK.out.1 c).2.2.2 h5; rw [hLe] at this; cases this
            have HF := Lib.hid hfin
            clear hfin
            unfold strLe at hLe
            rw [Bool.or_eq_true] at hLe
            rcases hLe with hLe | hLe
            · go_quiet ((go_at_call 124; exact Calls.quiet_of_same (HC.out _)))
              go_wp2
              go_ret
              exact NO'.out HF.out _
            · go_quiet ((go_at_call 124; exact Calls.quiet_of_same (HC.out _)))
              go_wp2
              go_ret
              exact NO'.out HF.out _
          · have hfin : LP := EK.out.2 ⟨hnm, by omega, by omega, fun _ => hLe⟩
            have HF := Lib.hid hfin
            clear hfin
            unfold strLe at hLe
            rw [Bool.or_eq_false_iff] at hLe
            obtain ⟨hLe1, hLe2⟩ := hLe
            go_quiet ((go_at_call 124; exact Calls.quiet_of_same (HC.out _)))
            go_wp2
            go_roundw
            case rel => exact ⟨k + 1, by omega, by go_num, YES'.out HF.out, bdn hbW _⟩
            case measure => simp [intOf]; omega
        · have hd3 : decide (0 < (k : Int)) = false := by simp; omega
          go_quiet ((go_at_call 124; exact Calls.quiet_of_same (HC.out _)))
          go_wp2
          go_roundw
          case rel => exact ⟨k + 1, by omega, by go_num, YES'.out (EK.out.2 ⟨hnm, by omega, by omega, fun h => absurd h h5⟩), bdn hbW _⟩
          case measure => simp [intOf]; omega
      · have ht := tr_no hnm
        have hcall : ∀ w, Calls Tryz.prog 124 #[.string nm] w fun e w' => e = .returned (.bool false) ∧ w' = w := fun w => (C_label_Name nm w hn).mono fun e w' h => ⟨by rw [h.1, ht], h.2.symm⟩
        have HC := Lib.hid hcall
        clear hcall ht
        go_quiet ((go_at_call 124; exact Calls.quiet_of_same (HC.out _)))
        go_wp2
        go_ret
        exact NO'.out (fun c => hnm (EK.out.1 c).1) _
    · go_wp2
      go_ret
      exact ⟨ret_yes ⟨by omega, by omega, fun j hj => HP.out j (by omega)⟩, hbl⟩

/-- The value of a name. -/
def lval : List Label → ByteArray → ByteArray
  | [], _ => ⟨#[]⟩
  | x :: l, nm => if (x.name.toList == nm.toList) = true then x.value else lval l nm
theorem lval_drop {xs : List Label} {nm : ByteArray} {k : Nat} (hk : k < xs.length) : lval (xs.drop k) nm = if (xs[k].name.toList == nm.toList) = true then xs[k].value else lval (xs.drop (k + 1)) nm := by
  rw [List.drop_eq_getElem_cons hk]; rfl
theorem lval_ok : ∀ {xs : List Label} {nm : ByteArray}, (∀ x ∈ xs, StrOk x.value) → StrOk (lval xs nm)
  | [], nm, _ => by unfold lval StrOk; decide
  | x :: l, nm, h => by
    unfold lval
    split
    · exact h x (by simp)
    · exact lval_ok (fun y hy => h y (by simp [hy]))
theorem C_label_Value (ok : Nat → Prop) (A : Option Addr) (cap : Nat) (xs : List Label) (nm : ByteArray) (w : World) (hr : Sl ok w A xs) :
    Calls Tryz.prog 130 #[.slice A xs.length cap, .string nm] w fun e w' => e = .returned (.string (lval xs nm)) ∧ Below w.heap.size w w' := by
  have hlen := hr.1
  go_enter Tryz.func130, Tryz.ntmps130
  go_wp2_with fail
  go_loopw [6, 9] (fun _ i wr => ∃ (k : Nat), k ≤ xs.length ∧ i = .int .i64 k ∧ lval xs nm = lval (xs.drop k) nm ∧ Below w.heap.size w wr) (fun _ i _ => xs.length - (intOf i).toNat)
  case atStart => exact ⟨0, Nat.zero_le _, rfl, rfl, Below.refl _ _⟩
  case round =>
    obtain ⟨k, hk, rfl, hpre, hbl⟩ := hrel
    have HP := Lib.hid hpre
    clear hpre
    by_cases hlt : k < xs.length
    · obtain ⟨b, off, rfl, hob, hlb, hc1, hc2, hn, hv⟩ := (hr.below hbl).label hlt
      have hd := lval_drop (nm := nm) hlt
      generalize xs[k].name = nm' at *
      generalize xs[k].value = va at *
      have he : (nm'.toList == nm.toList) = true ∨ (nm'.toList == nm.toList) = false := by cases nm'.toList == nm.toList <;> simp
      rcases he with he | he
      · rw [if_pos he] at hd
        have HD := Lib.hid hd
        clear hd
        go_wp2
        go_ret
        exact ⟨by rw [HP.out, HD.out]; rfl, hbl.alloc hbl.size _⟩
      · rw [if_neg (by rw [he]; simp)] at hd
        have HD := Lib.hid hd
        clear hd
        go_wp2
        go_roundw
        case rel => exact ⟨k + 1, by omega, by go_num, by rw [HP.out, HD.out], hbl.alloc hbl.size _⟩
        case measure => simp [intOf]; omega
    · have e : xs.drop k = [] := List.drop_eq_nil_of_le (by omega)
      have hv : lval xs nm = ⟨#[]⟩ := by rw [HP.out, e]; rfl
      have HV := Lib.hid hv
      clear hv e
      go_wp2
      go_ret
      exact ⟨by rw [HV.out]; rfl, hbl⟩
end Go.Proofs.YtbefkiebdokbdaaGreat.V
end
