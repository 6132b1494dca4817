/- Part 1 of the proof: Wide, Flo. -/
import Derived.Test.YtbefkiebdokbdaaGreatProg
import Derived.Lib.Hide
import Derived.WalkLawsBesides
import Derived.WalkSpells
import Derived.Test.YtbefkiebdokbdaaGreatB0

section
/- Contracts of package wide and what it calls of math/bits. -/
namespace Go.Proofs.YtbefkiebdokbdaaGreat.V
open Go.RowKit
set_option linter.unusedVariables false
set_option maxRecDepth 100000

def two64 : Int := 18446744073709551616
def most : Int := 18446744073709551615
def addLo (a b : Int) : Int := (a + b) % 18446744073709551616
def addHi (a b : Int) : Int := (a + b) / 18446744073709551616
/-- Saturating sum. -/
def satAdd (a b : Int) : Int := if a + b ≤ 18446744073709551615 then a + b else 18446744073709551615
theorem satAdd_hi {a b : Int} (ha : U64 a) (hb : U64 b) (h : 0 < addHi a b) : satAdd a b = 18446744073709551615 := by
  unfold satAdd; unfold addHi at h; unfold U64 at ha hb; rw [if_neg]; omega
theorem satAdd_lo {a b : Int} (ha : U64 a) (hb : U64 b) (h : ¬ 0 < addHi a b) : satAdd a b = addLo a b := by
  unfold satAdd addLo; unfold addHi at h; unfold U64 at ha hb; rw [if_pos (by omega), Int.emod_eq_of_lt (by omega) (by omega)]
theorem satAdd_U64 {a b : Int} (ha : U64 a) (hb : U64 b) : U64 (satAdd a b) := by
  unfold satAdd; unfold U64 at *; split <;> omega

theorem ret_i {k : IntKind} {a b : Int} (h : a = b) : Ending.returned (.int k a) = .returned (.int k b) := by rw [h]
theorem ret_b {a b : Bool} (h : a = b) : Ending.returned (.bool a) = .returned (.bool b) := by rw [h]

theorem run_Add64 (a b : Int) (ha : U64 a) (hb : U64 b) (w : World) : (callFunc 126 #[.int .u64 a, .int .u64 b, .int .u64 0]).run Tryz.prog w = .ok (.value (.tuple #[.int .u64 (addLo a b), .int .u64 (addHi a b)])) w := by
  rw [run_callFunc_extern Tryz.func126 (by kernel_rfl) (by kernel_rfl) (by kernel_rfl) (e := add64Entry) (by kernel_rfl), run_add64 a b 0 ha.1 hb.1 (by omega) (by omega)]
  simp only [Result.andThen, Int.add_zero, addLo, addHi]

theorem C_wide_Add (a b : Int) (w : World) (ha : U64 a) (hb : U64 b) :
    Calls Tryz.prog 106 #[.int .u64 a, .int .u64 b] w fun e w' => e = .returned (.int .u64 (satAdd a b)) ∧ w = w' := by
  have h1 := run_Add64 a b ha hb
  by_cases h : 0 < addHi a b
  · go_enter Tryz.func106, Tryz.ntmps106
    go_wp2
    go_ret
    exact ⟨ret_i (satAdd_hi ha hb h).symm, rfl⟩
  · go_enter Tryz.func106, Tryz.ntmps106
    go_wp2
    go_ret
    exact ⟨ret_i (satAdd_lo ha hb (by omega)).symm, rfl⟩
end Go.Proofs.YtbefkiebdokbdaaGreat.V
end

section
/- Contracts of package flo, and of the two functions of package math. -/
namespace Go.Proofs.YtbefkiebdokbdaaGreat.V
open Go.RowKit
set_option linter.unusedVariables false
set_option maxRecDepth 100000

/-- Is it no number? As the machine tells it: it is unlike itself. -/
def fNaN (b : Int) : Bool := FloatKind.f64.format.order b.toNat b.toNat != some .eq
def fExp (b : Int) : Int := wrap64 (bits BinOp.and IntKind.u64 (b / 4503599627370496) 2047)
def fFrac (b : Int) : Int := bits BinOp.and IntKind.u64 b 4503599627370495
def fKind (b : Int) : Int := if fNaN b = true then 4 else if fExp b = 2047 then 3 else if 0 < fExp b then 1 else if 0 < fFrac b then 2 else 0
def fSign (b : Int) : Bool := bits BinOp.and IntKind.u64 b 9223372036854775808 != 0
def fKey (b : Int) : Int := if fSign b = true then bits BinOp.xor IntKind.u64 IntKind.u64.max b else bits BinOp.xor IntKind.u64 b 9223372036854775808
def fLess (a b : Int) : Bool := !fNaN a && !fNaN b && decide (fKey a < fKey b)
theorem fKind_nan (b : Int) : (fKind b != 4) = !fNaN b := by
  unfold fKind
  cases fNaN b
  · simp only [Bool.false_eq_true, if_false, Bool.not_false, bne_iff_ne]
    split
    · decide
    · split
      · decide
      · split <;> decide
  · rfl

theorem run_frombits (b : Int) (w : World) : (callFunc 33 #[.int .u64 b]).run Tryz.prog w = .ok (.value (.float .f64 b.toNat)) w := by
  rw [run_callFunc_extern Tryz.func33 (by kernel_rfl) (by kernel_rfl) (by kernel_rfl) (e := Extern.MathFloatBits.float64frombits) (by kernel_rfl)]
  rfl

theorem C_flo_parts (b : Int) (w : World) (hb : U64 b) :
    Calls Tryz.prog 127 #[.int .u64 b] w fun e w' => e = .returned (.tuple #[.int .i64 (fExp b), .int .u64 (fFrac b)]) ∧ w = w' := by
  go_enter Tryz.func127, Tryz.ntmps127
  go_wp2
  go_ret2
  exact ⟨rfl, rfl⟩
theorem C_flo_Key (b : Int) (w : World) (hb : U64 b) :
    Calls Tryz.prog 108 #[.int .u64 b] w fun e w' => e = .returned (.int .u64 (fKey b)) ∧ w = w' := by
  go_enter Tryz.func108, Tryz.ntmps108
  go_wp2
  · have h1 : fSign b = true := by assumption
    go_ret
    exact ⟨ret_i (by rw [fKey, if_pos h1]), rfl⟩
  · have h1 : fSign b = false := by assumption
    go_ret
    exact ⟨ret_i (by rw [fKey, if_neg (by rw [h1]; decide)]), rfl⟩
theorem C_IsNaN (b : Int) (w : World) :
    Calls Tryz.prog 34 #[.float .f64 b.toNat] w fun e w' => e = .returned (.bool (fNaN b)) ∧ w = w' := by
  go_enter Tryz.func34, Tryz.ntmps34
  go_wp2
  go_ret
  exact ⟨rfl, rfl⟩
theorem C_none (b : Int) (w : World) :
    Calls Tryz.prog 78 #[.int .u64 b] w fun e w' => e = .returned (.bool (fNaN b)) ∧ w = w' := by
  have h := run_frombits b
  go_enter Tryz.func78, Tryz.ntmps78
  go_wp2_with (go_at_call 34; refine (C_IsNaN b _).mono ?_; rintro e w' ⟨rfl, rfl⟩)
  go_ret
  exact ⟨rfl, rfl⟩
theorem C_flo_Kind (b : Int) (w : World) (hb : U64 b) :
    Calls Tryz.prog 107 #[.int .u64 b] w fun e w' => e = .returned (.int .i64 (fKind b)) ∧ w = w' := by
  have h := run_frombits b
  go_enter Tryz.func107, Tryz.ntmps107
  go_wp2_with (first | (go_at_call 34; refine (C_IsNaN b _).mono ?_; rintro e w' ⟨rfl, rfl⟩) | (go_at_call 127; refine (C_flo_parts b _ hb).mono ?_; rintro e w' ⟨rfl, rfl⟩))
  all_goals go_ret
  all_goals refine ⟨ret_i ?_, rfl⟩
  all_goals (clear h; unfold fKind; simp_all; try omega)
theorem C_flo_Less (a b : Int) (w : World) (ha : U64 a) (hb : U64 b) :
    Calls Tryz.prog 79 #[.int .u64 a, .int .u64 b] w fun e w' => e = .returned (.bool (fLess a b)) ∧ w = w' := by
  have ka := fKind_nan a
  have kb := fKind_nan b
  cases hna : fNaN a <;> cases hnb : fNaN b <;> simp only [hna, hnb, Bool.not_true, Bool.not_false] at ka kb
  all_goals
    go_enter Tryz.func79, Tryz.ntmps79
    go_wp2_with (first | (go_at_call 107; refine (C_flo_Kind _ _ (by assumption)).mono ?_; rintro e w' ⟨rfl, rfl⟩) | (go_at_call 108; refine (C_flo_Key _ _ (by assumption)).mono ?_; rintro e w' ⟨rfl, rfl⟩))
    go_ret
    refine ⟨ret_b ?_, rfl⟩
    simp [fLess, hna, hnb]
end Go.Proofs.YtbefkiebdokbdaaGreat.V
end
