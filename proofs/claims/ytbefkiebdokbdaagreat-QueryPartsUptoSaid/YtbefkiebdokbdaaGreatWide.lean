/- Contracts of package wide and what it calls of math/bits. -/
import Derived.Test.YtbefkiebdokbdaaGreatData
import Derived.Test.YtbefkiebdokbdaaGreatProg
import Derived.Lib.Hide
import Derived.WalkLawsBesides
import Derived.WalkSpells
namespace Go.Proofs.YtbefkiebdokbdaaGreat.V
open Go.RowKit
set_option linter.unusedVariables false
set_option maxRecDepth 100000

def two64 : Int := 18446744073709551616
def most : Int := 18446744073709551615
def addLo (a b : Int) : Int := (a + b) % 18446744073709551616
def addHi (a b : Int) : Int := (a + b) / 18446744073709551616
/-- Saturating sum. -/
def satAdd (a b : Int) : Int := if a + b ≤ 18446744073709551615 then a + b else 18446744073709551615
theorem satAdd_hi {a b : Int} (ha : U64 a) (hb : U64 b) (h : 0 < addHi a b) : satAdd a b = 18446744073709551615 := by
  unfold satAdd; unfold addHi at h; unfold U64 at ha hb; rw [if_neg]; omega
theorem satAdd_lo {a b : Int} (ha : U64 a) (hb : U64 b) (h : ¬ 0 < addHi a b) : satAdd a b = addLo a b := by
  unfold satAdd addLo; unfold addHi at h; unfold U64 at ha hb; rw [if_pos (by omega), Int.emod_eq_of_lt (by omega) (by omega)]
theorem satAdd_U64 {a b : Int} (ha : U64 a) (hb : U64 b) : U64 (satAdd a b) := by
  unfold satAdd; unfold U64 at *; split <;> omega

theorem ret_i {k : IntKind} {a b : Int} (h : a = b) : Ending.returned (.int k a) = .returned (.int k b) := by rw [h]
theorem ret_b {a b : Bool} (h : a = b) : Ending.returned (.bool a) = .returned (.bool b) := by rw [h]

theorem run_Add64 (a b : Int) (ha : U64 a) (hb : U64 b) (w : World) : (callFunc 126 #[.int .u64 a, .int .u64 b, .int .u64 0]).run Tryz.prog w = .ok (.value (.tuple #[.int .u64 (addLo a b), .int .u64 (addHi a b)])) w := by
  rw [run_callFunc_extern Tryz.func126 (by kernel_rfl) (by kernel_rfl) (by kernel_rfl) (e := add64Entry) (by kernel_rfl), run_add64 a b 0 ha.1 hb.1 (by omega) (by omega)]
  simp only [Result.andThen, Int.add_zero, addLo, addHi]

theorem C_wide_Add (a b : Int) (w : World) (ha : U64 a) (hb : U64 b) :
    Calls Tryz.prog 106 #[.int .u64 a, .int .u64 b] w fun e w' => e = .returned (.int .u64 (satAdd a b)) ∧ w = w' := by
  have h1 := run_Add64 a b ha hb
  by_cases h : 0 < addHi a b
  · go_enter Tryz.func106, Tryz.ntmps106
    go_wp2
    go_ret
    exact ⟨ret_i (satAdd_hi ha hb h).symm, rfl⟩
  · go_enter Tryz.func106, Tryz.ntmps106
    go_wp2
    go_ret
    exact ⟨ret_i (satAdd_lo ha hb (by omega)).symm, rfl⟩
end Go.Proofs.YtbefkiebdokbdaaGreat.V
