/- query.Check: what it answers, whatever match.Check says. -/
import Derived.Test.YtbefkiebdokbdaaGreatCal2
import Derived.BigGuardPart
import Derived.Deep.RegionHeld3
namespace Go.Proofs.YtbefkiebdokbdaaGreat.V
open Go.RowKit
set_option linter.unusedVariables false
set_option maxRecDepth 100000

/-- May a question not be? -/
def qBad (mb : Bool) (start step n kind a b : Int) : Prop := mb = false ∨ kind < 1 ∨ 6 < kind ∨ (kind = 2 ∧ (b = 0 ∨ b < a)) ∨ start < 0 ∨ step < 1 ∨ n < 1
/-- Is it too much? -/
def qBig (start step n : Int) : Prop := 1000 < n ∨ 1099511627776 < start ∨ (1099511627776 - start) / step < n
section
variable (m0 m1 m2 m3 m4 : Value) (mb : Bool) (c : Conf) (now start step n kind a b : Int) (w : World)
set_option maxHeartbeats 4000000 in
theorem C_Check_bad (hm : ∀ W, Below w.heap.size w W → Calls Tryz.prog 36 #[.agg #[m0, m1, m2, m3, m4]] W fun e w' => e = .returned (.bool mb) ∧ Below W.heap.size W w')
    (ha : U64 a) (hb : U64 b) (h : qBad mb start step n kind a b) :
    Calls Tryz.prog 14 #[.agg (confL c).toArray, .int .i64 now, .agg #[m0, m1, m2, m3, m4, .int .i64 start, .int .i64 step, .int .i64 n, .int .i64 kind, .int .u64 a, .int .u64 b]] w fun e w' => e = .returned (.int .i64 5) ∧ Below w.heap.size w w' := by
  obtain ⟨a1, a2⟩ := ha
  obtain ⟨b1, b2⟩ := hb
  have hd : mb = false ∨ (mb = true ∧ kind < 1) ∨ (mb = true ∧ 1 ≤ kind ∧ 6 < kind) ∨ (mb = true ∧ kind = 2 ∧ b = 0) ∨ (mb = true ∧ kind = 2 ∧ 1 ≤ b ∧ b < a)
      ∨ (mb = true ∧ 1 ≤ kind ∧ kind ≤ 6 ∧ kind ≠ 2 ∧ start < 0) ∨ (mb = true ∧ kind = 2 ∧ 1 ≤ b ∧ a ≤ b ∧ start < 0)
      ∨ (mb = true ∧ 1 ≤ kind ∧ kind ≤ 6 ∧ kind ≠ 2 ∧ 0 ≤ start ∧ step < 1) ∨ (mb = true ∧ kind = 2 ∧ 1 ≤ b ∧ a ≤ b ∧ 0 ≤ start ∧ step < 1)
      ∨ (mb = true ∧ 1 ≤ kind ∧ kind ≤ 6 ∧ kind ≠ 2 ∧ 0 ≤ start ∧ 1 ≤ step ∧ n < 1) ∨ (mb = true ∧ kind = 2 ∧ 1 ≤ b ∧ a ≤ b ∧ 0 ≤ start ∧ 1 ≤ step ∧ n < 1) := by
    unfold qBad at h
    cases mb
    · exact .inl rfl
    · simp only [Bool.true_eq_false, false_or, true_and] at h ⊢
      omega
  have HM := Lib.hid hm
  clear hm h
  obtain ⟨W, hW⟩ : ∃ W, W = (w.alloc (.cells (confL c).toArray 24)).alloc (.cells #[m0, m1, m2, m3, m4, .int .i64 start, .int .i64 step, .int .i64 n, .int .i64 kind, .int .u64 a, .int .u64 b] 31) := ⟨_, rfl⟩
  have hbW : Below w.heap.size w W := hW ▸ ((Below.refl _ _).alloc (Nat.le_refl _) _).alloc (by simp) _
  have hB : Blk W (w.heap.size + 1) [m0, m1, m2, m3, m4, .int .i64 start, .int .i64 step, .int .i64 n, .int .i64 kind, .int .u64 a, .int .u64 b] 31 := by
    have := Blk.new (w.alloc (.cells (confL c).toArray 24)) [m0, m1, m2, m3, m4, .int .i64 start, .int .i64 step, .int .i64 n, .int .i64 kind, .int .u64 a, .int .u64 b] 31
    have e1 : (w.alloc (.cells (confL c).toArray 24)).heap.size = w.heap.size + 1 := by simp
    rw [e1] at this
    rw [hW]; exact this
  rcases hd with rfl | ⟨rfl, p1⟩ | ⟨rfl, p1, p2⟩ | ⟨rfl, rfl, rfl⟩ | ⟨rfl, rfl, p1, p2⟩ | ⟨rfl, p1, p2, p3, p4⟩ | ⟨rfl, rfl, p1, p2, p3⟩ | ⟨rfl, p1, p2, p3, p4, p5⟩ | ⟨rfl, rfl, p1, p2, p3, p4⟩ | ⟨rfl, p1, p2, p3, p4, p5, p6⟩ | ⟨rfl, rfl, p1, p2, p3, p4, p5⟩
  all_goals
    try have z1 : (kind == 2) = false := by simp; omega
    try have z2 : (b == 0) = false := by simp; omega
    first | (have t0 : decide (kind < 1) = true := by rw [decide_eq_true_iff]; omega) | (have t0 : decide (kind < 1) = false := by rw [decide_eq_false_iff_not]; omega) | skip
    first | (have t1 : decide (6 < kind) = true := by rw [decide_eq_true_iff]; omega) | (have t1 : decide (6 < kind) = false := by rw [decide_eq_false_iff_not]; omega) | skip
    first | (have t2 : decide (start < 0) = true := by rw [decide_eq_true_iff]; omega) | (have t2 : decide (start < 0) = false := by rw [decide_eq_false_iff_not]; omega) | skip
    first | (have t3 : decide (step < 1) = true := by rw [decide_eq_true_iff]; omega) | (have t3 : decide (step < 1) = false := by rw [decide_eq_false_iff_not]; omega) | skip
    first | (have t4 : decide (n < 1) = true := by rw [decide_eq_true_iff]; omega) | (have t4 : decide (n < 1) = false := by rw [decide_eq_false_iff_not]; omega) | skip
    first | (have t5 : decide (b < a) = true := by rw [decide_eq_true_iff]; omega) | (have t5 : decide (b < a) = false := by rw [decide_eq_false_iff_not]; omega) | skip
    go_enter Tryz.func14, Tryz.ntmps14
    go_wp2_with fail
    rw [← hW]
    refine (HM.out W hbW).mono ?_
    rintro e w1 ⟨rfl, hb1⟩
    have hB1 := hB.below hb1
    have x5 := hB1.c 5 rfl
    have x6 := hB1.c 6 rfl
    have x7 := hB1.c 7 rfl
    have x8 := hB1.c 8 rfl
    have x9 := hB1.c 9 rfl
    have x10 := hB1.c 10 rfl
    have hfin := hbW.trans (hb1.mono hbW.size)
    clear hB hB1 hW HM hb1 hbW
    go_wp2
    all_goals
      go_ret
      exact ⟨rfl, hfin⟩
end
end Go.Proofs.YtbefkiebdokbdaaGreat.V
