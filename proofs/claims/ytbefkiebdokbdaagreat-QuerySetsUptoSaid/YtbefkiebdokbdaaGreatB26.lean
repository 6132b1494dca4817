/- Part 26 of the proof: Check, Check2, Ref15, Ref15b. -/
import Derived.BigGuardPart
import Derived.Deep.RegionHeld3
import Derived.Test.YtbefkiebdokbdaaGreatB25

section
/- query.Check: what it answers, whatever match.Check says. -/
namespace Go.Proofs.YtbefkiebdokbdaaGreat.V
open Go.RowKit
set_option linter.unusedVariables false
set_option maxRecDepth 100000

/-- May a question not be? -/
def qBad (mb : Bool) (start step n kind a b : Int) : Prop := mb = false ∨ kind < 1 ∨ 6 < kind ∨ (kind = 2 ∧ (b = 0 ∨ b < a)) ∨ start < 0 ∨ step < 1 ∨ n < 1
/-- Is it too much? -/
def qBig (start step n : Int) : Prop := 1000 < n ∨ 1099511627776 < start ∨ (1099511627776 - start) / step < n
section
variable (m0 m1 m2 m3 m4 : Value) (mb : Bool) (c : Conf) (now start step n kind a b : Int) (w : World)
set_option maxHeartbeats 4000000 in
theorem C_Check_bad (hm : ∀ W, Below w.heap.size w W → Calls Tryz.prog 36 #[.agg #[m0, m1, m2, m3, m4]] W fun e w' => e = .returned (.bool mb) ∧ Below W.heap.size W w')
    (ha : U64 a) (hb : U64 b) (h : qBad mb start step n kind a b) :
    Calls Tryz.prog 14 #[.agg (confL c).toArray, .int .i64 now, .agg #[m0, m1, m2, m3, m4, .int .i64 start, .int .i64 step, .int .i64 n, .int .i64 kind, .int .u64 a, .int .u64 b]] w fun e w' => e = .returned (.int .i64 5) ∧ Below w.heap.size w w' := by
  obtain ⟨a1, a2⟩ := ha
  obtain ⟨b1, b2⟩ := hb
  have hd : mb = false ∨ (mb = true ∧ kind < 1) ∨ (mb = true ∧ 1 ≤ kind ∧ 6 < kind) ∨ (mb = true ∧ kind = 2 ∧ b = 0) ∨ (mb = true ∧ kind = 2 ∧ 1 ≤ b ∧ b < a)
      ∨ (mb = true ∧ 1 ≤ kind ∧ kind ≤ 6 ∧ kind ≠ 2 ∧ start < 0) ∨ (mb = true ∧ kind = 2 ∧ 1 ≤ b ∧ a ≤ b ∧ start < 0)
      ∨ (mb = true ∧ 1 ≤ kind ∧ kind ≤ 6 ∧ kind ≠ 2 ∧ 0 ≤ start ∧ step < 1) ∨ (mb = true ∧ kind = 2 ∧ 1 ≤ b ∧ a ≤ b ∧ 0 ≤ start ∧ step < 1)
      ∨ (mb = true ∧ 1 ≤ kind ∧ kind ≤ 6 ∧ kind ≠ 2 ∧ 0 ≤ start ∧ 1 ≤ step ∧ n < 1) ∨ (mb = true ∧ kind = 2 ∧ 1 ≤ b ∧ a ≤ b ∧ 0 ≤ start ∧ 1 ≤ step ∧ n < 1) := by
    unfold qBad at h
    cases mb
    · exact .inl rfl
    · simp only [Bool.true_eq_false, false_or, true_and] at h ⊢
      omega
  have HM := Lib.hid hm
  clear hm h
  obtain ⟨W, hW⟩ : ∃ W, W = (w.alloc (.cells (confL c).toArray 24)).alloc (.cells #[m0, m1, m2, m3, m4, .int .i64 start, .int .i64 step, .int .i64 n, .int .i64 kind, .int .u64 a, .int .u64 b] 31) := ⟨_, rfl⟩
  have hbW : Below w.heap.size w W := hW ▸ ((Below.refl _ _).alloc (Nat.le_refl _) _).alloc (by simp) _
  have hB : Blk W (w.heap.size + 1) [m0, m1, m2, m3, m4, .int .i64 start, .int .i64 step, .int .i64 n, .int .i64 kind, .int .u64 a, .int .u64 b] 31 := by
    have := Blk.new (w.alloc (.cells (confL c).toArray 24)) [m0, m1, m2, m3, m4, .int .i64 start, .int .i64 step, .int .i64 n, .int .i64 kind, .int .u64 a, .int .u64 b] 31
    have e1 : (w.alloc (.cells (confL c).toArray 24)).heap.size = w.heap.size + 1 := by simp
    rw [e1] at this
    rw [hW]; exact this
  rcases hd with rfl | ⟨rfl, p1⟩ | ⟨rfl, p1, p2⟩ | ⟨rfl, rfl, rfl⟩ | ⟨rfl, rfl, p1, p2⟩ | ⟨rfl, p1, p2, p3, p4⟩ | ⟨rfl, rfl, p1, p2, p3⟩ | ⟨rfl, p1, p2, p3, p4, p5⟩ | ⟨rfl, rfl, p1, p2, p3, p4⟩ | ⟨rfl, p1, p2, p3, p4, p5, p6⟩ | ⟨rfl, rfl, p1, p2, p3, p4, p5⟩
  all_goals
    try have z1 : (kind == 2) = false := by simp; omega
    try have z2 : (b == 0) = false := by simp; omega
    first | (have t0 : decide (kind < 1) = true := by rw [decide_eq_true_iff]; omega) | (have t0 : decide (kind < 1) = false := by rw [decide_eq_false_iff_not]; omega) | skip
    first | (have t1 : decide (6 < kind) = true := by rw [decide_eq_true_iff]; omega) | (have t1 : decide (6 < kind) = false := by rw [decide_eq_false_iff_not]; omega) | skip
    first | (have t2 : decide (start < 0) = true := by rw [decide_eq_true_iff]; omega) | (have t2 : decide (start < 0) = false := by rw [decide_eq_false_iff_not]; omega) | skip
    first | (have t3 : decide (step < 1) = true := by rw [decide_eq_true_iff]; omega) | (have t3 : decide (step < 1) = false := by rw [decide_eq_false_iff_not]; omega) | skip
    first | (have t4 : decide (n < 1) = true := by rw [decide_eq_true_iff]; omega) | (have t4 : decide (n < 1) = false := by rw [decide_eq_false_iff_not]; omega) | skip
    first | (have t5 : decide (b < a) = true := by rw [decide_eq_true_iff]; omega) | (have t5 : decide (b < a) = false := by rw [decide_eq_false_iff_not]; omega) | skip
    go_enter Tryz.func14, Tryz.ntmps14
    go_wp2_with fail
    rw [← hW]
    refine (HM.out W hbW).mono ?_
    rintro e w1 ⟨rfl, hb1⟩
    have hB1 := hB.below hb1
    have x5 := hB1.c 5 rfl
    have x6 := hB1.c 6 rfl
    have x7 := hB1.c 7 rfl
    have x8 := hB1.c 8 rfl
    have x9 := hB1.c 9 rfl
    have x10 := hB1.c 10 rfl
    have hfin := hbW.trans (hb1.mono hbW.size)
    clear hB hB1 hW HM hb1 hbW
    go_wp2
    all_goals
      go_ret
      exact ⟨rfl, hfin⟩
end
end Go.Proofs.YtbefkiebdokbdaaGreat.V
end

section
/- query.Check: what is too much. -/
namespace Go.Proofs.YtbefkiebdokbdaaGreat.V
open Go.RowKit
set_option linter.unusedVariables false
set_option maxRecDepth 100000

theorem quo_facts {start step : Int} (h0 : 0 ≤ start) (h1 : start ≤ 1099511627776) (h2 : 1 ≤ step) : ∃ q : Int, IntKind.i64.wrap (1099511627776 - start) = 1099511627776 - start ∧ Int.tdiv (1099511627776 - start) step = q ∧ IntKind.i64.wrap q = q ∧ (1099511627776 - start) / step = q ∧ 0 ≤ q := by
  have a1 : Int.tdiv (1099511627776 - start) step = (1099511627776 - start) / step := Int.tdiv_eq_ediv_of_nonneg (by omega)
  have a2 : 0 ≤ (1099511627776 - start) / step := Int.ediv_nonneg (by omega) (by omega)
  have a3 : (1099511627776 - start) / step ≤ 1099511627776 - start := Int.ediv_le_self _ (by omega)
  exact ⟨_, IntWalk.i64_in _ (by omega), a1, IntWalk.i64_in _ (by omega), rfl, a2⟩
section
variable (m0 m1 m2 m3 m4 : Value) (mb : Bool) (c : Conf) (now start step n kind a b : Int) (w : World)
/-- What the walk has behind the first test. -/
structure ChkI (w w1 : World) (c : Conf) (start step n kind a b : Int) (m0 m1 m2 m3 m4 : Value) : Prop where
  conf : Blk w1 w.heap.size (confL c) 24
  ask : Blk w1 (w.heap.size + 1) [m0, m1, m2, m3, m4, .int .i64 start, .int .i64 step, .int .i64 n, .int .i64 kind, .int .u64 a, .int .u64 b] 31
  below : Below w.heap.size w w1
set_option maxHeartbeats 4000000 in
theorem C_Check_big (hm : ∀ W, Below w.heap.size w W → Calls Tryz.prog 36 #[.agg #[m0, m1, m2, m3, m4]] W fun e w' => e = .returned (.bool mb) ∧ Below W.heap.size W w')
    (ha : U64 a) (hb : U64 b) (hn : I64 n) (h : ¬ qBad mb start step n kind a b) (h2 : qBig start step n) :
    Calls Tryz.prog 14 #[.agg (confL c).toArray, .int .i64 now, .agg #[m0, m1, m2, m3, m4, .int .i64 start, .int .i64 step, .int .i64 n, .int .i64 kind, .int .u64 a, .int .u64 b]] w fun e w' => e = .returned (.int .i64 10) ∧ Below w.heap.size w w' := by
  obtain ⟨a1, a2⟩ := ha
  obtain ⟨b1, b2⟩ := hb
  obtain ⟨n1, n2⟩ := hn
  have hd : mb = true ∧ 0 ≤ start ∧ 1 ≤ step ∧ 1 ≤ n ∧ ((1 ≤ kind ∧ kind ≤ 6 ∧ kind ≠ 2) ∨ (kind = 2 ∧ 1 ≤ b ∧ a ≤ b)) := by
    unfold qBad at h
    cases mb
    · exact absurd (.inl rfl) h
    · simp only [Bool.true_eq_false, false_or, true_and] at h ⊢
      omega
  obtain ⟨rfl, g1, g2, g3, hk⟩ := hd
  have h3 : 1000 < n ∨ (n ≤ 1000 ∧ 1099511627776 < start) ∨ (n ≤ 1000 ∧ start ≤ 1099511627776 ∧ (1099511627776 - start) / step < n) := by unfold qBig at h2; omega
  have HM := Lib.hid hm
  clear hm h h2
  obtain ⟨W, hW⟩ : ∃ W, W = (w.alloc (.cells (confL c).toArray 24)).alloc (.cells #[m0, m1, m2, m3, m4, .int .i64 start, .int .i64 step, .int .i64 n, .int .i64 kind, .int .u64 a, .int .u64 b] 31) := ⟨_, rfl⟩
  have hbW : Below w.heap.size w W := hW ▸ ((Below.refl _ _).alloc (Nat.le_refl _) _).alloc (by simp) _
  have hB : Blk W (w.heap.size + 1) [m0, m1, m2, m3, m4, .int .i64 start, .int .i64 step, .int .i64 n, .int .i64 kind, .int .u64 a, .int .u64 b] 31 := by
    have := Blk.new (w.alloc (.cells (confL c).toArray 24)) [m0, m1, m2, m3, m4, .int .i64 start, .int .i64 step, .int .i64 n, .int .i64 kind, .int .u64 a, .int .u64 b] 31
    have e1 : (w.alloc (.cells (confL c).toArray 24)).heap.size = w.heap.size + 1 := by simp
    rw [e1] at this
    rw [hW]; exact this
  rcases hk with ⟨k1, k2, k3⟩ | ⟨rfl, k1, k2⟩
  all_goals
    try have z1 : (kind == 2) = false := by simp; omega
    try have z2 : (b == 0) = false := by simp; omega
    first | (have t0 : decide (kind < 1) = true := by rw [decide_eq_true_iff]; omega) | (have t0 : decide (kind < 1) = false := by rw [decide_eq_false_iff_not]; omega) | skip
    first | (have t1 : decide (6 < kind) = true := by rw [decide_eq_true_iff]; omega) | (have t1 : decide (6 < kind) = false := by rw [decide_eq_false_iff_not]; omega) | skip
    first | (have t2 : decide (start < 0) = true := by rw [decide_eq_true_iff]; omega) | (have t2 : decide (start < 0) = false := by rw [decide_eq_false_iff_not]; omega) | skip
    first | (have t3 : decide (step < 1) = true := by rw [decide_eq_true_iff]; omega) | (have t3 : decide (step < 1) = false := by rw [decide_eq_false_iff_not]; omega) | skip
    first | (have t4 : decide (n < 1) = true := by rw [decide_eq_true_iff]; omega) | (have t4 : decide (n < 1) = false := by rw [decide_eq_false_iff_not]; omega) | skip
    first | (have t5 : decide (b < a) = true := by rw [decide_eq_true_iff]; omega) | (have t5 : decide (b < a) = false := by rw [decide_eq_false_iff_not]; omega) | skip
    have z3 : (step == 0) = false := by simp; omega
    have z4 : step ≠ 0 := by omega
    rcases h3 with h3 | ⟨h3, h4⟩ | ⟨h3, h4, h5⟩
    all_goals
      first | (have s0 : decide (1000 < n) = true := by rw [decide_eq_true_iff]; omega) | (have s0 : decide (1000 < n) = false := by rw [decide_eq_false_iff_not]; omega) | skip
      first | (have s1 : decide (1099511627776 < start) = true := by rw [decide_eq_true_iff]; omega) | (have s1 : decide (1099511627776 < start) = false := by rw [decide_eq_false_iff_not]; omega) | skip
      go_enter Tryz.func14, Tryz.ntmps14
      go_wp2_with fail
      rw [← hW]
      refine (HM.out W hbW).mono ?_
      rintro e w1 ⟨rfl, hb1⟩
      have hB1 := hB.below hb1
      have x5 := hB1.c 5 rfl
      have x6 := hB1.c 6 rfl
      have x7 := hB1.c 7 rfl
      have x8 := hB1.c 8 rfl
      have x9 := hB1.c 9 rfl
      have x10 := hB1.c 10 rfl
      have hfin := hbW.trans (hb1.mono hbW.size)
      clear hB hB1 hW HM hb1 hbW
      try (have hq : start ≤ 1099511627776 := by omega; obtain ⟨q, hq1, hq2, hq3, hq4, hq5⟩ := quo_facts g1 hq g2; try rw [hq4] at h5; try (have t9 : decide (q < n) = true := (by rw [decide_eq_true_iff]; exact h5)); try (have t9 : decide (q < n) = false := (by rw [decide_eq_false_iff_not]; exact h5)); clear hq4 hq)
      go_wp2
      go_quiet (fail)
      go_wp2
      go_ret
      exact ⟨rfl, hfin.trans ⟨rfl, rfl, rfl, Nat.le_refl _, fun _ _ => rfl⟩⟩
set_option maxHeartbeats 4000000 in
theorem C_Check_end (hm : ∀ W, Below w.heap.size w W → Calls Tryz.prog 36 #[.agg #[m0, m1, m2, m3, m4]] W fun e w' => e = .returned (.bool mb) ∧ Below W.heap.size W w')
    (ha : U64 a) (hb : U64 b) (hn : I64 n) (h : ¬ qBad mb start step n kind a b) (h2 : ¬ qBig start step n) (h0 : 0 ≤ now) (h1 : now ≤ 1099511627776) (hc0 : 1 ≤ c.k0 ∧ c.k0 ≤ 100000) (hc1 : 1 ≤ c.k1 ∧ c.k1 ≤ 100000) (hc2 : 1 ≤ c.k2 ∧ c.k2 ≤ 100000) (hc3 : 1 ≤ c.k3 ∧ c.k3 ≤ 100000) (hst : step ≤ 9223372036854775807) :
    Calls Tryz.prog 14 #[.agg (confL c).toArray, .int .i64 now, .agg #[m0, m1, m2, m3, m4, .int .i64 start, .int .i64 step, .int .i64 n, .int .i64 kind, .int .u64 a, .int .u64 b]] w fun e w' => e = .returned (.int .i64 (if start < hzn (c.keep (coar start step 4)) now then 9 else 0)) ∧ Below w.heap.size w w' := by
  obtain ⟨a1, a2⟩ := ha
  obtain ⟨b1, b2⟩ := hb
  obtain ⟨n1, n2⟩ := hn
  have hd : mb = true ∧ 0 ≤ start ∧ 1 ≤ step ∧ 1 ≤ n ∧ ((1 ≤ kind ∧ kind ≤ 6 ∧ kind ≠ 2) ∨ (kind = 2 ∧ 1 ≤ b ∧ a ≤ b)) := by
    unfold qBad at h
    cases mb
    · exact absurd (.inl rfl) h
    · simp only [Bool.true_eq_false, false_or, true_and] at h ⊢
      omega
  obtain ⟨rfl, g1, g2, g3, hk⟩ := hd
  have h3 : n ≤ 1000 ∧ start ≤ 1099511627776 ∧ n ≤ (1099511627776 - start) / step := by unfold qBig at h2; omega
  have HM := Lib.hid hm
  clear hm h h2
  obtain ⟨h3, h4, h5⟩ := h3
  have hcl := coar_3 start step
  have HZ : ∀ W, Calls Tryz.prog 37 #[.agg (confL c).toArray, .int .i64 now, .int .i64 (coar start step 4)] W fun e w' => e = .returned (.int .i64 (hzn (c.keep (coar start step 4)) now)) ∧ Below W.heap.size W w' := fun W => C_Horizon c now _ W hcl h0 h1 hc0 hc1 hc2 hc3
  have HZH := Lib.hid HZ
  clear HZ hc0 hc1 hc2 hc3
  obtain ⟨hz, hhz⟩ : ∃ hz, hz = hzn (c.keep (coar start step 4)) now := ⟨_, rfl⟩
  rw [← hhz] at HZH ⊢
  clear hhz
  obtain ⟨r, hr⟩ : ∃ r : Int, r = if start < hz then 9 else 0 := ⟨_, rfl⟩
  rw [← hr]
  have HR := Lib.hid hr
  clear hr
  obtain ⟨W, hW⟩ : ∃ W, W = (w.alloc (.cells (confL c).toArray 24)).alloc (.cells #[m0, m1, m2, m3, m4, .int .i64 start, .int .i64 step, .int .i64 n, .int .i64 kind, .int .u64 a, .int .u64 b] 31) := ⟨_, rfl⟩
  have hbW : Below w.heap.size w W := hW ▸ ((Below.refl _ _).alloc (Nat.le_refl _) _).alloc (by simp) _
  have hB : Blk W (w.heap.size + 1) [m0, m1, m2, m3, m4, .int .i64 start, .int .i64 step, .int .i64 n, .int .i64 kind, .int .u64 a, .int .u64 b] 31 := by
    have := Blk.new (w.alloc (.cells (confL c).toArray 24)) [m0, m1, m2, m3, m4, .int .i64 start, .int .i64 step, .int .i64 n, .int .i64 kind, .int .u64 a, .int .u64 b] 31
    have e1 : (w.alloc (.cells (confL c).toArray 24)).heap.size = w.heap.size + 1 := by simp
    rw [e1] at this
    rw [hW]; exact this
  have hC : Blk W w.heap.size (confL c) 24 := by
    rw [hW]; exact (Blk.new w (confL c) 24).below ((Below.refl _ _).alloc (Nat.le_refl _) _)
  rcases hk with ⟨k1, k2, k3⟩ | ⟨rfl, k1, k2⟩
  all_goals
    try have z1 : (kind == 2) = false := by simp; omega
    try have z2 : (b == 0) = false := by simp; omega
    first | (have t0 : decide (kind < 1) = true := by rw [decide_eq_true_iff]; omega) | (have t0 : decide (kind < 1) = false := by rw [decide_eq_false_iff_not]; omega) | skip
    first | (have t1 : decide (6 < kind) = true := by rw [decide_eq_true_iff]; omega) | (have t1 : decide (6 < kind) = false := by rw [decide_eq_false_iff_not]; omega) | skip
    first | (have t2 : decide (start < 0) = true := by rw [decide_eq_true_iff]; omega) | (have t2 : decide (start < 0) = false := by rw [decide_eq_false_iff_not]; omega) | skip
    first | (have t3 : decide (step < 1) = true := by rw [decide_eq_true_iff]; omega) | (have t3 : decide (step < 1) = false := by rw [decide_eq_false_iff_not]; omega) | skip
    first | (have t4 : decide (n < 1) = true := by rw [decide_eq_true_iff]; omega) | (have t4 : decide (n < 1) = false := by rw [decide_eq_false_iff_not]; omega) | skip
    first | (have t5 : decide (b < a) = true := by rw [decide_eq_true_iff]; omega) | (have t5 : decide (b < a) = false := by rw [decide_eq_false_iff_not]; omega) | skip
    have z3 : (step == 0) = false := by simp; omega
    have z4 : step ≠ 0 := by omega
    all_goals
      first | (have s0 : decide (1000 < n) = true := by rw [decide_eq_true_iff]; omega) | (have s0 : decide (1000 < n) = false := by rw [decide_eq_false_iff_not]; omega) | skip
      first | (have s1 : decide (1099511627776 < start) = true := by rw [decide_eq_true_iff]; omega) | (have s1 : decide (1099511627776 < start) = false := by rw [decide_eq_false_iff_not]; omega) | skip
      go_enter Tryz.func14, Tryz.ntmps14
      go_wp2_with fail
      rw [← hW]
      refine (HM.out W hbW).mono ?_
      rintro e w1 ⟨rfl, hb1⟩
      have hB1 := hB.below hb1
      have x5 := hB1.c 5 rfl
      have x6 := hB1.c 6 rfl
      have x7 := hB1.c 7 rfl
      have x8 := hB1.c 8 rfl
      have x9 := hB1.c 9 rfl
      have x10 := hB1.c 10 rfl
      have hC1 := (hC.below hb1)
      have y0 := hC1.c 0 rfl
      have y1 := hC1.c 1 rfl
      have y2 := hC1.c 2 rfl
      have y3 := hC1.c 3 rfl
      have y4 := hC1.c 4 rfl
      have hfin := hbW.trans (hb1.mono hbW.size)
      clear hB hB1 hC hC1 hW HM hb1 hbW
      try (have hq : start ≤ 1099511627776 := by omega; obtain ⟨q, hq1, hq2, hq3, hq4, hq5⟩ := quo_facts g1 hq g2; try rw [hq4] at h5; try (have t9 : decide (q < n) = true := (by rw [decide_eq_true_iff]; exact h5)); try (have t9 : decide (q < n) = false := (by rw [decide_eq_false_iff_not]; exact h5)); clear hq4 hq)
      go_wp2
      go_quiet (fail)
      go_wp2
      have hF : Below w1.heap.size w1 (w1.drewN nq) := ⟨rfl, rfl, rfl, Nat.le_refl _, fun _ _ => rfl⟩
      have hfin2 := hfin.trans (hF.mono hfin.size)
      have u5 := bcell hF x5
      have u6 := bcell hF x6
      have u0 := bcell hF y0
      have u1 := bcell hF y1
      have u2 := bcell hF y2
      have u3 := bcell hF y3
      have u4 := bcell hF y4
      clear x5 x6 x7 x8 x9 x10 y0 y1 y2 y3 y4 hF hfin
      generalize w1.drewN nq = w2 at *
      go_region_held3 (fun w' => w'.cell? ⟨w.heap.size + 1, 5, none⟩ = some (.int .i64 start) ∧ w'.cell? ⟨w.heap.size + 1, 6, none⟩ = some (.int .i64 step) ∧ w'.cell? ⟨w.heap.size, 0, none⟩ = some (.int .i64 c.slack) ∧ w'.cell? ⟨w.heap.size, 1, none⟩ = some (.int .i64 c.k0) ∧ w'.cell? ⟨w.heap.size, 2, none⟩ = some (.int .i64 c.k1) ∧ w'.cell? ⟨w.heap.size, 3, none⟩ = some (.int .i64 c.k2) ∧ w'.cell? ⟨w.heap.size, 4, none⟩ = some (.int .i64 c.k3))
        ((first | exact ⟨u5, u6, u0, u1, u2, u3, u4⟩ | exact ⟨v5, v6, v0, v1, v2, v3, v4⟩ | exact ⟨q5, q6, q0, q1, q2, q3, q4⟩))
        (first
          | (go_at_call 38; refine (C_Coarsest start step _ g1 (by omega) (by omega) hst).mono ?_; rintro e wa ⟨rfl, hba⟩; have v5 := bcell hba (cdrew u5); have v6 := bcell hba (cdrew u6); have v0 := bcell hba (cdrew u0); have v1 := bcell hba (cdrew u1); have v2 := bcell hba (cdrew u2); have v3 := bcell hba (cdrew u3); have v4 := bcell hba (cdrew u4))
          | (go_at_call 37; refine (HZH.out _).mono ?_; rintro e wb ⟨rfl, hbb⟩; have q5 := bcell hbb v5; have q6 := bcell hbb v6; have q0 := bcell hbb v0; have q1 := bcell hbb v1; have q2 := bcell hbb v2; have q3 := bcell hbb v3; have q4 := bcell hbb v4))
      have hfin3 := (hfin2.drew).trans ((hba.mono (show w.heap.size ≤ w2.drew.heap.size from hfin2.size)).trans (hbb.mono (Nat.le_trans (show w.heap.size ≤ w2.drew.heap.size from hfin2.size) hba.size)))
      clear u5 u6 u0 u1 u2 u3 u4 v5 v6 v0 v1 v2 v3 v4 q5 q6 q0 q1 q2 q3 q4 hba hbb hfin2
      by_cases hlz : start < hz
      · go_wp2
        go_ret
        exact ⟨ret_i (by rw [HR.out, if_pos hlz]), hfin3⟩
      · go_wp2
        go_ret
        exact ⟨ret_i (by rw [HR.out, if_neg (by omega)]), hfin3⟩
end
end Go.Proofs.YtbefkiebdokbdaaGreat.V
end

section
/- The reference's calendar: Check, Res, Horizon, Coarsest, Windows. -/
namespace Go.Proofs.YtbefkiebdokbdaaGreat.V
open Go.RowKit
set_option linter.unusedVariables false
set_option maxRecDepth 100000

theorem C_ref_Res (k : Nat) (hk : k < 4) (w : World) : Calls Tryz.prog 74 #[.int .i64 k] w fun e w' => e = .returned (.int .i64 (resN k)) ∧ w = w' := by
  have key : ∀ (q r : Int), (q = 0 ∧ r = 1 ∨ q = 1 ∧ r = 6 ∨ q = 2 ∧ r = 360 ∨ q = 3 ∧ r = 8640) → Calls Tryz.prog 74 #[.int .i64 q] w fun e w' => e = .returned (.int .i64 r) ∧ w = w' := by
    rintro q r (⟨rfl, rfl⟩ | ⟨rfl, rfl⟩ | ⟨rfl, rfl⟩ | ⟨rfl, rfl⟩)
    all_goals
      go_enter Tryz.func74, Tryz.ntmps74
      go_wp2
      go_ret
      exact ⟨rfl, rfl⟩
  rcases k with _ | _ | _ | _ | k
  · exact key 0 1 (by simp)
  · exact key 1 6 (by simp)
  · exact key 2 360 (by simp)
  · exact key 3 8640 (by simp)
  · omega
theorem C_ref_Horizon (c : Conf) (now : Int) (k : Nat) (w : World) (hk : k < 4) (h0 : 0 ≤ now) (h1 : now ≤ 1099511627776) (hc0 : 1 ≤ c.k0 ∧ c.k0 ≤ 100000) (hc1 : 1 ≤ c.k1 ∧ c.k1 ≤ 100000) (hc2 : 1 ≤ c.k2 ∧ c.k2 ≤ 100000) (hc3 : 1 ≤ c.k3 ∧ c.k3 ≤ 100000) :
    Calls Tryz.prog 39 #[.agg (confL c).toArray, .int .i64 now, .int .i64 k] w fun e w' => e = .returned (.int .i64 (hzn (c.keep k) now)) ∧ Below w.heap.size w w' := by
  obtain ⟨sl, q0, q1, q2, q3⟩ := c
  dsimp only at hc0 hc1 hc2 hc3
  have key : ∀ (q : Int) (lv : Int), 1 ≤ q ∧ q ≤ 100000 → (lv = 0 ∧ q = q0 ∨ lv = 1 ∧ q = q1 ∨ lv = 2 ∧ q = q2 ∨ lv = 3 ∧ q = q3) →
      Calls Tryz.prog 39 #[.agg #[.int .i64 sl, .int .i64 q0, .int .i64 q1, .int .i64 q2, .int .i64 q3], .int .i64 now, .int .i64 lv] w fun e w' => e = .returned (.int .i64 (hzn q now)) ∧ Below w.heap.size w w' := by
    intro q lv hq hl
    obtain ⟨m1, m2⟩ := hq
    obtain ⟨hz, hhz⟩ : ∃ hz, hz = hzn q now := ⟨_, rfl⟩
    rw [← hhz]
    have HH := Lib.hid (hhz.trans (show hzn q now = if now / 8640 ≤ q then 0 else (now / 8640 - q) * 8640 from rfl))
    have hd1 : 0 ≤ now / 8640 ∧ now / 8640 ≤ 200000000 := by omega
    obtain ⟨hd1, hd2⟩ := hd1
    clear hhz
    rcases hl with ⟨rfl, rfl⟩ | ⟨rfl, rfl⟩ | ⟨rfl, rfl⟩ | ⟨rfl, rfl⟩
    all_goals
      go_enter Tryz.func39, Tryz.ntmps39
      go_wp2
      all_goals
        go_ret
        refine ⟨ret_i ?_, by (repeat (first | exact Below.refl _ _ | assumption | refine Below.drew ?_ | refine Below.alloc ?_ (by simp <;> omega) _ | refine Below.setCell ?_ (by simp <;> omega) _))⟩
        rw [HH.out]
        first | (rw [if_pos (by omega)]; try omega) | (rw [if_neg (by omega)]; try omega) | (split <;> omega)
  rcases k with _ | _ | _ | _ | k
  · exact key q0 0 hc0 (by simp)
  · exact key q1 1 hc1 (by simp)
  · exact key q2 2 hc2 (by simp)
  · exact key q3 3 hc3 (by simp)
  · omega
set_option maxHeartbeats 1000000 in
theorem C_ref_Coarsest (start step : Int) (w : World) (h0 : 0 ≤ start) (h1 : start ≤ 9223372036854775807) (h2 : 0 ≤ step) (h3 : step ≤ 9223372036854775807) :
    Calls Tryz.prog 40 #[.int .i64 start, .int .i64 step] w fun e w' => e = .returned (.int .i64 (coar start step 4)) ∧ w = w' := by
  obtain ⟨r, hr⟩ : ∃ r : Nat, r = coar start step 4 := ⟨_, rfl⟩
  rw [← hr]
  have HR0 := Lib.hid hr
  clear hr
  go_enter Tryz.func40, Tryz.ntmps40
  go_wp2_with fail
  go_loop [5] (fun i => ∃ l : Nat, l ≤ 3 ∧ i = .int .i64 l ∧ r = coar start step (l + 1)) (fun i => (intOf i).toNat)
  case atStart => exact ⟨3, by omega, rfl, HR0.out⟩
  case round =>
    obtain ⟨l, hl, rfl, hrl⟩ := hrel
    have HRL := Lib.hid hrl
    clear hrl
    by_cases hl0 : l = 0
    · have hr0 : r = 0 := by rw [HRL.out, hl0]; unfold coar; split <;> rfl
      have HZ := Lib.hid hr0
      subst hl0
      clear hr0
      go_wp2
      go_ret
      exact ⟨ret_i (by rw [HZ.out]; rfl), rfl⟩
    · have hlp : (0 : Int) < (l : Int) := by omega
      have hlp2 : 0 < l := by omega
      have hlt : l < 4 := by omega
      have hrp := resN_pos l
      have hrz : (resN l == 0) = false := by simp; omega
      have hrn : resN l ≠ 0 := by omega
      have hcs : coar start step (l + 1) = if start % resN l = 0 ∧ step % resN l = 0 then l else coar start step l := rfl
      have HC := Lib.hid (HRL.out.trans hcs)
      have hw : IntKind.i64.wrap ((l : Int) - 1) = (l : Int) - 1 := IntWalk.i64_in _ (by omega)
      have HCR : ∀ W, Calls Tryz.prog 74 #[.int .i64 l] W fun e w' => e = .returned (.int .i64 (resN l)) ∧ W = w' := fun W => C_ref_Res l hlt W
      have HCRH := Lib.hid HCR
      clear hcs HCR hl0
      have hlm : ((l : Int) - 1) = ((l - 1 : Nat) : Int) := by omega
      have HLM := Lib.hid hlm
      clear hlm
      by_cases a : start % resN l = 0
      · have a1 : (start % resN l == 0) = true := by simpa using a
        by_cases b : step % resN l = 0
        · have b1 : (step % resN l == 0) = true := by simpa using b
          have HN := Lib.hid (HC.out.trans (if_pos ⟨a, b⟩))
          clear a b HC
          go_wp2_with (go_at_call 74; refine (HCRH.out _).mono ?_; rintro e w1 ⟨rfl, rfl⟩)
          go_ret
          exact ⟨ret_i (by rw [HN.out]), rfl⟩
        · have b1 : (step % resN l == 0) = false := by simpa using b
          have HN := Lib.hid (HC.out.trans (if_neg (fun h => b h.2)))
          clear a b HC
          go_wp2_with (go_at_call 74; refine (HCRH.out _).mono ?_; rintro e w1 ⟨rfl, rfl⟩)
          go_round
          case rel => exact ⟨l - 1, by omega, by rw [HLM.out], by rw [HN.out]; congr 1; omega⟩
          case measure => simp [intOf]; omega
      · have a1 : (start % resN l == 0) = false := by simpa using a
        have HN := Lib.hid (HC.out.trans (if_neg (fun h => a h.1)))
        clear a HC
        go_wp2_with (go_at_call 74; refine (HCRH.out _).mono ?_; rintro e w1 ⟨rfl, rfl⟩)
        go_round
        case rel => exact ⟨l - 1, by omega, by rw [HLM.out], by rw [HN.out]; congr 1; omega⟩
        case measure => simp [intOf]; omega
theorem C_ref_Windows (start step n : Int) (w : World) (h0 : 0 ≤ start) (h2 : 1 ≤ step) (h4 : 1 ≤ n) (h5 : n ≤ 1000) :
    Calls Tryz.prog 24 #[.int .i64 start, .int .i64 step, .int .i64 n] w fun e w' => e = .returned (.int .i64 (if 1099511627776 < start ∨ (1099511627776 - start) / step < n then 0 else n)) ∧ w = w' := by
  obtain ⟨r, hr⟩ : ∃ r : Int, r = if 1099511627776 < start ∨ (1099511627776 - start) / step < n then 0 else n := ⟨_, rfl⟩
  rw [← hr]
  have HR := Lib.hid hr
  clear hr
  have hz : (step == 0) = false := by simp; omega
  have hz2 : step ≠ 0 := by omega
  by_cases a : 1099511627776 < start
  · have HN := Lib.hid (HR.out.trans (if_pos (.inl a)))
    go_enter Tryz.func24, Tryz.ntmps24
    go_wp2
    all_goals
      go_ret
      exact ⟨ret_i HN.out.symm, rfl⟩
  · by_cases b : 1099511627776 < step
    · have hq : (1099511627776 - start) / step = 0 := Int.ediv_eq_zero_of_lt (by omega) (by omega)
      have HN := Lib.hid (HR.out.trans (if_pos (.inr (by rw [hq]; omega))))
      clear hq
      go_enter Tryz.func24, Tryz.ntmps24
      go_wp2
      all_goals
        go_ret
        exact ⟨ret_i HN.out.symm, rfl⟩
    · obtain ⟨q, hq1, hq2, hq3, hq4, hq5⟩ := quo_facts h0 (by omega) h2
      have hqb : q ≤ 1099511627776 := by rw [← hq4]; have := Int.ediv_le_self (a := 1099511627776 - start) step (by omega); omega
      rw [hq4] at HR
      by_cases c : q < n
      · have HN := Lib.hid (HR.out.trans (if_pos (.inr c)))
        go_enter Tryz.func24, Tryz.ntmps24
        go_wp2
        all_goals
          go_ret
          exact ⟨ret_i HN.out.symm, rfl⟩
      · have HN := Lib.hid (HR.out.trans (if_neg (by omega)))
        go_enter Tryz.func24, Tryz.ntmps24
        go_wp2
        all_goals
          go_ret
          first | exact ⟨ret_i HN.out.symm, rfl⟩ | (exfalso; omega)
end Go.Proofs.YtbefkiebdokbdaaGreat.V
end

section
/- The reference's calendar: a config that may be. -/
namespace Go.Proofs.YtbefkiebdokbdaaGreat.V
open Go.RowKit
set_option linter.unusedVariables false
set_option maxRecDepth 100000

def Conf.ok (c : Conf) : Prop := ∀ j, j < 4 → 1 ≤ c.keep j ∧ c.keep j ≤ 100000
def Conf.wf (c : Conf) : Prop := I64 c.slack ∧ I64 c.k0 ∧ I64 c.k1 ∧ I64 c.k2 ∧ I64 c.k3
def ConfP (w : World) (c : Conf) (e : Ending) (w' : World) : Prop := ∃ r : Bool, e = .returned (.bool r) ∧ Below w.heap.size w w' ∧ (r = true → c.ok)
set_option maxHeartbeats 2000000 in
theorem C_ref15_Check (c : Conf) (w : World) (hw : c.wf) : Calls Tryz.prog 11 #[.agg (confL c).toArray] w (ConfP w c) := by
  have hbox := Blk.new w (confL c) 24
  have hbW : Below w.heap.size w (w.alloc (.cells (confL c).toArray 24)) := (Below.refl _ _).alloc (Nat.le_refl _) _
  have hcell : ∀ (W : World) (k : Nat), Blk W w.heap.size (confL c) 24 → k < 4 → W.cell? ⟨w.heap.size, 1 + k, none⟩ = some (.int .i64 (c.keep k)) := fun W k hB hk => by
    rcases k with _ | _ | _ | _ | k
    · exact hB.c 1 rfl
    · exact hB.c 2 rfl
    · exact hB.c 3 rfl
    · exact hB.c 4 rfl
    · omega
  have HC := Lib.hid hcell
  clear hcell
  go_enter Tryz.func11, Tryz.ntmps11
  go_wp2_with fail
  all_goals first
    | (go_ret; exact ⟨false, rfl, hbW, fun h => by cases h⟩)
    | skip
  show Code.wp _ _ _ _ (w.alloc (.cells (confL c).toArray 24))
  generalize w.alloc (.cells (confL c).toArray 24) = W at *
  go_loopw [3] (fun i wr => ∃ k : Nat, k ≤ 4 ∧ i = .int .i64 k ∧ (∀ j, j < k → 1 ≤ c.keep j ∧ c.keep j ≤ 100000) ∧ Blk wr w.heap.size (confL c) 24 ∧ Below w.heap.size w wr) (fun i _ => 4 - (intOf i).toNat)
  case atStart => exact ⟨0, by omega, rfl, fun j h => by omega, hbox, hbW⟩
  case round =>
    obtain ⟨k, hk, rfl, hpre, hB, hbl⟩ := hrel
    have HP := Lib.hid hpre
    clear hpre hbox hbW
    by_cases hlt : k < 4
    · have x1 := HC.out wr k hB hlt
      have hbd : ∀ n, Below w.heap.size w (wr.drewN n) := fun n => ⟨hbl.os, hbl.tape, hbl.output, hbl.size, hbl.block⟩
      have HBD := Lib.hid hbd
      have hBd : ∀ n, Blk (wr.drewN n) w.heap.size (confL c) 24 := fun n => hB
      have HBB := Lib.hid hBd
      have i1 : (0 : Int) ≤ (k : Int) := by omega
      have i2 : (k : Int) < 4 := by omega
      have hE : 1 ≤ c.keep k ∧ c.keep k ≤ 100000 → ∀ j, j < k + 1 → 1 ≤ c.keep j ∧ c.keep j ≤ 100000 := fun h j hj => by
        by_cases e : j = k
        · rw [e]; exact h
        · exact HP.out j (by omega)
      have HE := Lib.hid hE
      clear hbd hBd hE
      generalize hv : c.keep k = v at *
      have HV := Lib.hid hv
      clear hv
      by_cases a1 : v < 1
      · have d1 : decide (v < 1) = true := by rw [decide_eq_true_iff]; exact a1
        clear hB hbl
        go_wp2_with fail
        go_quiet (fail)
        go_wp2
        go_ret
        exact ⟨false, rfl, HBD.out _, fun h => by cases h⟩
      · have d1 : decide (v < 1) = false := by rw [decide_eq_false_iff_not]; exact a1
        by_cases a2 : 100000 < v
        · have d2 : decide (100000 < v) = true := by rw [decide_eq_true_iff]; exact a2
          clear hB hbl
          go_wp2_with fail
          go_quiet (fail)
          go_wp2
          go_ret
          exact ⟨false, rfl, HBD.out _, fun h => by cases h⟩
        · have d2 : decide (100000 < v) = false := by rw [decide_eq_false_iff_not]; exact a2
          have HS := Lib.hid (HE.out ⟨by omega, by omega⟩)
          by_cases h4 : k = 0
          · have hd3 : decide ((0 : Int) < (k : Int)) = false := by simp; omega
            have hd4 : decide (0 < k) = false := by simp; omega
            clear hB hbl h4
            go_wp2_with fail
            go_quiet (fail)
            go_wp2
            go_roundw
            case rel => exact ⟨k + 1, by omega, by go_num, HS.out, HBB.out _, HBD.out _⟩
            case measure => simp [intOf]; omega
          · have x2 := HC.out wr (k - 1) hB (by omega)
            have hd3 : decide ((0 : Int) < (k : Int)) = true := by simp; omega
            have hd4 : decide (0 < k) = true := by simp; omega
            have hs : IntKind.i64.wrap ((k : Int) - 1) = (k : Int) - 1 := IntWalk.i64_in _ (by omega)
            have hs1 : (0 : Int) ≤ (k : Int) - 1 := by omega
            have hs2 : ((k : Int) - 1).toNat = k - 1 := by omega
            have hs3 : (k : Int) - 1 < 4 := by omega
            generalize c.keep (k - 1) = u at *
            by_cases a3 : v < u
            · have d3 : decide (v < u) = true := by rw [decide_eq_true_iff]; exact a3
              clear hB hbl h4
              go_wp2_with fail
              go_quiet (fail)
              go_wp2
              go_ret
              exact ⟨false, rfl, HBD.out _, fun h => by cases h⟩
            · have d3 : decide (v < u) = false := by rw [decide_eq_false_iff_not]; exact a3
              clear hB hbl h4
              go_wp2_with fail
              go_quiet (fail)
              clear hs hs1 hs2 hs3
              go_wp2
              go_roundw
              case rel => exact ⟨k + 1, by omega, by go_num, HS.out, HBB.out _, HBD.out _⟩
              case measure => simp [intOf]; omega
    · obtain rfl : k = 4 := by omega
      go_wp2
      go_ret
      exact ⟨true, rfl, hbl, fun _ j hj => HP.out j hj⟩
end Go.Proofs.YtbefkiebdokbdaaGreat.V
end
