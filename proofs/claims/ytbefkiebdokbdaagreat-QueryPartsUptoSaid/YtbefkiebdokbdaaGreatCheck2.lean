/- query.Check: what is too much. -/
import Derived.Test.YtbefkiebdokbdaaGreatCheck
import Derived.BigGuardPart
import Derived.Deep.RegionHeld3
namespace Go.Proofs.YtbefkiebdokbdaaGreat.V
open Go.RowKit
set_option linter.unusedVariables false
set_option maxRecDepth 100000

theorem quo_facts {start step : Int} (h0 : 0 ≤ start) (h1 : start ≤ 1099511627776) (h2 : 1 ≤ step) : ∃ q : Int, IntKind.i64.wrap (1099511627776 - start) = 1099511627776 - start ∧ Int.tdiv (1099511627776 - start) step = q ∧ IntKind.i64.wrap q = q ∧ (1099511627776 - start) / step = q ∧ 0 ≤ q := by
  have a1 : Int.tdiv (1099511627776 - start) step = (1099511627776 - start) / step := Int.tdiv_eq_ediv_of_nonneg (by omega)
  have a2 : 0 ≤ (1099511627776 - start) / step := Int.ediv_nonneg (by omega) (by omega)
  have a3 : (1099511627776 - start) / step ≤ 1099511627776 - start := Int.ediv_le_self _ (by omega)
  exact ⟨_, IntWalk.i64_in _ (by omega), a1, IntWalk.i64_in _ (by omega), rfl, a2⟩
section
variable (m0 m1 m2 m3 m4 : Value) (mb : Bool) (c : Conf) (now start step n kind a b : Int) (w : World)
/-- What the walk has behind the first test. -/
structure ChkI (w w1 : World) (c : Conf) (start step n kind a b : Int) (m0 m1 m2 m3 m4 : Value) : Prop where
  conf : Blk w1 w.heap.size (confL c) 24
  ask : Blk w1 (w.heap.size + 1) [m0, m1, m2, m3, m4, .int .i64 start, .int .i64 step, .int .i64 n, .int .i64 kind, .int .u64 a, .int .u64 b] 31
  below : Below w.heap.size w w1
set_option maxHeartbeats 4000000 in
theorem C_Check_big (hm : ∀ W, Below w.heap.size w W → Calls Tryz.prog 36 #[.agg #[m0, m1, m2, m3, m4]] W fun e w' => e = .returned (.bool mb) ∧ Below W.heap.size W w')
    (ha : U64 a) (hb : U64 b) (hn : I64 n) (h : ¬ qBad mb start step n kind a b) (h2 : qBig start step n) :
    Calls Tryz.prog 14 #[.agg (confL c).toArray, .int .i64 now, .agg #[m0, m1, m2, m3, m4, .int .i64 start, .int .i64 step, .int .i64 n, .int .i64 kind, .int .u64 a, .int .u64 b]] w fun e w' => e = .returned (.int .i64 10) ∧ Below w.heap.size w w' := by
  obtain ⟨a1, a2⟩ := ha
  obtain ⟨b1, b2⟩ := hb
  obtain ⟨n1, n2⟩ := hn
  have hd : mb = true ∧ 0 ≤ start ∧ 1 ≤ step ∧ 1 ≤ n ∧ ((1 ≤ kind ∧ kind ≤ 6 ∧ kind ≠ 2) ∨ (kind = 2 ∧ 1 ≤ b ∧ a ≤ b)) := by
    unfold qBad at h
    cases mb
    · exact absurd (.inl rfl) h
    · simp only [Bool.true_eq_false, false_or, true_and] at h ⊢
      omega
  obtain ⟨rfl, g1, g2, g3, hk⟩ := hd
  have h3 : 1000 < n ∨ (n ≤ 1000 ∧ 1099511627776 < start) ∨ (n ≤ 1000 ∧ start ≤ 1099511627776 ∧ (1099511627776 - start) / step < n) := by unfold qBig at h2; omega
  have HM := Lib.hid hm
  clear hm h h2
  obtain ⟨W, hW⟩ : ∃ W, W = (w.alloc (.cells (confL c).toArray 24)).alloc (.cells #[m0, m1, m2, m3, m4, .int .i64 start, .int .i64 step, .int .i64 n, .int .i64 kind, .int .u64 a, .int .u64 b] 31) := ⟨_, rfl⟩
  have hbW : Below w.heap.size w W := hW ▸ ((Below.refl _ _).alloc (Nat.le_refl _) _).alloc (by simp) _
  have hB : Blk W (w.heap.size + 1) [m0, m1, m2, m3, m4, .int .i64 start, .int .i64 step, .int .i64 n, .int .i64 kind, .int .u64 a, .int .u64 b] 31 := by
    have := Blk.new (w.alloc (.cells (confL c).toArray 24)) [m0, m1, m2, m3, m4, .int .i64 start, .int .i64 step, .int .i64 n, .int .i64 kind, .int .u64 a, .int .u64 b] 31
    have e1 : (w.alloc (.cells (confL c).toArray 24)).heap.size = w.heap.size + 1 := by simp
    rw [e1] at this
    rw [hW]; exact this
  rcases hk with ⟨k1, k2, k3⟩ | ⟨rfl, k1, k2⟩
  all_goals
    try have z1 : (kind == 2) = false := by simp; omega
    try have z2 : (b == 0) = false := by simp; omega
    first | (have t0 : decide (kind < 1) = true := by rw [decide_eq_true_iff]; omega) | (have t0 : decide (kind < 1) = false := by rw [decide_eq_false_iff_not]; omega) | skip
    first | (have t1 : decide (6 < kind) = true := by rw [decide_eq_true_iff]; omega) | (have t1 : decide (6 < kind) = false := by rw [decide_eq_false_iff_not]; omega) | skip
    first | (have t2 : decide (start < 0) = true := by rw [decide_eq_true_iff]; omega) | (have t2 : decide (start < 0) = false := by rw [decide_eq_false_iff_not]; omega) | skip
    first | (have t3 : decide (step < 1) = true := by rw [decide_eq_true_iff]; omega) | (have t3 : decide (step < 1) = false := by rw [decide_eq_false_iff_not]; omega) | skip
    first | (have t4 : decide (n < 1) = true := by rw [decide_eq_true_iff]; omega) | (have t4 : decide (n < 1) = false := by rw [decide_eq_false_iff_not]; omega) | skip
    first | (have t5 : decide (b < a) = true := by rw [decide_eq_true_iff]; omega) | (have t5 : decide (b < a) = false := by rw [decide_eq_false_iff_not]; omega) | skip
    have z3 : (step == 0) = false := by simp; omega
    have z4 : step ≠ 0 := by omega
    rcases h3 with h3 | ⟨h3, h4⟩ | ⟨h3, h4, h5⟩
    all_goals
      first | (have s0 : decide (1000 < n) = true := by rw [decide_eq_true_iff]; omega) | (have s0 : decide (1000 < n) = false := by rw [decide_eq_false_iff_not]; omega) | skip
      first | (have s1 : decide (1099511627776 < start) = true := by rw [decide_eq_true_iff]; omega) | (have s1 : decide (1099511627776 < start) = false := by rw [decide_eq_false_iff_not]; omega) | skip
      go_enter Tryz.func14, Tryz.ntmps14
      go_wp2_with fail
      rw [← hW]
      refine (HM.out W hbW).mono ?_
      rintro e w1 ⟨rfl, hb1⟩
      have hB1 := hB.below hb1
      have x5 := hB1.c 5 rfl
      have x6 := hB1.c 6 rfl
      have x7 := hB1.c 7 rfl
      have x8 := hB1.c 8 rfl
      have x9 := hB1.c 9 rfl
      have x10 := hB1.c 10 rfl
      have hfin := hbW.trans (hb1.mono hbW.size)
      clear hB hB1 hW HM hb1 hbW
      try (have hq : start ≤ 1099511627776 := by omega; obtain ⟨q, hq1, hq2, hq3, hq4, hq5⟩ := quo_facts g1 hq g2; try rw [hq4] at h5; try (have t9 : decide (q < n) = true := (by rw [decide_eq_true_iff]; exact h5)); try (have t9 : decide (q < n) = false := (by rw [decide_eq_false_iff_not]; exact h5)); clear hq4 hq)
      go_wp2
      go_quiet (fail)
      go_wp2
      go_ret
      exact ⟨rfl, hfin.trans ⟨rfl, rfl, rfl, Nat.le_refl _, fun _ _ => rfl⟩⟩
set_option maxHeartbeats 4000000 in
theorem C_Check_end (hm : ∀ W, Below w.heap.size w W → Calls Tryz.prog 36 #[.agg #[m0, m1, m2, m3, m4]] W fun e w' => e = .returned (.bool mb) ∧ Below W.heap.size W w')
    (ha : U64 a) (hb : U64 b) (hn : I64 n) (h : ¬ qBad mb start step n kind a b) (h2 : ¬ qBig start step n) (h0 : 0 ≤ now) (h1 : now ≤ 1099511627776) (hc0 : 1 ≤ c.k0 ∧ c.k0 ≤ 100000) (hc1 : 1 ≤ c.k1 ∧ c.k1 ≤ 100000) (hc2 : 1 ≤ c.k2 ∧ c.k2 ≤ 100000) (hc3 : 1 ≤ c.k3 ∧ c.k3 ≤ 100000) (hst : step ≤ 9223372036854775807) :
    Calls Tryz.prog 14 #[.agg (confL c).toArray, .int .i64 now, .agg #[m0, m1, m2, m3, m4, .int .i64 start, .int .i64 step, .int .i64 n, .int .i64 kind, .int .u64 a, .int .u64 b]] w fun e w' => e = .returned (.int .i64 (if start < hzn (c.keep (coar start step 4)) now then 9 else 0)) ∧ Below w.heap.size w w' := by
  obtain ⟨a1, a2⟩ := ha
  obtain ⟨b1, b2⟩ := hb
  obtain ⟨n1, n2⟩ := hn
  have hd : mb = true ∧ 0 ≤ start ∧ 1 ≤ step ∧ 1 ≤ n ∧ ((1 ≤ kind ∧ kind ≤ 6 ∧ kind ≠ 2) ∨ (kind = 2 ∧ 1 ≤ b ∧ a ≤ b)) := by
    unfold qBad at h
    cases mb
    · exact absurd (.inl rfl) h
    · simp only [Bool.true_eq_false, false_or, true_and] at h ⊢
      omega
  obtain ⟨rfl, g1, g2, g3, hk⟩ := hd
  have h3 : n ≤ 1000 ∧ start ≤ 1099511627776 ∧ n ≤ (1099511627776 - start) / step := by unfold qBig at h2; omega
  have HM := Lib.hid hm
  clear hm h h2
  obtain ⟨h3, h4, h5⟩ := h3
  have hcl := coar_3 start step
  have HZ : ∀ W, Calls Tryz.prog 37 #[.agg (confL c).toArray, .int .i64 now, .int .i64 (coar start step 4)] W fun e w' => e = .returned (.int .i64 (hzn (c.keep (coar start step 4)) now)) ∧ Below W.heap.size W w' := fun W => C_Horizon c now _ W hcl h0 h1 hc0 hc1 hc2 hc3
  have HZH := Lib.hid HZ
  clear HZ hc0 hc1 hc2 hc3
  obtain ⟨hz, hhz⟩ : ∃ hz, hz = hzn (c.keep (coar start step 4)) now := ⟨_, rfl⟩
  rw [← hhz] at HZH ⊢
  clear hhz
  obtain ⟨r, hr⟩ : ∃ r : Int, r = if start < hz then 9 else 0 := ⟨_, rfl⟩
  rw [← hr]
  have HR := Lib.hid hr
  clear hr
  obtain ⟨W, hW⟩ : ∃ W, W = (w.alloc (.cells (confL c).toArray 24)).alloc (.cells #[m0, m1, m2, m3, m4, .int .i64 start, .int .i64 step, .int .i64 n, .int .i64 kind, .int .u64 a, .int .u64 b] 31) := ⟨_, rfl⟩
  have hbW : Below w.heap.size w W := hW ▸ ((Below.refl _ _).alloc (Nat.le_refl _) _).alloc (by simp) _
  have hB : Blk W (w.heap.size + 1) [m0, m1, m2, m3, m4, .int .i64 start, .int .i64 step, .int .i64 n, .int .i64 kind, .int .u64 a, .int .u64 b] 31 := by
    have := Blk.new (w.alloc (.cells (confL c).toArray 24)) [m0, m1, m2, m3, m4, .int .i64 start, .int .i64 step, .int .i64 n, .int .i64 kind, .int .u64 a, .int .u64 b] 31
    have e1 : (w.alloc (.cells (confL c).toArray 24)).heap.size = w.heap.size + 1 := by simp
    rw [e1] at this
    rw [hW]; exact this
  have hC : Blk W w.heap.size (confL c) 24 := by
    rw [hW]; exact (Blk.new w (confL c) 24).below ((Below.refl _ _).alloc (Nat.le_refl _) _)
  rcases hk with ⟨k1, k2, k3⟩ | ⟨rfl, k1, k2⟩
  all_goals
    try have z1 : (kind == 2) = false := by simp; omega
    try have z2 : (b == 0) = false := by simp; omega
    first | (have t0 : decide (kind < 1) = true := by rw [decide_eq_true_iff]; omega) | (have t0 : decide (kind < 1) = false := by rw [decide_eq_false_iff_not]; omega) | skip
    first | (have t1 : decide (6 < kind) = true := by rw [decide_eq_true_iff]; omega) | (have t1 : decide (6 < kind) = false := by rw [decide_eq_false_iff_not]; omega) | skip
    first | (have t2 : decide (start < 0) = true := by rw [decide_eq_true_iff]; omega) | (have t2 : decide (start < 0) = false := by rw [decide_eq_false_iff_not]; omega) | skip
    first | (have t3 : decide (step < 1) = true := by rw [decide_eq_true_iff]; omega) | (have t3 : decide (step < 1) = false := by rw [decide_eq_false_iff_not]; omega) | skip
    first | (have t4 : decide (n < 1) = true := by rw [decide_eq_true_iff]; omega) | (have t4 : decide (n < 1) = false := by rw [decide_eq_false_iff_not]; omega) | skip
    first | (have t5 : decide (b < a) = true := by rw [decide_eq_true_iff]; omega) | (have t5 : decide (b < a) = false := by rw [decide_eq_false_iff_not]; omega) | skip
    have z3 : (step == 0) = false := by simp; omega
    have z4 : step ≠ 0 := by omega
    all_goals
      first | (have s0 : decide (1000 < n) = true := by rw [decide_eq_true_iff]; omega) | (have s0 : decide (1000 < n) = false := by rw [decide_eq_false_iff_not]; omega) | skip
      first | (have s1 : decide (1099511627776 < start) = true := by rw [decide_eq_true_iff]; omega) | (have s1 : decide (1099511627776 < start) = false := by rw [decide_eq_false_iff_not]; omega) | skip
      go_enter Tryz.func14, Tryz.ntmps14
      go_wp2_with fail
      rw [← hW]
      refine (HM.out W hbW).mono ?_
      rintro e w1 ⟨rfl, hb1⟩
      have hB1 := hB.below hb1
      have x5 := hB1.c 5 rfl
      have x6 := hB1.c 6 rfl
      have x7 := hB1.c 7 rfl
      have x8 := hB1.c 8 rfl
      have x9 := hB1.c 9 rfl
      have x10 := hB1.c 10 rfl
      have hC1 := (hC.below hb1)
      have y0 := hC1.c 0 rfl
      have y1 := hC1.c 1 rfl
      have y2 := hC1.c 2 rfl
      have y3 := hC1.c 3 rfl
      have y4 := hC1.c 4 rfl
      have hfin := hbW.trans (hb1.mono hbW.size)
      clear hB hB1 hC hC1 hW HM hb1 hbW
      try (have hq : start ≤ 1099511627776 := by omega; obtain ⟨q, hq1, hq2, hq3, hq4, hq5⟩ := quo_facts g1 hq g2; try rw [hq4] at h5; try (have t9 : decide (q < n) = true := (by rw [decide_eq_true_iff]; exact h5)); try (have t9 : decide (q < n) = false := (by rw [decide_eq_false_iff_not]; exact h5)); clear hq4 hq)
      go_wp2
      go_quiet (fail)
      go_wp2
      have hF : Below w1.heap.size w1 (w1.drewN nq) := ⟨rfl, rfl, rfl, Nat.le_refl _, fun _ _ => rfl⟩
      have hfin2 := hfin.trans (hF.mono hfin.size)
      have u5 := bcell hF x5
      have u6 := bcell hF x6
      have u0 := bcell hF y0
      have u1 := bcell hF y1
      have u2 := bcell hF y2
      have u3 := bcell hF y3
      have u4 := bcell hF y4
      clear x5 x6 x7 x8 x9 x10 y0 y1 y2 y3 y4 hF hfin
      generalize w1.drewN nq = w2 at *
      go_region_held3 (fun w' => w'.cell? ⟨w.heap.size + 1, 5, none⟩ = some (.int .i64 start) ∧ w'.cell? ⟨w.heap.size + 1, 6, none⟩ = some (.int .i64 step) ∧ w'.cell? ⟨w.heap.size, 0, none⟩ = some (.int .i64 c.slack) ∧ w'.cell? ⟨w.heap.size, 1, none⟩ = some (.int .i64 c.k0) ∧ w'.cell? ⟨w.heap.size, 2, none⟩ = some (.int .i64 c.k1) ∧ w'.cell? ⟨w.heap.size, 3, none⟩ = some (.int .i64 c.k2) ∧ w'.cell? ⟨w.heap.size, 4, none⟩ = some (.int .i64 c.k3))
        ((first | exact ⟨u5, u6, u0, u1, u2, u3, u4⟩ | exact ⟨v5, v6, v0, v1, v2, v3, v4⟩ | exact ⟨q5, q6, q0, q1, q2, q3, q4⟩))
        (first
          | (go_at_call 38; refine (C_Coarsest start step _ g1 (by omega) (by omega) hst).mono ?_; rintro e wa ⟨rfl, hba⟩; have v5 := bcell hba (cdrew u5); have v6 := bcell hba (cdrew u6); have v0 := bcell hba (cdrew u0); have v1 := bcell hba (cdrew u1); have v2 := bcell hba (cdrew u2); have v3 := bcell hba (cdrew u3); have v4 := bcell hba (cdrew u4))
          | (go_at_call 37; refine (HZH.out _).mono ?_; rintro e wb ⟨rfl, hbb⟩; have q5 := bcell hbb v5; have q6 := bcell hbb v6; have q0 := bcell hbb v0; have q1 := bcell hbb v1; have q2 := bcell hbb v2; have q3 := bcell hbb v3; have q4 := bcell hbb v4))
      have hfin3 := (hfin2.drew).trans ((hba.mono (show w.heap.size ≤ w2.drew.heap.size from hfin2.size)).trans (hbb.mono (Nat.le_trans (show w.heap.size ≤ w2.drew.heap.size from hfin2.size) hba.size)))
      clear u5 u6 u0 u1 u2 u3 u4 v5 v6 v0 v1 v2 v3 v4 q5 q6 q0 q1 q2 q3 q4 hba hbb hfin2
      by_cases hlz : start < hz
      · go_wp2
        go_ret
        exact ⟨ret_i (by rw [HR.out, if_pos hlz]), hfin3⟩
      · go_wp2
        go_ret
        exact ⟨ret_i (by rw [HR.out, if_neg (by omega)]), hfin3⟩
end
end Go.Proofs.YtbefkiebdokbdaaGreat.V
