/- Part 28 of the proof: Checks. -/
import Derived.Test.YtbefkiebdokbdaaGreatB17
import Derived.Test.YtbefkiebdokbdaaGreatB21
import Derived.Test.YtbefkiebdokbdaaGreatB23
import Derived.Test.YtbefkiebdokbdaaGreatB27

section
/- varvelaw23.QueryChecks: the walk. -/
namespace Go.Proofs.YtbefkiebdokbdaaGreat.V
open Go.RowKit
set_option linter.unusedVariables false
set_option maxRecDepth 100000

/-- What both answer. -/
noncomputable def qRes (mb : Bool) (c : Conf) (now start step n kind a b : Int) : Int :=
  @ite _ (qBad mb start step n kind a b) (Classical.propDecidable _) 5 (@ite _ (qBig start step n) (Classical.propDecidable _) 10 (if start < hzn (c.keep (coar start step 4)) now then 9 else 0))
section
variable {c : Conf} {now : Int} {a : Ask} {w : World} {vs : List Value}
theorem C_Check_all (hc : c.ok) (h0 : 0 ≤ now) (h1 : now ≤ 1099511627776) (hA : AskRep (fun k => k < w.heap.size) w vs a) :
    Calls Tryz.prog 14 #[.agg (confL c).toArray, .int .i64 now, .agg vs.toArray] w fun e w' => e = .returned (.int .i64 (qRes (holdsB a.m 1 64 4096) c now a.start a.step a.n a.kind a.a a.b)) ∧ Below w.heap.size w w' := by
  obtain ⟨A1, c1, A2, c2, hvs, hM⟩ := AskRep.open_ hA
  obtain ⟨_, _, _, h2, h3, h4, h5, h6, h7⟩ := hA
  subst hvs
  have hm : ∀ W, Below w.heap.size w W → Calls Tryz.prog 36 #[.agg #[.int .i64 a.m.op, .string a.m.name, .string a.m.value, .slice A1 a.m.values.length c1, .slice A2 a.m.kids.length c2]] W fun e w' => e = .returned (.bool (holdsB a.m 1 64 4096)) ∧ Below W.heap.size W w' :=
    fun W hb => C_match_Check (fun k => k < W.heap.size) a.m _ W (fun k h => h) ((hM.keep (Keeps.of_below hb)).mono (fun k _ h => Nat.lt_of_lt_of_le h hb.size))
  unfold qRes
  by_cases q1 : qBad (holdsB a.m 1 64 4096) a.start a.step a.n a.kind a.a a.b
  · rw [if_pos q1]
    exact C_Check_bad _ _ _ _ _ _ c now a.start a.step a.n a.kind a.a a.b w hm h6 h7 q1
  · rw [if_neg q1]
    by_cases q2 : qBig a.start a.step a.n
    · rw [if_pos q2]
      exact C_Check_big _ _ _ _ _ _ c now a.start a.step a.n a.kind a.a a.b w hm h6 h7 h4 q1 q2
    · rw [if_neg q2]
      exact C_Check_end _ _ _ _ _ _ c now a.start a.step a.n a.kind a.a a.b w hm h6 h7 h4 q1 q2 h0 h1 (hc 0 (by omega)) (hc 1 (by omega)) (hc 2 (by omega)) (hc 3 (by omega)) h3.2
theorem C_rCheck_all (hc : c.ok) (h0 : 0 ≤ now) (h1 : now ≤ 1099511627776) (hA : AskRep (fun k => k < w.heap.size) w vs a) :
    Calls Tryz.prog 16 #[.agg (confL c).toArray, .int .i64 now, .agg vs.toArray] w fun e w' => e = .returned (.int .i64 (qRes (holdsB a.m 1 64 4096) c now a.start a.step a.n a.kind a.a a.b)) ∧ Below w.heap.size w w' := by
  obtain ⟨A1, c1, A2, c2, hvs, hM⟩ := AskRep.open_ hA
  obtain ⟨_, _, _, h2, h3, h4, h5, h6, h7⟩ := hA
  subst hvs
  have hm : ∀ W, Below w.heap.size w W → Calls Tryz.prog 21 #[.agg #[.int .i64 a.m.op, .string a.m.name, .string a.m.value, .slice A1 a.m.values.length c1, .slice A2 a.m.kids.length c2]] W fun e w' => e = .returned (.bool (holdsB a.m 1 64 4096)) ∧ Below W.heap.size W w' :=
    fun W hb => C_ref_Check (fun k => k < W.heap.size) a.m _ W (fun k h => h) ((hM.keep (Keeps.of_below hb)).mono (fun k _ h => Nat.lt_of_lt_of_le h hb.size))
  unfold qRes
  by_cases q1 : qBad (holdsB a.m 1 64 4096) a.start a.step a.n a.kind a.a a.b
  · rw [if_pos q1]
    exact C_rCheck_bad _ _ _ _ _ _ c now a.start a.step a.n a.kind a.a a.b w hm h6 h7 q1
  · rw [if_neg q1]
    by_cases q2 : qBig a.start a.step a.n
    · rw [if_pos q2]
      exact C_rCheck_big _ _ _ _ _ _ c now a.start a.step a.n a.kind a.a a.b w hm h6 h7 h4 q1 q2
    · rw [if_neg q2]
      exact C_rCheck_end _ _ _ _ _ _ c now a.start a.step a.n a.kind a.a a.b w hm h6 h7 h4 q1 q2 h0 h1 (hc 0 (by omega)) (hc 1 (by omega)) (hc 2 (by omega)) (hc 3 (by omega)) h3.2
end
set_option maxHeartbeats 4000000 in
theorem C_Checks (c : Conf) (now : Int) (a : Ask) (vs : List Value) (w : World) (hc : c.wf) (hgood : MGood 1048576 a.m) (hA : AskRep (fun k => k < w.heap.size) w vs a) :
    Calls Tryz.prog 3 #[.agg (confL c).toArray, .int .i64 now, .agg vs.toArray] w fun e w' => e = .returned (.bool true) ∧ Below w.heap.size w w' := by
  obtain ⟨A1, c1, A2, c2, rfl, hM⟩ := AskRep.open_ hA
  have hA0 := hA
  obtain ⟨W, hW⟩ : ∃ W, W = (w.alloc (.cells (confL c).toArray 24)).alloc (.cells (aL a.m.op a.m.name a.m.value A1 a.m.values.length c1 A2 a.m.kids.length c2 a).toArray 31) := ⟨_, rfl⟩
  have hbW : Below w.heap.size w W := hW ▸ ((Below.refl _ _).alloc (Nat.le_refl _) _).alloc (by simp) _
  have hQ : Blk W (w.heap.size + 1) (aL a.m.op a.m.name a.m.value A1 a.m.values.length c1 A2 a.m.kids.length c2 a) 31 := by
    have := Blk.new (w.alloc (.cells (confL c).toArray 24)) (aL a.m.op a.m.name a.m.value A1 a.m.values.length c1 A2 a.m.kids.length c2 a) 31
    have e1 : (w.alloc (.cells (confL c).toArray 24)).heap.size = w.heap.size + 1 := by simp
    rw [e1] at this
    rw [hW]; exact this
  have hC : Blk W w.heap.size (confL c) 24 := by
    rw [hW]; exact (Blk.new w (confL c) 24).below ((Below.refl _ _).alloc (Nat.le_refl _) _)
  have HA := Lib.hid hA0
  have HM := Lib.hid hM
  clear hA hA0 hM
  go_enter Tryz.func3, Tryz.ntmps3
  go_wp2_with fail
  rw [← hW]
  clear hW
  refine (C_ref15_Check c W hc).mono ?_
  rintro e w1 ⟨r1, rfl, hb1, hr1⟩
  have hbw1 := hbW.trans (hb1.mono hbW.size)
  have hQ1 := hQ.below hb1
  have hC1 := hC.below hb1
  clear hQ hC
  cases r1
  · go_wp2_with (go_at_call 13; refine (C_awake _).mono ?_; rintro e wz ⟨rfl, hbz⟩)
    go_ret
    exact ⟨rfl, hbw1.trans (hbz.mono hbw1.size)⟩
  · have hcok := hr1 rfl
    have HCOK := Lib.hid hcok
    clear hr1 hcok
    have x0 := hQ1.c 0 rfl
    have x1 := hQ1.c 1 rfl
    have x2 := hQ1.c 2 rfl
    have x3 := hQ1.c 3 rfl
    have x4 := hQ1.c 4 rfl
    by_cases hn0 : now < 0
    · go_wp2_with (go_at_call 13; refine (C_awake _).mono ?_; rintro e wz ⟨rfl, hbz⟩)
      go_ret
      exact ⟨rfl, hbw1.trans (hbz.mono hbw1.size)⟩
    by_cases hn1 : 1099511627776 < now
    · go_wp2_with (go_at_call 13; refine (C_awake _).mono ?_; rintro e wz ⟨rfl, hbz⟩)
      all_goals
        go_ret
        exact ⟨rfl, hbw1.trans (hbz.mono hbw1.size)⟩
    have t1 : decide (now < 0) = false := by rw [decide_eq_false_iff_not]; exact hn0
    have t2 : decide (1099511627776 < now) = false := by rw [decide_eq_false_iff_not]; exact hn1
    obtain ⟨E, hE⟩ : ∃ E, E = qRes (holdsB a.m 1 64 4096) c now a.start a.step a.n a.kind a.a a.b := ⟨_, rfl⟩
    have hch : ∀ (X : World) (us : List Value), AskRep (fun k => k < X.heap.size) X us a → Calls Tryz.prog 14 #[.agg #[.int .i64 c.slack, .int .i64 c.k0, .int .i64 c.k1, .int .i64 c.k2, .int .i64 c.k3], .int .i64 now, .agg us.toArray] X fun e w' => e = .returned (.int .i64 E) ∧ Below X.heap.size X w' := fun X us h => by
      rw [hE]; exact C_Check_all HCOK.out (by omega) (by omega) h
    have hrc : ∀ (X : World), AskRep (fun k => k < X.heap.size) X (aL a.m.op a.m.name a.m.value A1 a.m.values.length c1 A2 a.m.kids.length c2 a) a → Calls Tryz.prog 16 #[.agg #[.int .i64 c.slack, .int .i64 c.k0, .int .i64 c.k1, .int .i64 c.k2, .int .i64 c.k3], .int .i64 now, .agg (aL a.m.op a.m.name a.m.value A1 a.m.values.length c1 A2 a.m.kids.length c2 a).toArray] X fun e w' => e = .returned (.int .i64 E) ∧ Below X.heap.size X w' := fun X h => by
      rw [hE]; exact C_rCheck_all HCOK.out (by omega) (by omega) h
    have HCH := Lib.hid hch
    have HRC := Lib.hid hrc
    clear hch hrc hE
    go_wp2_with fail
    have hm1 := (HM.out.keep (Keeps.of_below hbw1)).mono (ok' := fun k => k < w1.heap.size) (fun k _ h => Nat.lt_of_lt_of_le h hbw1.size)
    refine (C_Tiny (fun k => k < w1.heap.size) a.m _ w1 (fun k h => h) hm1).mono ?_
    rintro e w2 ⟨r2, rfl, hb2, hr2⟩
    have hbw2 := hbw1.trans (hb2.mono hbw1.size)
    have hQ2 := hQ1.below hb2
    have hC2 := hC1.below hb2
    clear x0 x1 x2 x3 x4 hQ1 hC1 hm1
    cases r2
    · go_wp2_with (go_at_call 13; refine (C_awake _).mono ?_; rintro e wz ⟨rfl, hbz⟩)
      go_ret
      exact ⟨rfl, hbw2.trans (hbz.mono hbw2.size)⟩
    · have hfit := hr2 rfl
      have HFIT := Lib.hid hfit
      clear hr2 hfit
      have hbd2 : Below w.heap.size w w2.drew := hbw2.drew
      have hcall := C_v_Ask a (aL a.m.op a.m.name a.m.value A1 a.m.values.length c1 A2 a.m.kids.length c2 a) w2.drew HFIT.out hgood (HA.out.lift hbd2)
      have HCP := Lib.hid hcall
      clear hcall
      have uc0 := hC2.c 0 rfl
      have uc1 := hC2.c 1 rfl
      have uc2 := hC2.c 2 rfl
      have uc3 := hC2.c 3 rfl
      have uc4 := hC2.c 4 rfl
      have ua0 := hQ2.c 0 rfl
      have ua1 := hQ2.c 1 rfl
      have ua2 := hQ2.c 2 rfl
      have ua3 := hQ2.c 3 rfl
      have ua4 := hQ2.c 4 rfl
      have ua5 := hQ2.c 5 rfl
      have ua6 := hQ2.c 6 rfl
      have ua7 := hQ2.c 7 rfl
      have ua8 := hQ2.c 8 rfl
      have ua9 := hQ2.c 9 rfl
      have ua10 := hQ2.c 10 rfl
      go_wp2_with fail
      go_region_held3 (fun w' => w'.cell? ⟨w.heap.size, 0, none⟩ = some (.int .i64 c.slack) ∧ w'.cell? ⟨w.heap.size, 1, none⟩ = some (.int .i64 c.k0) ∧ w'.cell? ⟨w.heap.size, 2, none⟩ = some (.int .i64 c.k1) ∧ w'.cell? ⟨w.heap.size, 3, none⟩ = some (.int .i64 c.k2) ∧ w'.cell? ⟨w.heap.size, 4, none⟩ = some (.int .i64 c.k3) ∧ w'.cell? ⟨w.heap.size + 1, 0, none⟩ = some (.int .i64 a.m.op) ∧ w'.cell? ⟨w.heap.size + 1, 1, none⟩ = some (.string a.m.name) ∧ w'.cell? ⟨w.heap.size + 1, 2, none⟩ = some (.string a.m.value) ∧ w'.cell? ⟨w.heap.size + 1, 3, none⟩ = some (.slice A1 a.m.values.length c1) ∧ w'.cell? ⟨w.heap.size + 1, 4, none⟩ = some (.slice A2 a.m.kids.length c2) ∧ w'.cell? ⟨w.heap.size + 1, 5, none⟩ = some (.int .i64 a.start) ∧ w'.cell? ⟨w.heap.size + 1, 6, none⟩ = some (.int .i64 a.step) ∧ w'.cell? ⟨w.heap.size + 1, 7, none⟩ = some (.int .i64 a.n) ∧ w'.cell? ⟨w.heap.size + 1, 8, none⟩ = some (.int .i64 a.kind) ∧ w'.cell? ⟨w.heap.size + 1, 9, none⟩ = some (.int .u64 a.a) ∧ w'.cell? ⟨w.heap.size + 1, 10, none⟩ = some (.int .u64 a.b))
        ((first | exact ⟨uc0, uc1, uc2, uc3, uc4, ua0, ua1, ua2, ua3, ua4, ua5, ua6, ua7, ua8, ua9, ua10⟩ | exact ⟨vc0, vc1, vc2, vc3, vc4, va0, va1, va2, va3, va4, va5, va6, va7, va8, va9, va10⟩ | exact ⟨pc0, pc1, pc2, pc3, pc4, pa0, pa1, pa2, pa3, pa4, pa5, pa6, pa7, pa8, pa9, pa10⟩ | exact ⟨qc0, qc1, qc2, qc3, qc4, qa0, qa1, qa2, qa3, qa4, qa5, qa6, qa7, qa8, qa9, qa10⟩ | exact ⟨rc0, rc1, rc2, rc3, rc4, ra0, ra1, ra2, ra3, ra4, ra5, ra6, ra7, ra8, ra9, ra10⟩))
        (first
          | (go_at_call 15; refine (HCP.out).mono ?_; rintro e wa ⟨us, rfl, hus, hba⟩; have vc0 := bcell hba (cdrew uc0); have vc1 := bcell hba (cdrew uc1); have vc2 := bcell hba (cdrew uc2); have vc3 := bcell hba (cdrew uc3); have vc4 := bcell hba (cdrew uc4); have va0 := bcell hba (cdrew ua0); have va1 := bcell hba (cdrew ua1); have va2 := bcell hba (cdrew ua2); have va3 := bcell hba (cdrew ua3); have va4 := bcell hba (cdrew ua4); have va5 := bcell hba (cdrew ua5); have va6 := bcell hba (cdrew ua6); have va7 := bcell hba (cdrew ua7); have va8 := bcell hba (cdrew ua8); have va9 := bcell hba (cdrew ua9); have va10 := bcell hba (cdrew ua10))
          | (go_at_call 14; refine (HCH.out wa us (hus.mono (fun k hk _ => hk))).mono ?_; rintro e wb ⟨rfl, hbb⟩; have pc0 := bcell hbb vc0; have pc1 := bcell hbb vc1; have pc2 := bcell hbb vc2; have pc3 := bcell hbb vc3; have pc4 := bcell hbb vc4; have pa0 := bcell hbb va0; have pa1 := bcell hbb va1; have pa2 := bcell hbb va2; have pa3 := bcell hbb va3; have pa4 := bcell hbb va4; have pa5 := bcell hbb va5; have pa6 := bcell hbb va6; have pa7 := bcell hbb va7; have pa8 := bcell hbb va8; have pa9 := bcell hbb va9; have pa10 := bcell hbb va10)
          | (go_at_call 16; refine (HRC.out wb (HA.out.lift ((hbd2.trans (hba.mono hbd2.size)).trans (hbb.mono (Nat.le_trans hbd2.size hba.size))))).mono ?_; rintro e wc ⟨rfl, hbc⟩; have qc0 := bcell hbc pc0; have qc1 := bcell hbc pc1; have qc2 := bcell hbc pc2; have qc3 := bcell hbc pc3; have qc4 := bcell hbc pc4; have qa0 := bcell hbc pa0; have qa1 := bcell hbc pa1; have qa2 := bcell hbc pa2; have qa3 := bcell hbc pa3; have qa4 := bcell hbc pa4; have qa5 := bcell hbc pa5; have qa6 := bcell hbc pa6; have qa7 := bcell hbc pa7; have qa8 := bcell hbc pa8; have qa9 := bcell hbc pa9; have qa10 := bcell hbc pa10)
          | (go_at_call 13; refine (C_awake _).mono ?_; rintro e wd ⟨rfl, hbd⟩; have rc0 := bcell hbd qc0; have rc1 := bcell hbd qc1; have rc2 := bcell hbd qc2; have rc3 := bcell hbd qc3; have rc4 := bcell hbd qc4; have ra0 := bcell hbd qa0; have ra1 := bcell hbd qa1; have ra2 := bcell hbd qa2; have ra3 := bcell hbd qa3; have ra4 := bcell hbd qa4; have ra5 := bcell hbd qa5; have ra6 := bcell hbd qa6; have ra7 := bcell hbd qa7; have ra8 := bcell hbd qa8; have ra9 := bcell hbd qa9; have ra10 := bcell hbd qa10))
      have f1 := hbd2.trans (hba.mono hbd2.size)
      have f2 := f1.trans (hbb.mono f1.size)
      have f3 := f2.trans (hbc.mono f2.size)
      have f4 := f3.trans (hbd.mono f3.size)
      clear uc0 uc1 uc2 uc3 uc4 ua0 ua1 ua2 ua3 ua4 ua5 ua6 ua7 ua8 ua9 ua10 vc0 vc1 vc2 vc3 vc4 va0 va1 va2 va3 va4 va5 va6 va7 va8 va9 va10 pc0 pc1 pc2 pc3 pc4 pa0 pa1 pa2 pa3 pa4 pa5 pa6 pa7 pa8 pa9 pa10 qc0 qc1 qc2 qc3 qc4 qa0 qa1 qa2 qa3 qa4 qa5 qa6 qa7 qa8 qa9 qa10 rc0 rc1 rc2 rc3 rc4 ra0 ra1 ra2 ra3 ra4 ra5 ra6 ra7 ra8 ra9 ra10
      go_wp2
      go_ret
      exact ⟨rfl, f4⟩
end Go.Proofs.YtbefkiebdokbdaaGreat.V
end
