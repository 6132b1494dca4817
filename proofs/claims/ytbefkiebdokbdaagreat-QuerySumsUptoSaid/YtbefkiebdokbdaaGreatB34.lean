/- Part 34 of the proof: Sums. -/
import Derived.BigGuardPart
import Derived.Deep.RegionHeld3
import Derived.Test.YtbefkiebdokbdaaGreatB28
import Derived.Test.YtbefkiebdokbdaaGreatB31
import Derived.Test.YtbefkiebdokbdaaGreatB33

section
/- varvelaw23.QuerySums: the walk. -/
namespace Go.Proofs.YtbefkiebdokbdaaGreat.V
open Go.RowKit
set_option linter.unusedVariables false
set_option maxRecDepth 100000

theorem Sl.answer {ok : Nat → Prop} {w : World} {A : Option Addr} {xs : List Answer} (h : Sl ok w A xs) {k : Nat} (hk : k < xs.length) :
    ∃ b off, A = some ⟨b, off, none⟩ ∧ b < w.heap.size ∧ w.cell? ⟨b, off + k * 4, none⟩ = some (.int .i64 xs[k].frm) ∧ w.cell? ⟨b, off + k * 4 + 1, none⟩ = some (.bool xs[k].has)
      ∧ w.cell? ⟨b, off + k * 4 + 2, none⟩ = some (.int .u64 xs[k].value) ∧ w.cell? ⟨b, off + k * 4 + 3, none⟩ = some (.int .i64 xs[k].err) := by
  obtain ⟨b, off, vs, rfl, hv, hc⟩ := h.at_ hk
  obtain ⟨rfl, _⟩ := hv
  exact ⟨b, off, rfl, hc.2.1, hc.c0, hc.c1, hc.cj 2 _ rfl, hc.cj 3 _ rfl⟩
theorem fCnt_sat {xs : List Row} {s st : Int} {i : Nat} (h : 18446744073709551615 ≤ winT xs s st i) : fCnt xs s st i = ⟨wFrm s st i, false, 0, 11⟩ := by
  unfold fCnt; rw [ans_sat h]
theorem fCnt_ok {xs : List Row} {s st : Int} {i : Nat} (h : winT xs s st i < 18446744073709551615) : fCnt xs s st i = ⟨wFrm s st i, true, winT xs s st i, 0⟩ := by
  unfold fCnt; rw [ans_ok h]
/-- The whole's answer. -/
theorem fCnt_whole {xs : List Row} {s st : Int} {n : Nat} : winT xs s (st * n) 0 = winSum xs s st n ∧ wFrm s (st * n) 0 = s := by
  have e : wFrm s (st * n) 0 = s := by unfold wFrm; simp
  refine ⟨?_, e⟩
  unfold winT winSum
  rw [e]; unfold wFrm; rw [Int.mul_comm]

set_option maxHeartbeats 4000000 in
theorem C_Sums (a : Ask) (vs : List Value) (A : Option Addr) (cap : Nat) (xs : List Row) (w : World) (hgood : MGood 1048576 a.m) (hA : AskRep (fun k => k < w.heap.size) w vs a) (hr : Sl (fun k => k < w.heap.size) w A xs) (hs : ∀ r ∈ xs, r.small) :
    Calls Tryz.prog 7 #[.agg vs.toArray, .slice A xs.length cap] w fun e w' => e = .returned (.bool true) ∧ Below w.heap.size w w' := by
  obtain ⟨A1, c1, A2, c2, rfl, hM⟩ := AskRep.open_ hA
  obtain ⟨W, hW⟩ : ∃ W, W = w.alloc (.cells (aL a.m.op a.m.name a.m.value A1 a.m.values.length c1 A2 a.m.kids.length c2 a).toArray 31) := ⟨_, rfl⟩
  have hbW : Below w.heap.size w W := hW ▸ (Below.refl _ _).alloc (Nat.le_refl _) _
  have hQ : Blk W w.heap.size (aL a.m.op a.m.name a.m.value A1 a.m.values.length c1 A2 a.m.kids.length c2 a) 31 := hW ▸ Blk.new _ _ _
  have HA := Lib.hid hA
  have HM := Lib.hid hM
  have HR := Lib.hid hr
  have HS := Lib.hid hs
  clear hA hM hr hs
  go_enter Tryz.func7, Tryz.ntmps7
  go_wp2_with fail
  rw [← hW]
  clear hW
  have x0 := hQ.c 0 rfl
  have x1 := hQ.c 1 rfl
  have x2 := hQ.c 2 rfl
  have x3 := hQ.c 3 rfl
  have x4 := hQ.c 4 rfl
  go_wp2_with fail
  have hm1 := (HM.out.keep (Keeps.of_below hbW)).mono (ok' := fun k => k < W.heap.size) (fun k _ h => Nat.lt_of_lt_of_le h hbW.size)
  refine (C_Tiny (fun k => k < W.heap.size) a.m _ W (fun k h => h) hm1).mono ?_
  rintro e w2 ⟨r2, rfl, hb2, hr2⟩
  have hbw2 := hbW.trans (hb2.mono hbW.size)
  have hQ2 := hQ.below hb2
  clear x0 x1 x2 x3 x4 hQ hm1
  cases r2
  · go_wp2_with (go_at_call 13; refine (C_awake _).mono ?_; rintro e wz ⟨rfl, hbz⟩)
    go_ret
    exact ⟨rfl, hbw2.trans (hbz.mono hbw2.size)⟩
  · have hfit := hr2 rfl
    have HFIT := Lib.hid hfit
    clear hr2 hfit
    have x0 := hQ2.c 0 rfl
    have x1 := hQ2.c 1 rfl
    have x2 := hQ2.c 2 rfl
    have x3 := hQ2.c 3 rfl
    have x4 := hQ2.c 4 rfl
    go_wp2_with fail
    have hm2 := (HM.out.keep (Keeps.of_below hbw2)).mono (ok' := fun k => k < w2.heap.size) (fun k _ h => Nat.lt_of_lt_of_le h hbw2.size)
    refine (C_ref_Check (fun k => k < w2.heap.size) a.m _ w2 (fun k h => h) hm2).mono ?_
    rintro e w3 ⟨rfl, hb3⟩
    have hbw3 := hbw2.trans (hb3.mono hbw2.size)
    have hQ3 := hQ2.below hb3
    clear x0 x1 x2 x3 x4 hQ2 hm2
    generalize holdsB a.m 1 64 4096 = r3
    have x1 := hQ3.c 5 rfl
    have x2 := hQ3.c 6 rfl
    have x3 := hQ3.c 7 rfl
    cases r3
    · go_wp2_with (go_at_call 13; refine (C_awake _).mono ?_; rintro e wz ⟨rfl, hbz⟩)
      go_ret
      exact ⟨rfl, hbw3.trans (hbz.mono hbw3.size)⟩
    by_cases g1 : 30 < xs.length
    · have e1 : decide (30 < xs.length) = true := by rw [decide_eq_true_iff]; exact g1
      have e1' : decide ((30 : Int) < (xs.length : Int)) = true := by rw [decide_eq_true_iff]; omega
      go_wp2_with (go_at_call 13; refine (C_awake _).mono ?_; rintro e wz ⟨rfl, hbz⟩)
      go_ret
      exact ⟨rfl, hbw3.trans (hbz.mono hbw3.size)⟩
    have e1 : decide (30 < xs.length) = false := by rw [decide_eq_false_iff_not]; exact g1
    have e1' : decide ((30 : Int) < (xs.length : Int)) = false := by rw [decide_eq_false_iff_not]; omega
    by_cases g2 : a.start < 0
    · have e2 : decide (a.start < 0) = true := by rw [decide_eq_true_iff]; exact g2
      go_wp2_with (go_at_call 13; refine (C_awake _).mono ?_; rintro e wz ⟨rfl, hbz⟩)
      go_ret
      exact ⟨rfl, hbw3.trans (hbz.mono hbw3.size)⟩
    have e2 : decide (a.start < 0) = false := by rw [decide_eq_false_iff_not]; exact g2
    by_cases g3 : 1073741824 < a.start
    · have e3 : decide (1073741824 < a.start) = true := by rw [decide_eq_true_iff]; exact g3
      go_wp2_with (go_at_call 13; refine (C_awake _).mono ?_; rintro e wz ⟨rfl, hbz⟩)
      go_ret
      exact ⟨rfl, hbw3.trans (hbz.mono hbw3.size)⟩
    have e3 : decide (1073741824 < a.start) = false := by rw [decide_eq_false_iff_not]; exact g3
    by_cases g4 : a.step < 1
    · have e4 : decide (a.step < 1) = true := by rw [decide_eq_true_iff]; exact g4
      go_wp2_with (go_at_call 13; refine (C_awake _).mono ?_; rintro e wz ⟨rfl, hbz⟩)
      go_ret
      exact ⟨rfl, hbw3.trans (hbz.mono hbw3.size)⟩
    have e4 : decide (a.step < 1) = false := by rw [decide_eq_false_iff_not]; exact g4
    by_cases g5 : 1048576 < a.step
    · have e5 : decide (1048576 < a.step) = true := by rw [decide_eq_true_iff]; exact g5
      go_wp2_with (go_at_call 13; refine (C_awake _).mono ?_; rintro e wz ⟨rfl, hbz⟩)
      go_ret
      exact ⟨rfl, hbw3.trans (hbz.mono hbw3.size)⟩
    have e5 : decide (1048576 < a.step) = false := by rw [decide_eq_false_iff_not]; exact g5
    by_cases g6 : a.n < 1
    · have e6 : decide (a.n < 1) = true := by rw [decide_eq_true_iff]; exact g6
      go_wp2_with (go_at_call 13; refine (C_awake _).mono ?_; rintro e wz ⟨rfl, hbz⟩)
      go_ret
      exact ⟨rfl, hbw3.trans (hbz.mono hbw3.size)⟩
    have e6 : decide (a.n < 1) = false := by rw [decide_eq_false_iff_not]; exact g6
    have x0 := hQ3.c 0 rfl
    have x4 := hQ3.c 1 rfl
    have x5 := hQ3.c 2 rfl
    have x6 := hQ3.c 3 rfl
    have x7 := hQ3.c 4 rfl
    have x8 := hQ3.c 8 rfl
    have x9 := hQ3.c 9 rfl
    have x10 := hQ3.c 10 rfl
    have f7 := hQ3.f 7
    have f8 := hQ3.f 8
    have hz3 := hQ3.lt
    clear hb2 hbW
    obtain ⟨nn, hnn, hn1, hn2⟩ : ∃ nn : Nat, min a.n 12 = (nn : Int) ∧ 1 ≤ nn ∧ nn ≤ 12 := ⟨(min a.n 12).toNat, by omega, by omega, by omega⟩
    go_wp2_with fail
    have hQ4 := (hQ3.set 7 (.int .i64 (min a.n 12))).set 8 (.int .i64 1)
    have hfr := ((Frm.refl (fun k => k = w.heap.size) w3).one rfl 7 (.int .i64 (min a.n 12))).one rfl 8 (.int .i64 1)
    have hbw4 := hfr.to_below hbw3 (fun k _ e => by omega)
    clear hfr x0 x1 x2 x3 x4 x5 x6 x7 x8 x9 x10 f7 f8 e1 e1' e2 e3 e4 e5 e6 hbw2 hbw3 hb3 hQ3 hz3
    revert hQ4 hbw4
    rw [hnn]
    generalize (w3.setCell ⟨w.heap.size, 7, none⟩ (.int .i64 (nn : Int))).setCell ⟨w.heap.size, 8, none⟩ (.int .i64 1) = w4
    intro hQ4 hbw4
    have hcp : ∀ X : World, Below w.heap.size w X → Calls Tryz.prog 15 #[.agg #[.int .i64 a.m.op, .string a.m.name, .string a.m.value, .slice A1 a.m.values.length c1, .slice A2 a.m.kids.length c2, .int .i64 a.start, .int .i64 a.step, .int .i64 nn, .int .i64 1, .int .u64 a.a, .int .u64 a.b]] X fun e w' =>
        ∃ M1 d1 M2 d2, e = .returned (.agg #[.int .i64 a.m.op, .string a.m.name, .string a.m.value, .slice M1 a.m.values.length d1, .slice M2 a.m.kids.length d2, .int .i64 a.start, .int .i64 a.step, .int .i64 nn, .int .i64 1, .int .u64 a.a, .int .u64 a.b]) ∧
          MRep (fun k => k < w'.heap.size) w' (mL a.m.op a.m.name a.m.value M1 a.m.values.length d1 M2 a.m.kids.length d2) a.m ∧ Below X.heap.size X w' := fun X hX => by
      have hA4 : AskRep (fun k => k < w.heap.size) w (aL a.m.op a.m.name a.m.value A1 a.m.values.length c1 A2 a.m.kids.length c2 { a with n := (nn : Int), kind := 1 }) { a with n := (nn : Int), kind := 1 } := by
        obtain ⟨_, _, _, h1, h2, h3, h4, h5, h6⟩ := HA.out
        exact ⟨_, rfl, HM.out, h1, h2, by unfold I64; dsimp only; omega, by unfold I64; dsimp only; omega, h5, h6⟩
      refine (C_v_Ask { a with n := (nn : Int), kind := 1 } _ X HFIT.out hgood (hA4.lift hX)).mono ?_
      rintro e w5 ⟨us, rfl, hus, hb5⟩
      obtain ⟨B1, d1, B2, d2, rfl, hMu⟩ := AskRep.open_ hus
      exact ⟨B1, d1, B2, d2, rfl, hMu.mono (fun k h _ => h), hb5⟩
    have HCP := Lib.hid hcp
    clear hcp
    refine (HCP.out w4 hbw4).mono ?_
    rintro e w5 ⟨B1, d1, B2, d2, rfl, hMu, hb5⟩
    have hbw5 := hbw4.trans (hb5.mono hbw4.size)
    have hQ5 := hQ4.below hb5
    clear hQ4 hbw4 hb5
    go_wp2_with fail
    refine (C_v_Rows A cap xs w5 (Sl.up HR.out hbw5) (by omega) HS.out).mono ?_
    rintro e w6 ⟨v, rfl, ho6, hb6⟩
    obtain ⟨xA1, xc1, rfl, xs1⟩ := ho6.sl hb6.size
    have hbw6 := hbw5.trans (hb6.mono hbw5.size)
    have hQ6 := hQ5.below hb6
    have hM6 := (hMu.keep (Keeps.of_below hb6)).mono (ok' := fun k => k < w6.heap.size) (fun k _ h => Nat.lt_of_lt_of_le h hb6.size)
    clear hQ5 hbw5 hb6 hMu ho6
    go_wp2_with fail
    refine (C_AnswersG a.m _ _ _ _ _ _ _ _ _ _ _ _ _ _ _ xA1 xc1 xs w6 hM6 xs1 (by omega) HS.out).mono ?_
    rintro e w7 ⟨ba, bi, xB, xc, rfl, xask, xin, xbi, xsl, hb7⟩
    have hbw7 := hbw6.trans (hb7.mono hbw6.size)
    have hQ7 := hQ6.below hb7
    clear hQ6 hbw6 hb7 hM6 xs1
    have hok : RowsOk (xs.filter (mayM a.m)) := fun r hr => by
      obtain ⟨h1, h2⟩ := List.mem_filter.1 hr
      exact mayB_ok HR.out r (List.mem_filter.2 ⟨h1, by unfold mayM at h2; revert h2; simp; intro h _; exact h⟩)
    have hlY : (xs.filter (mayM a.m)).length ≤ 1048576 := by have := List.length_filter_le (mayM a.m) xs; omega
    obtain ⟨ys, hys⟩ : ∃ ys, ys = xs.filter (mayM a.m) := ⟨_, rfl⟩
    rw [← hys] at hok hlY xin xsl
    have HOK := Lib.hid hok
    have HY := Lib.hid hys
    clear hok hys
    have hNS : (nn : Int) * a.step ≤ 12582912 := by
      have h := Int.mul_le_mul (show (nn : Int) ≤ 12 by omega) (show a.step ≤ 1048576 by omega) (by omega) (by omega)
      omega
    go_wp2_with fail
    refine (C_told_count ba bi xB xc ys _ _ _ _ _ _ _ a.start a.step 100 nn w7 (by omega) (by omega) hn1 (by omega) (by omega) (by omega) (by omega) (by omega) xask xin xbi xsl hlY HOK.out).mono ?_
    rintro e w8 ⟨v, rfl, ho8, hb8⟩
    obtain ⟨L, lc, rfl, hL⟩ := ho8.sl hb8.size
    have hbw8 := hbw7.trans (hb8.mono hbw7.size)
    have hQ8 := hQ7.below hb8
    clear hQ7 hbw7 hb8 xask xin xsl ho8
    have x0 := hQ8.c 0 rfl
    have x1 := hQ8.c 1 rfl
    have x2 := hQ8.c 2 rfl
    have x3 := hQ8.c 3 rfl
    have x4 := hQ8.c 4 rfl
    have x5 := hQ8.c 5 rfl
    have x6 := hQ8.c 6 rfl
    have x7 := hQ8.c 7 rfl
    have x8 := hQ8.c 8 rfl
    have x9 := hQ8.c 9 rfl
    have x10 := hQ8.c 10 rfl
    go_wp2_with fail
    refine (HCP.out w8 hbw8).mono ?_
    rintro e w9 ⟨M1, e1, M2, e2, rfl, hM9, hb9⟩
    have hbw9 := hbw8.trans (hb9.mono hbw8.size)
    have hQ9 := hQ8.below hb9
    have hL9 := (hL.below hb9).mono (ok' := fun k => k < w9.heap.size) (fun k _ h => Nat.lt_of_lt_of_le h hb9.size)
    have hlt9 := hQ9.lt
    have ne1 : w.heap.size ≠ w9.heap.size := by omega
    have ne2 : w9.heap.size ≠ w.heap.size := by omega
    clear x0 x1 x2 x3 x4 x5 x6 x7 x8 x9 x10 hQ8 hbw8 hL
    have y6 := hQ9.c 6 rfl
    have y7 := hQ9.c 7 rfl
    have hmul : IntKind.i64.wrap (a.step * (nn : Int)) = a.step * (nn : Int) := IntWalk.i64_in _ (by have := Int.mul_nonneg (show 0 ≤ a.step by omega) (show (0 : Int) ≤ nn by omega); rw [Int.mul_comm] at hNS; omega)
    go_wp2_with fail
    obtain ⟨w10, hw10⟩ : ∃ X, X = w9.alloc (.cells #[.int .i64 a.m.op, .string a.m.name, .string a.m.value, .slice M1 a.m.values.length e1, .slice M2 a.m.kids.length e2, .int .i64 a.start, .int .i64 (a.step * nn), .int .i64 1, .int .i64 1, .int .u64 a.a, .int .u64 a.b] 31) := ⟨_, rfl⟩
    have hT : Blk w10 w9.heap.size [.int .i64 a.m.op, .string a.m.name, .string a.m.value, .slice M1 a.m.values.length e1, .slice M2 a.m.kids.length e2, .int .i64 a.start, .int .i64 (a.step * nn), .int .i64 1, .int .i64 1, .int .u64 a.a, .int .u64 a.b] 31 := hw10 ▸ Blk.new _ _ _
    have hb10 : Below w9.heap.size w9 w10 := hw10 ▸ (Below.refl _ _).alloc (Nat.le_refl _) _
    rw [← hw10]
    have hbw10 := hbw9.trans (hb10.mono hbw9.size)
    have hQ10 := hQ9.below hb10
    have hL10 := hL9.below hb10
    have hz10 := hb10.size
    have hM10 := hM9.keep (w' := w10) (Keeps.of_below hb10)
    clear hw10 hb10 hb9 hbw9 hQ9 y6 y7 hL9 hM9
    have za0 := hT.c 0 rfl
    have za1 := hT.c 1 rfl
    have za2 := hT.c 2 rfl
    have za3 := hT.c 3 rfl
    have za4 := hT.c 4 rfl
    have za5 := hT.c 5 rfl
    have za6 := hT.c 6 rfl
    have za7 := hT.c 7 rfl
    have za8 := hT.c 8 rfl
    have za9 := hT.c 9 rfl
    have za10 := hT.c 10 rfl
    clear hT
    have hzw := hbw10.size
    have hnn0 : 1 ≤ a.step * (nn : Int) := by
      have := Int.mul_le_mul (show 1 ≤ a.step by omega) (show (1 : Int) ≤ nn by omega) (by omega) (by omega)
      omega
    have hMS : a.step * (nn : Int) ≤ 12582912 := by rw [Int.mul_comm]; exact hNS
    go_region_held3 (fun w' => w'.cell? ⟨w9.heap.size, 0, none⟩ = some (.int .i64 a.m.op) ∧ w'.cell? ⟨w9.heap.size, 1, none⟩ = some (.string a.m.name) ∧ w'.cell? ⟨w9.heap.size, 2, none⟩ = some (.string a.m.value) ∧ w'.cell? ⟨w9.heap.size, 3, none⟩ = some (.slice M1 a.m.values.length e1) ∧ w'.cell? ⟨w9.heap.size, 4, none⟩ = some (.slice M2 a.m.kids.length e2) ∧ w'.cell? ⟨w9.heap.size, 5, none⟩ = some (.int .i64 a.start) ∧ w'.cell? ⟨w9.heap.size, 6, none⟩ = some (.int .i64 (a.step * nn)) ∧ w'.cell? ⟨w9.heap.size, 7, none⟩ = some (.int .i64 1) ∧ w'.cell? ⟨w9.heap.size, 8, none⟩ = some (.int .i64 1) ∧ w'.cell? ⟨w9.heap.size, 9, none⟩ = some (.int .u64 a.a) ∧ w'.cell? ⟨w9.heap.size, 10, none⟩ = some (.int .u64 a.b))
      ((first | exact ⟨za0, za1, za2, za3, za4, za5, za6, za7, za8, za9, za10⟩ | exact ⟨zv0, zv1, zv2, zv3, zv4, zv5, zv6, zv7, zv8, zv9, zv10⟩ | exact ⟨zq0, zq1, zq2, zq3, zq4, zq5, zq6, zq7, zq8, zq9, zq10⟩ | exact ⟨zz0, zz1, zz2, zz3, zz4, zz5, zz6, zz7, zz8, zz9, zz10⟩))
      (first
        | (go_at_call 22; refine (C_v_Rows A cap xs _ (Sl.up HR.out (hbw10.drew)) (by omega) HS.out).mono ?_; rintro e zwa ⟨v, rfl, zo1, zb1⟩; obtain ⟨zA1, zc1, rfl, zs1⟩ := zo1.sl zb1.size; have zv0 := bcell zb1 (cdrew za0); have zv1 := bcell zb1 (cdrew za1); have zv2 := bcell zb1 (cdrew za2); have zv3 := bcell zb1 (cdrew za3); have zv4 := bcell zb1 (cdrew za4); have zv5 := bcell zb1 (cdrew za5); have zv6 := bcell zb1 (cdrew za6); have zv7 := bcell zb1 (cdrew za7); have zv8 := bcell zb1 (cdrew za8); have zv9 := bcell zb1 (cdrew za9); have zv10 := bcell zb1 (cdrew za10))
        | (go_at_call 23; refine (C_AnswersG a.m _ _ _ _ _ _ _ _ _ _ _ _ _ _ _ zA1 zc1 xs _ ((hM10.keep (Keeps.of_below (show Below w10.heap.size w10 zwa from (((Below.refl _ w10).drew).trans (zb1.mono (Nat.le_refl _)))))).mono (ok' := fun k => k < zwa.heap.size) (fun k _ h => Nat.lt_of_lt_of_le h (Nat.le_trans hz10 zb1.size))) zs1 (by omega) HS.out).mono ?_; rintro e zwb ⟨zba, zbi, zB, zc, rfl, zask, zin, zbi', zsl, zb2⟩; rw [← HY.out] at zin zsl; have zq0 := bcell zb2 zv0; have zq1 := bcell zb2 zv1; have zq2 := bcell zb2 zv2; have zq3 := bcell zb2 zv3; have zq4 := bcell zb2 zv4; have zq5 := bcell zb2 zv5; have zq6 := bcell zb2 zv6; have zq7 := bcell zb2 zv7; have zq8 := bcell zb2 zv8; have zq9 := bcell zb2 zv9; have zq10 := bcell zb2 zv10)
        | (go_at_call 26; refine (C_told_one zba zbi zB zc ys _ _ _ _ _ _ _ a.start (a.step * nn) 100 _ (by omega) hnn0 (by omega) (by omega) (by omega) zask zin zbi' zsl hlY HOK.out).mono ?_; rintro e zwc ⟨v, rfl, zo3, zb3⟩; obtain ⟨R, rc, rfl, zR⟩ := zo3.sl zb3.size; have zz0 := bcell zb3 zq0; have zz1 := bcell zb3 zq1; have zz2 := bcell zb3 zq2; have zz3 := bcell zb3 zq3; have zz4 := bcell zb3 zq4; have zz5 := bcell zb3 zq5; have zz6 := bcell zb3 zq6; have zz7 := bcell zb3 zq7; have zz8 := bcell zb3 zq8; have zz9 := bcell zb3 zq9; have zz10 := bcell zb3 zq10))
    have zt1 := (hbw10.drew).trans (zb1.mono (show w.heap.size ≤ w10.drew.heap.size from hbw10.size))
    have zt2 := zt1.trans (zb2.mono zt1.size)
    have zt3 := zt2.trans (zb3.mono zt2.size)
    have hQz := (((hQ10.drew).below zb1).below zb2).below zb3
    have hT3 : Below w10.heap.size w10 zwc := (((Below.refl _ w10).drew.trans (zb1.mono (Nat.le_refl _))).trans (zb2.mono (show w10.heap.size ≤ _ from zb1.size))).trans (zb3.mono (Nat.le_trans (show w10.heap.size ≤ _ from zb1.size) zb2.size))
    have hLz : Sl (fun k => k < w9.heap.size) zwc L ((List.range nn).map (fCnt ys a.start a.step)) := hL10.below hT3
    clear za0 za1 za2 za3 za4 za5 za6 za7 za8 za9 za10 zv0 zv1 zv2 zv3 zv4 zv5 zv6 zv7 zv8 zv9 zv10 zq0 zq1 zq2 zq3 zq4 zq5 zq6 zq7 zq8 zq9 zq10 zz0 zz1 zz2 zz3 zz4 zz5 zz6 zz7 zz8 zz9 zz10 zo1 zo3 zs1 zask zin zsl zb1 zb2 zb3 zt1 zt2 hT3 hL10 hQ10 hM10 hbw10
    have hq5 := hQz.c 5 rfl
    have hq7 := hQz.c 7 rfl
    clear hQz
    go_wp2_with fail
    have htot : ∀ i, 0 ≤ winT ys a.start a.step i := fun i => (HOK.out.tot _ _).1
    have hsum0 := winSum_zero ys a.start a.step
    have hsucc : ∀ k, winSum ys a.start a.step (k + 1) = winSum ys a.start a.step k + winT ys a.start a.step k := winSum_succ ys (by omega)
    have hle : ∀ k, k ≤ nn → winSum ys a.start a.step k ≤ winSum ys a.start a.step nn := fun k hk => winSum_le HOK.out (by omega) hk
    obtain ⟨rb, ro, rfl, hrb, r0, r1, r2, r3⟩ := zR.answer (k := 0) (by simp)
    simp only [List.getElem_cons_zero, Nat.zero_mul, Nat.add_zero] at r0 r1 r2 r3
    obtain ⟨hwT, hwF⟩ := fCnt_whole (xs := ys) (s := a.start) (st := a.step) (n := nn)
    have hsat : 18446744073709551615 ≤ winSum ys a.start a.step nn → zwc.cell? ⟨rb, ro + 3, none⟩ = some (.int .i64 11) := fun h => by
      rw [fCnt_sat (by rw [hwT]; exact h)] at r3; exact r3
    have hfin : winSum ys a.start a.step nn < 18446744073709551615 → zwc.cell? ⟨rb, ro, none⟩ = some (.int .i64 a.start) ∧ zwc.cell? ⟨rb, ro + 1, none⟩ = some (.bool true) ∧ zwc.cell? ⟨rb, ro + 2, none⟩ = some (.int .u64 (winSum ys a.start a.step nn)) := fun h => by
      rw [fCnt_ok (by rw [hwT]; exact h)] at r0 r1 r2; rw [hwF] at r0; rw [hwT] at r2; exact ⟨r0, r1, r2⟩
    have hcell : ∀ k, k < nn → ∃ b off, L = some ⟨b, off, none⟩ ∧ zwc.cell? ⟨b, off + k * 4 + 2, none⟩ = some (.int .u64 (fCnt ys a.start a.step k).value) ∧ zwc.cell? ⟨b, off + k * 4 + 3, none⟩ = some (.int .i64 (fCnt ys a.start a.step k).err) := fun k hk => by
      obtain ⟨b, off, e, _, _, _, c2, c3⟩ := hLz.answer (k := k) (by simpa using hk)
      simp only [List.getElem_map, List.getElem_range] at c2 c3
      exact ⟨b, off, e, c2, c3⟩
    have HTOT := Lib.hid htot
    have HSUCC := Lib.hid hsucc
    have HLE := Lib.hid hle
    have HSAT := Lib.hid hsat
    have HFIN := Lib.hid hfin
    have HCELL := Lib.hid hcell
    clear htot hsucc hle hsat hfin hcell zR r0 r1 r2 r3 hwT hwF hLz
    go_loop [8, 9] (fun v i => ∃ k : Nat, k ≤ nn ∧ i = .int .i64 k ∧ v = .int .u64 (winSum ys a.start a.step k) ∧ 0 ≤ winSum ys a.start a.step k ∧ winSum ys a.start a.step k ≤ 18446744073709551615) (fun _ i => nn - (intOf i).toNat)
    case atStart => exact ⟨0, Nat.zero_le _, rfl, by rw [hsum0], by omega, by omega⟩
    case round =>
      clear hsum0
      obtain ⟨k, hk, rfl, rfl, hs0, hs1⟩ := hrel
      by_cases hlt : k < nn
      · obtain ⟨b, off, rfl, c2, c3⟩ := HCELL.out k hlt
        have t0 := HTOT.out k
        have ts := HSUCC.out k
        have tl := HLE.out (k + 1) hlt
        by_cases hsk : 18446744073709551615 ≤ winT ys a.start a.step k
        · rw [fCnt_sat hsk] at c2 c3
          have rr := HSAT.out (by omega)
          dsimp only at c2 c3
          clear t0 ts tl
          go_wp2_with (go_at_call 13; refine (C_awake _).mono ?_; rintro e wz ⟨rfl, hbz⟩)
          go_ret
          exact ⟨rfl, zt3.trans (hbz.mono zt3.size)⟩
        · rw [fCnt_ok (by omega)] at c2 c3
          dsimp only at c2 c3
          have hw1 : IntKind.u64.wrap (18446744073709551615 - winSum ys a.start a.step k) = 18446744073709551615 - winSum ys a.start a.step k := IntWalk.u64_in _ (by omega)
          by_cases hbig : 18446744073709551615 - winSum ys a.start a.step k < winT ys a.start a.step k
          · have hd : decide (18446744073709551615 - winSum ys a.start a.step k < winT ys a.start a.step k) = true := by rw [decide_eq_true_iff]; exact hbig
            have rr := HSAT.out (by omega)
            generalize winT ys a.start a.step k = T at *
            generalize winSum ys a.start a.step k = S at *
            clear t0 ts tl hbig hsk
            go_wp2_with (go_at_call 13; refine (C_awake _).mono ?_; rintro e wz ⟨rfl, hbz⟩)
            go_ret
            exact ⟨rfl, zt3.trans (hbz.mono zt3.size)⟩
          · have hd : decide (18446744073709551615 - winSum ys a.start a.step k < winT ys a.start a.step k) = false := by rw [decide_eq_false_iff_not]; exact hbig
            have hw2 : IntKind.u64.wrap (winSum ys a.start a.step k + winT ys a.start a.step k) = winSum ys a.start a.step (k + 1) := by rw [ts]; exact IntWalk.u64_in _ (by omega)
            have q1 : 0 ≤ winSum ys a.start a.step (k + 1) := by omega
            have q2 : winSum ys a.start a.step (k + 1) ≤ 18446744073709551615 := by omega
            clear ts tl
            go_wp2_with fail
            go_round
            case rel => exact ⟨k + 1, by omega, by go_num, rfl, q1, q2⟩
            case measure => simp [intOf]; omega
      · have hkk : k = nn := by omega
        subst hkk
        by_cases hmax : winSum ys a.start a.step k = 18446744073709551615
        · have rr := HSAT.out (by omega)
          rw [hmax]
          go_wp2_with (go_at_call 13; refine (C_awake _).mono ?_; rintro e wz ⟨rfl, hbz⟩)
          go_ret
          exact ⟨rfl, zt3.trans (hbz.mono zt3.size)⟩
        · obtain ⟨f0, f1, f2⟩ := HFIN.out (by omega)
          have hne : (winSum ys a.start a.step k == 18446744073709551615) = false := by simpa using hmax
          generalize winSum ys a.start a.step k = S at *
          go_wp2_with fail
          clear HTOT HSUCC HLE HSAT HFIN HCELL
          go_region_held3 (fun w' => w'.cell? ⟨rb, ro, none⟩ = some (.int .i64 a.start) ∧ w'.cell? ⟨rb, ro + 1, none⟩ = some (.bool true) ∧ w'.cell? ⟨rb, ro + 2, none⟩ = some (.int .u64 S) ∧ w'.cell? ⟨w.heap.size, 5, none⟩ = some (.int .i64 a.start))
            ((first | exact ⟨f0, f1, f2, hq5⟩ | exact ⟨f0', f1', f2', hq5'⟩))
            (first | (go_at_call 13; refine (C_awake _).mono ?_; rintro e wz ⟨rfl, hbz⟩; have f0' := bcell hbz (cdrew f0); have f1' := bcell hbz (cdrew f1); have f2' := bcell hbz (cdrew f2); have hq5' := bcell hbz (cdrew hq5)))
          go_wp2
          go_ret
          exact ⟨rfl, (zt3.drew).trans (hbz.mono (show w.heap.size ≤ zwc.drew.heap.size from zt3.size))⟩
end Go.Proofs.YtbefkiebdokbdaaGreat.V
end
