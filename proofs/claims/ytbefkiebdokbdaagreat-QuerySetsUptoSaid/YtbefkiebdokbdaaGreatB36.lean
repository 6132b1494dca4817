/- Part 36 of the proof: Sets. -/
import Derived.BigGuardPart
import Derived.Deep.RegionHeld3
import Derived.Test.YtbefkiebdokbdaaGreatB31
import Derived.Test.YtbefkiebdokbdaaGreatB32
import Derived.Test.YtbefkiebdokbdaaGreatB34
import Derived.Test.YtbefkiebdokbdaaGreatB35

section
/- varvelaw23.QuerySets: the walk. -/
namespace Go.Proofs.YtbefkiebdokbdaaGreat.V
open Go.RowKit
set_option linter.unusedVariables false
set_option maxRecDepth 100000

set_option maxHeartbeats 4000000 in
theorem C_Sets (m : Matcher) (vs : List Value) (A : Option Addr) (cap : Nat) (xs : List Row) (start step : Int) (w : World) (hgood : MGood 1048576 m) (hM : MRep (fun k => k < w.heap.size) w vs m) (hr : Sl (fun k => k < w.heap.size) w A xs) (hs : ∀ r ∈ xs, r.small) (i1 : I64 start) (i2 : I64 step) :
    Calls Tryz.prog 8 #[.agg vs.toArray, .slice A xs.length cap, .int .i64 start, .int .i64 step] w fun e w' => e = .returned (.bool true) ∧ Below w.heap.size w w' := by
  obtain ⟨p3, p4⟩ := place_lt (v := start) (n := 1048576) (by omega)
  obtain ⟨p1, p2⟩ := place_lt (v := step) (n := 1048576) (by omega)
  have cp1 := fun W => C_Place start 1048576 W i1 (by omega) (by omega)
  have cp2 := fun W => C_Place step 1048576 W i2 (by omega) (by omega)
  generalize place start 1048576 = ss at *
  generalize place step 1048576 = ps at *
  have CP1 := Lib.hid cp1
  have CP2 := Lib.hid cp2
  clear cp1 cp2
  have hM0 := hM
  obtain ⟨A1, c1, A2, c2, rfl, -⟩ := MRep.open_ hM
  obtain ⟨W, hW⟩ : ∃ W, W = w.alloc (.cells (mL m.op m.name m.value A1 m.values.length c1 A2 m.kids.length c2).toArray 28) := ⟨_, rfl⟩
  have hbW : Below w.heap.size w W := hW ▸ (Below.refl _ _).alloc (Nat.le_refl _) _
  have hQ : Blk W w.heap.size (mL m.op m.name m.value A1 m.values.length c1 A2 m.kids.length c2) 28 := hW ▸ Blk.new _ _ _
  have HM := Lib.hid hM0
  have HR := Lib.hid hr
  have HS := Lib.hid hs
  clear hM hM0 hr hs
  go_enter Tryz.func8, Tryz.ntmps8
  go_wp2_with fail
  rw [← hW]
  clear hW
  have x0 := hQ.c 0 rfl
  have x1 := hQ.c 1 rfl
  have x2 := hQ.c 2 rfl
  have x3 := hQ.c 3 rfl
  have x4 := hQ.c 4 rfl
  go_wp2_with fail
  have hm1 := (HM.out.keep (Keeps.of_below hbW)).mono (ok' := fun k => k < W.heap.size) (fun k _ h => Nat.lt_of_lt_of_le h hbW.size)
  refine (C_Tiny (fun k => k < W.heap.size) m _ W (fun k h => h) hm1).mono ?_
  rintro e w2 ⟨r2, rfl, hb2, hr2⟩
  have hbw2 := hbW.trans (hb2.mono hbW.size)
  have hQ2 := hQ.below hb2
  clear x0 x1 x2 x3 x4 hQ hm1
  cases r2
  · go_wp2_with (go_at_call 13; refine (C_awake _).mono ?_; rintro e wz ⟨rfl, hbz⟩)
    go_ret
    exact ⟨rfl, hbw2.trans (hbz.mono hbw2.size)⟩
  have hfit := hr2 rfl
  have HFIT := Lib.hid hfit
  clear hr2 hfit
  have x0 := hQ2.c 0 rfl
  have x1 := hQ2.c 1 rfl
  have x2 := hQ2.c 2 rfl
  have x3 := hQ2.c 3 rfl
  have x4 := hQ2.c 4 rfl
  go_wp2_with fail
  have hm2 := (HM.out.keep (Keeps.of_below hbw2)).mono (ok' := fun k => k < w2.heap.size) (fun k _ h => Nat.lt_of_lt_of_le h hbw2.size)
  refine (C_ref_Check (fun k => k < w2.heap.size) m _ w2 (fun k h => h) hm2).mono ?_
  rintro e w3 ⟨rfl, hb3⟩
  have hbw3 := hbw2.trans (hb3.mono hbw2.size)
  have hQ3 := hQ2.below hb3
  clear x0 x1 x2 x3 x4 hQ2 hm2 hb2 hb3 hbw2 hbW
  cases hh1 : holdsB m 1 64 4096
  · go_wp2_with (go_at_call 13; refine (C_awake _).mono ?_; rintro e wz ⟨rfl, hbz⟩)
    go_ret
    exact ⟨rfl, hbw3.trans (hbz.mono hbw3.size)⟩
  have HH1 := Lib.hid hh1
  clear hh1
  have x0 := hQ3.c 0 rfl
  have x1 := hQ3.c 1 rfl
  have x2 := hQ3.c 2 rfl
  have x3 := hQ3.c 3 rfl
  have x4 := hQ3.c 4 rfl
  have hm3 := (HM.out.keep (Keeps.of_below hbw3)).mono (ok' := fun k => k < w3.heap.size) (fun k _ h => Nat.lt_of_lt_of_le h hbw3.size)
  have hn3 := MRep.notM hm3 28
  have hb4 : Below w3.heap.size w3 (w3.alloc (.cells (mL m.op m.name m.value A1 m.values.length c1 A2 m.kids.length c2).toArray 28)) := (Below.refl _ _).alloc (Nat.le_refl _) _
  go_wp2_with fail
  refine (C_ref_Check (fun k => k < (w3.alloc (.cells (mL m.op m.name m.value A1 m.values.length c1 A2 m.kids.length c2).toArray 28)).heap.size) (notM m) _ _ (fun k h => h) hn3).mono ?_
  rintro e w5 ⟨rfl, hb5⟩
  have hb35 := hb4.trans (hb5.mono hb4.size)
  have hbw5 := hbw3.trans (hb35.mono hbw3.size)
  have hQ5 := hQ3.below hb35
  clear x0 x1 x2 x3 x4 hQ3 hm3 hn3 hb4 hb5 hb35 hbw3
  cases hh2 : holdsB (notM m) 1 64 4096
  · go_wp2_with (go_at_call 13; refine (C_awake _).mono ?_; rintro e wz ⟨rfl, hbz⟩)
    go_ret
    exact ⟨rfl, hbw5.trans (hbz.mono hbw5.size)⟩
  have HH2 := Lib.hid hh2
  clear hh2
  by_cases g1 : 30 < xs.length
  · have e1 : decide (30 < xs.length) = true := by rw [decide_eq_true_iff]; exact g1
    have e1' : decide ((30 : Int) < (xs.length : Int)) = true := by rw [decide_eq_true_iff]; omega
    go_wp2_with (go_at_call 13; refine (C_awake _).mono ?_; rintro e wz ⟨rfl, hbz⟩)
    go_ret
    exact ⟨rfl, hbw5.trans (hbz.mono hbw5.size)⟩
  have e1 : decide (30 < xs.length) = false := by rw [decide_eq_false_iff_not]; exact g1
  have e1' : decide ((30 : Int) < (xs.length : Int)) = false := by rw [decide_eq_false_iff_not]; omega
  go_wp2_with fail
  have g1' := g1
  clear e1 e1'
  go_loopw [9] (fun i wr => ∃ k : Nat, k ≤ xs.length ∧ i = .int .i64 k ∧ Below w.heap.size w wr ∧ Blk wr w.heap.size (mL m.op m.name m.value A1 m.values.length c1 A2 m.kids.length c2) 28) (fun i _ => xs.length - (intOf i).toNat)
  case atStart => exact ⟨0, Nat.zero_le _, rfl, hbw5, hQ5⟩
  case round =>
    clear hbw5 hQ5
    obtain ⟨k, hk, rfl, hbl, hQr⟩ := hrel
    by_cases hlt : k < xs.length
    · have hsl := (HR.out).below hbl
      obtain ⟨b, off, L0, l0, L1, l1, L2, l2, hAe, hob, hlb, y0, y1, y2, y3, y4, y5, y6, y7, s0, hi, s1, s2, hg, m0, m1, m2⟩ := hsl.row hlt
      subst hAe
      clear y1 y2 y3 y4 y5 y6 y7 hi s1 s2 hg m0 m1 m2 hsl
      go_wp2_with fail
      refine (C_ref11_Check _ L0 l0 xs[k].labels wr s0).mono ?_
      rintro e wc ⟨⟨r, rfl⟩, hbc⟩
      have hbw6 := hbl.trans (hbc.mono hbl.size)
      have hQc := hQr.below hbc
      clear hQr hbl y0 s0
      cases r
      · go_wp2_with (go_at_call 13; refine (C_awake _).mono ?_; rintro e wz ⟨rfl, hbz⟩)
        go_ret
        exact ⟨rfl, hbw6.trans (hbz.mono hbw6.size)⟩
      · go_wp2
        go_roundw
        case rel => exact ⟨k + 1, by omega, by go_num, hbw6, hQc⟩
        case measure => simp [intOf]; omega
    · have hkk : k = xs.length := by omega
      subst hkk
      have x0 := hQr.c 0 rfl
      have x1 := hQr.c 1 rfl
      have x2 := hQr.c 2 rfl
      have x3 := hQr.c 3 rfl
      have x4 := hQr.c 4 rfl
      go_wp2_with fail
      have hcp : ∀ X : World, Below w.heap.size w X → Calls Tryz.prog 30 #[.agg #[.int .i64 m.op, .string m.name, .string m.value, .slice A1 m.values.length c1, .slice A2 m.kids.length c2]] X fun e w' =>
          ∃ M1 d1 M2 d2, e = .returned (.agg #[.int .i64 m.op, .string m.name, .string m.value, .slice M1 m.values.length d1, .slice M2 m.kids.length d2]) ∧
            MRep (fun k => X.heap.size ≤ k ∧ k < w'.heap.size) w' (mL m.op m.name m.value M1 m.values.length d1 M2 m.kids.length d2) m ∧ Below X.heap.size X w' := fun X hX => by
        refine (C_v_Matcher m _ X HFIT.out hgood ((HM.out.keep (Keeps.of_below hX)).mono (fun k _ h => Nat.lt_of_lt_of_le h hX.size))).mono ?_
        rintro e w5 ⟨us, rfl, hus, hb5⟩
        obtain ⟨B1, d1, B2, d2, rfl, -⟩ := MRep.open_ hus
        exact ⟨B1, d1, B2, d2, rfl, hus.mono (fun k h h2 => ⟨h2, h⟩), hb5⟩
      have HCP := Lib.hid hcp
      clear hcp
      refine (HCP.out wr hbl).mono ?_
      rintro e w6 ⟨M1, d1, M2, d2, rfl, hM6, hb6⟩
      have hbw6 := hbl.trans (hb6.mono hbl.size)
      have hQ6 := hQr.below hb6
      clear x0 x1 x2 x3 x4 hQr hbl hb6
      go_wp2_with fail
      refine (CP1.out _).mono ?_
      rintro e w1 ⟨rfl, rfl⟩
      go_wp2_with fail
      refine (CP2.out _).mono ?_
      rintro e w1 ⟨rfl, rfl⟩
      have hst : IntKind.i64.wrap (1 + ps) = 1 + ps := IntWalk.i64_in _ (by omega)
      have hlt6 := hQ6.lt
      have x0 := hQ6.c 0 rfl
      have x1 := hQ6.c 1 rfl
      have x2 := hQ6.c 2 rfl
      have x3 := hQ6.c 3 rfl
      have x4 := hQ6.c 4 rfl
      have ne1 : w.heap.size ≠ w6.heap.size := by omega
      have ne2 : w.heap.size ≠ w6.heap.size + 1 := by omega
      go_wp2_with fail
      obtain ⟨w7, hw7⟩ : ∃ X, X = (w6.alloc (.cells #[.int .i64 m.op, .string m.name, .string m.value, .slice M1 m.values.length d1, .slice M2 m.kids.length d2, .int .i64 ss, .int .i64 (1 + ps), .int .i64 1, .int .i64 1, .int .u64 0, .int .u64 0] 31)).alloc (.cells #[.int .i64 m.op, .string m.name, .string m.value, .slice M1 m.values.length d1, .slice M2 m.kids.length d2, .int .i64 ss, .int .i64 (1 + ps), .int .i64 1, .int .i64 1, .int .u64 0, .int .u64 0] 31) := ⟨_, rfl⟩
      have hz6 : (w6.alloc (.cells #[.int .i64 m.op, .string m.name, .string m.value, .slice M1 m.values.length d1, .slice M2 m.kids.length d2, .int .i64 ss, .int .i64 (1 + ps), .int .i64 1, .int .i64 1, .int .u64 0, .int .u64 0] 31)).heap.size = w6.heap.size + 1 := by simp
      have hT1 : Blk w7 w6.heap.size [.int .i64 m.op, .string m.name, .string m.value, .slice M1 m.values.length d1, .slice M2 m.kids.length d2, .int .i64 ss, .int .i64 (1 + ps), .int .i64 1, .int .i64 1, .int .u64 0, .int .u64 0] 31 := hw7 ▸ (Blk.new w6 _ 31).below ((Below.refl _ _).alloc (Nat.le_refl _) _)
      have hT2 : Blk w7 (w6.heap.size + 1) [.int .i64 m.op, .string m.name, .string m.value, .slice M1 m.values.length d1, .slice M2 m.kids.length d2, .int .i64 ss, .int .i64 (1 + ps), .int .i64 1, .int .i64 1, .int .u64 0, .int .u64 0] 31 := by
        have := Blk.new (w6.alloc (.cells #[.int .i64 m.op, .string m.name, .string m.value, .slice M1 m.values.length d1, .slice M2 m.kids.length d2, .int .i64 ss, .int .i64 (1 + ps), .int .i64 1, .int .i64 1, .int .u64 0, .int .u64 0] 31)) [.int .i64 m.op, .string m.name, .string m.value, .slice M1 m.values.length d1, .slice M2 m.kids.length d2, .int .i64 ss, .int .i64 (1 + ps), .int .i64 1, .int .i64 1, .int .u64 0, .int .u64 0] 31
        rw [hz6] at this; rw [hw7]; exact this
      have hb67 : Below w6.heap.size w6 w7 := hw7 ▸ ((Below.refl _ _).alloc (Nat.le_refl _) _).alloc (by simp) _
      rw [← hw7]
      have hbw7 := hbw6.trans (hb67.mono hbw6.size)
      have hQ7 := hQ6.below hb67
      have hM7 := (hM6.mono (ok' := fun k => k < w6.heap.size) (fun k _ h => h.2)).keep (Keeps.of_below hb67)
      clear hw7 hz6 hb67 hQ6 hM6 hbw6 x0 x1 x2 x3 x4
      generalize w6.heap.size = g1 at *
      refine (HCP.out w7 hbw7).mono ?_
      rintro e w8 ⟨N1, e1, N2, e2, rfl, hM8, hb8⟩
      have hbw8 := hbw7.trans (hb8.mono hbw7.size)
      have hT18 := hT1.below hb8
      have hT28 := hT2.below hb8
      have hM78 := hM7.keep (Keeps.of_below hb8)
      have hl2 := hT28.lt
      have hl7 := hT2.lt
      clear hT1 hT2 hM7 hb8 hbw7 hQ7
      have y0 := hT18.c 0 rfl
      have y1 := hT18.c 1 rfl
      have y2 := hT18.c 2 rfl
      have y3 := hT18.c 3 rfl
      have y4 := hT18.c 4 rfl
      have y5 := hT18.c 5 rfl
      have y6 := hT18.c 6 rfl
      have y7 := hT18.c 7 rfl
      have y8 := hT18.c 8 rfl
      have y9 := hT18.c 9 rfl
      have y10 := hT18.c 10 rfl
      have z0 := hT28.c 0 rfl
      have z1 := hT28.c 1 rfl
      have z2 := hT28.c 2 rfl
      have z3 := hT28.c 3 rfl
      have z4 := hT28.c 4 rfl
      have f0 := hT28.f 0
      have f1 := hT28.f 1
      have f2 := hT28.f 2
      have f3 := hT28.f 3
      have f4 := hT28.f 4
      have q1 : g1 ≠ w8.heap.size := by omega
      have q2 : g1 + 1 ≠ w8.heap.size := by omega
      have q3 : g1 ≠ w8.heap.size + 1 := by omega
      have q4 : g1 + 1 ≠ w8.heap.size + 1 := by omega
      have q5 : g1 ≠ g1 + 1 := by omega
      have q6 : g1 < w8.heap.size := by omega
      go_wp2_with fail
      obtain ⟨wa, hwa⟩ : ∃ X, X = (((((w8.setCell ⟨g1 + 1, 0, none⟩ (.int .i64 7)).setCell ⟨g1 + 1, 1, none⟩ (.string ⟨#[]⟩)).setCell ⟨g1 + 1, 2, none⟩ (.string ⟨#[]⟩)).setCell ⟨g1 + 1, 3, none⟩ (.slice none 0 0)).setCell ⟨g1 + 1, 4, none⟩ (.slice (some ⟨w8.heap.size, 0, none⟩) 1 1)) := ⟨_, rfl⟩
      have hF : Frm (fun k => k = g1 + 1) w8 wa := by rw [hwa]; exact ((((((Frm.refl (fun k => k = g1 + 1) w8).one (r := g1 + 1) rfl 0 (.int .i64 7)).one (r := g1 + 1) rfl 1 (.string ⟨#[]⟩)).one (r := g1 + 1) rfl 2 (.string ⟨#[]⟩)).one (r := g1 + 1) rfl 3 (.slice none 0 0)).one (r := g1 + 1) rfl 4 (.slice (some ⟨w8.heap.size, 0, none⟩) 1 1))
      have hTa : Blk wa (g1 + 1) [.int .i64 7, .string ⟨#[]⟩, .string ⟨#[]⟩, .slice none 0 0, .slice (some ⟨w8.heap.size, 0, none⟩) 1 1, .int .i64 ss, .int .i64 (1 + ps), .int .i64 1, .int .i64 1, .int .u64 0, .int .u64 0] 31 := by rw [hwa]; exact (((((hT28.set 0 (.int .i64 7)).set 1 (.string ⟨#[]⟩)).set 2 (.string ⟨#[]⟩)).set 3 (.slice none 0 0)).set 4 (.slice (some ⟨w8.heap.size, 0, none⟩) 1 1))
      have hza : wa.heap.size = w8.heap.size := by rw [hwa]; simp
      rw [← hwa]
      have hMa := (hM8.keep (hF.keeps (fun k hk h e => by omega))).mono (ok' := fun k => k < wa.heap.size) (fun k _ h => by omega)
      have hNa := MRep.notM hMa 28
      rw [hza] at hNa
      have hM1a := hM78.keep (hF.keeps (fun k hk h e => by omega))
      have hbwa := hF.to_below hbw8 (fun k hk e => by omega)
      have hT1a := hT18.frm hF (by omega)
      obtain ⟨w9, hw9⟩ : ∃ X, X = (wa.alloc (.cells #[.int .i64 m.op, .string m.name, .string m.value, .slice N1 m.values.length e1, .slice N2 m.kids.length e2] 28)).alloc (.cells #[.int .i64 0, .string ⟨#[]⟩, .string ⟨#[]⟩, .slice none 0 0, .slice none 0 0, .int .i64 ss, .int .i64 (1 + ps), .int .i64 1, .int .i64 1, .int .u64 0, .int .u64 0] 31) := ⟨_, rfl⟩
      have hz9 : (wa.alloc (.cells #[.int .i64 m.op, .string m.name, .string m.value, .slice N1 m.values.length e1, .slice N2 m.kids.length e2] 28)).heap.size = w8.heap.size + 1 := by simp [hza]
      have hba1 : Below wa.heap.size wa (wa.alloc (.cells #[.int .i64 m.op, .string m.name, .string m.value, .slice N1 m.values.length e1, .slice N2 m.kids.length e2] 28)) := (Below.refl _ _).alloc (Nat.le_refl _) _
      have hba2 : Below (wa.alloc (.cells #[.int .i64 m.op, .string m.name, .string m.value, .slice N1 m.values.length e1, .slice N2 m.kids.length e2] 28)).heap.size (wa.alloc (.cells #[.int .i64 m.op, .string m.name, .string m.value, .slice N1 m.values.length e1, .slice N2 m.kids.length e2] 28)) w9 := hw9 ▸ (Below.refl _ _).alloc (Nat.le_refl _) _
      have hba : Below wa.heap.size wa w9 := hba1.trans (hba2.mono hba1.size)
      have hT3 : Blk w9 (w8.heap.size + 1) [.int .i64 0, .string ⟨#[]⟩, .string ⟨#[]⟩, .slice none 0 0, .slice none 0 0, .int .i64 ss, .int .i64 (1 + ps), .int .i64 1, .int .i64 1, .int .u64 0, .int .u64 0] 31 := by
        have := Blk.new (wa.alloc (.cells #[.int .i64 m.op, .string m.name, .string m.value, .slice N1 m.values.length e1, .slice N2 m.kids.length e2] 28)) [.int .i64 0, .string ⟨#[]⟩, .string ⟨#[]⟩, .slice none 0 0, .slice none 0 0, .int .i64 ss, .int .i64 (1 + ps), .int .i64 1, .int .i64 1, .int .u64 0, .int .u64 0] 31
        rw [hz9] at this; rw [hw9]; exact this
      have hN9 := (hNa.keep (Keeps.of_below hba2)).mono (ok' := fun k => k < w9.heap.size) (fun k _ h => Nat.lt_of_lt_of_le h hba2.size)
      rw [← hw9]
      have hM19 := (hM1a.keep (Keeps.of_below hba)).mono (ok' := fun k => k < w9.heap.size) (fun k hk _ => hk)
      have hT19 := hT1a.below hba
      have hT29 := hTa.below hba
      have hbw9 := hbwa.trans (hba.mono hbwa.size)
      clear hwa hw9 hF hTa hza hMa hNa hM1a hbwa hT1a hz9 hba1 hba2 hba hT18 hT28 hM78 hM8 hbw8 y0 y1 y2 y3 y4 y5 y6 y7 y8 y9 y10 z0 z1 z2 z3 z4 f0 f1 f2 f3 f4
      have hst1 : 1 ≤ 1 + ps := by omega
      have hst2 : ss + (1 + ps) ≤ 1099511627776 := by omega
      have hlX := len_may xs m g1'
      have hlY := len_may xs (notM m) g1'
      have hlZ := len_may xs zM g1'
      have HOX := Lib.hid (rowsOk_may HR.out m)
      have HOY := Lib.hid (rowsOk_may HR.out (notM m))
      have HOZ := Lib.hid (rowsOk_may HR.out zM)
      have xa0 := hT19.c 0 rfl
      have xa1 := hT19.c 1 rfl
      have xa2 := hT19.c 2 rfl
      have xa3 := hT19.c 3 rfl
      have xa4 := hT19.c 4 rfl
      have xa5 := hT19.c 5 rfl
      have xa6 := hT19.c 6 rfl
      have xa7 := hT19.c 7 rfl
      have xa8 := hT19.c 8 rfl
      have xa9 := hT19.c 9 rfl
      have xa10 := hT19.c 10 rfl
      go_region_held3 (fun w' => w'.cell? ⟨g1, 0, none⟩ = some (.int .i64 m.op) ∧ w'.cell? ⟨g1, 1, none⟩ = some (.string m.name) ∧ w'.cell? ⟨g1, 2, none⟩ = some (.string m.value) ∧ w'.cell? ⟨g1, 3, none⟩ = some (.slice M1 m.values.length d1) ∧ w'.cell? ⟨g1, 4, none⟩ = some (.slice M2 m.kids.length d2) ∧ w'.cell? ⟨g1, 5, none⟩ = some (.int .i64 ss) ∧ w'.cell? ⟨g1, 6, none⟩ = some (.int .i64 (1 + ps)) ∧ w'.cell? ⟨g1, 7, none⟩ = some (.int .i64 1) ∧ w'.cell? ⟨g1, 8, none⟩ = some (.int .i64 1) ∧ w'.cell? ⟨g1, 9, none⟩ = some (.int .u64 0) ∧ w'.cell? ⟨g1, 10, none⟩ = some (.int .u64 0))
        ((first | exact ⟨xa0, xa1, xa2, xa3, xa4, xa5, xa6, xa7, xa8, xa9, xa10⟩ | exact ⟨xv0, xv1, xv2, xv3, xv4, xv5, xv6, xv7, xv8, xv9, xv10⟩ | exact ⟨xq0, xq1, xq2, xq3, xq4, xq5, xq6, xq7, xq8, xq9, xq10⟩ | exact ⟨xr0, xr1, xr2, xr3, xr4, xr5, xr6, xr7, xr8, xr9, xr10⟩))
        (first
          | (go_at_call 22; refine (C_v_Rows A cap xs _ (Sl.up HR.out (hbw9.drew)) (by omega) HS.out).mono ?_; rintro e xwa ⟨v, rfl, xo1, xb1⟩; obtain ⟨xA1, xc1, rfl, xs1⟩ := xo1.sl xb1.size; have xv0 := bcell xb1 (cdrew xa0); have xv1 := bcell xb1 (cdrew xa1); have xv2 := bcell xb1 (cdrew xa2); have xv3 := bcell xb1 (cdrew xa3); have xv4 := bcell xb1 (cdrew xa4); have xv5 := bcell xb1 (cdrew xa5); have xv6 := bcell xb1 (cdrew xa6); have xv7 := bcell xb1 (cdrew xa7); have xv8 := bcell xb1 (cdrew xa8); have xv9 := bcell xb1 (cdrew xa9); have xv10 := bcell xb1 (cdrew xa10))
          | (go_at_call 23; refine (C_AnswersG m _ _ _ _ _ _ _ _ _ _ _ _ _ _ _ xA1 xc1 xs _ ((hM19.keep (Keeps.of_below (show Below w9.heap.size w9 xwa from (((Below.refl _ w9).drew).trans (xb1.mono (Nat.le_refl _)))))).mono (ok' := fun k => k < xwa.heap.size) (fun k _ h => Nat.lt_of_lt_of_le h (show w9.heap.size ≤ xwa.heap.size from xb1.size))) xs1 (by omega) HS.out).mono ?_; rintro e xwb ⟨xba, xbi, xB, xc, rfl, xask, xin, xbi', xsl, xb2⟩; have xq0 := bcell xb2 xv0; have xq1 := bcell xb2 xv1; have xq2 := bcell xb2 xv2; have xq3 := bcell xb2 xv3; have xq4 := bcell xb2 xv4; have xq5 := bcell xb2 xv5; have xq6 := bcell xb2 xv6; have xq7 := bcell xb2 xv7; have xq8 := bcell xb2 xv8; have xq9 := bcell xb2 xv9; have xq10 := bcell xb2 xv10)
          | (go_at_call 26; refine (C_told_one xba xbi xB xc _ _ _ _ _ _ _ _ ss (1 + ps) 5 _ (by omega) hst1 hst2 (by omega) (by omega) xask xin xbi' xsl hlX HOX.out).mono ?_; rintro e xwc ⟨v, rfl, xo3, xb3⟩; obtain ⟨xR, xrc, rfl, xS⟩ := xo3.sl xb3.size; have xr0 := bcell xb3 xq0; have xr1 := bcell xb3 xq1; have xr2 := bcell xb3 xq2; have xr3 := bcell xb3 xq3; have xr4 := bcell xb3 xq4; have xr5 := bcell xb3 xq5; have xr6 := bcell xb3 xq6; have xr7 := bcell xb3 xq7; have xr8 := bcell xb3 xq8; have xr9 := bcell xb3 xq9; have xr10 := bcell xb3 xq10))
      obtain ⟨xg, xo, rfl, xn⟩ := xS.ans1
      have xT : Below w9.heap.size w9 xwc := (((Below.refl _ w9).drew.trans (xb1.mono (Nat.le_refl _))).trans (xb2.mono (show w9.heap.size ≤ _ from xb1.size))).trans (xb3.mono (Nat.le_trans (show w9.heap.size ≤ _ from xb1.size) xb2.size))
      have xW := hbw9.trans (xT.mono hbw9.size)
      have yTx := hT29.below xT
      have yMx := (hN9.keep (Keeps.of_below xT)).mono (ok' := fun k => k < xwc.heap.size) (fun k _ h => Nat.lt_of_lt_of_le h xT.size)
      have zTx := hT3.below xT
      clear xa0 xa1 xa2 xa3 xa4 xa5 xa6 xa7 xa8 xa9 xa10 xv0 xv1 xv2 xv3 xv4 xv5 xv6 xv7 xv8 xv9 xv10 xq0 xq1 xq2 xq3 xq4 xq5 xq6 xq7 xq8 xq9 xq10 xr0 xr1 xr2 xr3 xr4 xr5 xr6 xr7 xr8 xr9 xr10 xo1 xo3 xs1 xS xask xin xsl xb1 xb2 xb3
      go_wp2_with fail
      have ya0 := yTx.c 0 rfl
      have ya1 := yTx.c 1 rfl
      have ya2 := yTx.c 2 rfl
      have ya3 := yTx.c 3 rfl
      have ya4 := yTx.c 4 rfl
      have ya5 := yTx.c 5 rfl
      have ya6 := yTx.c 6 rfl
      have ya7 := yTx.c 7 rfl
      have ya8 := yTx.c 8 rfl
      have ya9 := yTx.c 9 rfl
      have ya10 := yTx.c 10 rfl
      go_region_held3 (fun w' => w'.cell? ⟨g1 + 1, 0, none⟩ = some (.int .i64 7) ∧ w'.cell? ⟨g1 + 1, 1, none⟩ = some (.string ⟨#[]⟩) ∧ w'.cell? ⟨g1 + 1, 2, none⟩ = some (.string ⟨#[]⟩) ∧ w'.cell? ⟨g1 + 1, 3, none⟩ = some (.slice none 0 0) ∧ w'.cell? ⟨g1 + 1, 4, none⟩ = some (.slice (some ⟨w8.heap.size, 0, none⟩) 1 1) ∧ w'.cell? ⟨g1 + 1, 5, none⟩ = some (.int .i64 ss) ∧ w'.cell? ⟨g1 + 1, 6, none⟩ = some (.int .i64 (1 + ps)) ∧ w'.cell? ⟨g1 + 1, 7, none⟩ = some (.int .i64 1) ∧ w'.cell? ⟨g1 + 1, 8, none⟩ = some (.int .i64 1) ∧ w'.cell? ⟨g1 + 1, 9, none⟩ = some (.int .u64 0) ∧ w'.cell? ⟨g1 + 1, 10, none⟩ = some (.int .u64 0))
        ((first | exact ⟨ya0, ya1, ya2, ya3, ya4, ya5, ya6, ya7, ya8, ya9, ya10⟩ | exact ⟨yv0, yv1, yv2, yv3, yv4, yv5, yv6, yv7, yv8, yv9, yv10⟩ | exact ⟨yq0, yq1, yq2, yq3, yq4, yq5, yq6, yq7, yq8, yq9, yq10⟩ | exact ⟨yr0, yr1, yr2, yr3, yr4, yr5, yr6, yr7, yr8, yr9, yr10⟩))
        (first
          | (go_at_call 22; refine (C_v_Rows A cap xs _ (Sl.up HR.out (xW.drew)) (by omega) HS.out).mono ?_; rintro e ywa ⟨v, rfl, yo1, yb1⟩; obtain ⟨yA1, yc1, rfl, ys1⟩ := yo1.sl yb1.size; have yv0 := bcell yb1 (cdrew ya0); have yv1 := bcell yb1 (cdrew ya1); have yv2 := bcell yb1 (cdrew ya2); have yv3 := bcell yb1 (cdrew ya3); have yv4 := bcell yb1 (cdrew ya4); have yv5 := bcell yb1 (cdrew ya5); have yv6 := bcell yb1 (cdrew ya6); have yv7 := bcell yb1 (cdrew ya7); have yv8 := bcell yb1 (cdrew ya8); have yv9 := bcell yb1 (cdrew ya9); have yv10 := bcell yb1 (cdrew ya10))
          | (go_at_call 23; refine (C_AnswersG (notM m) _ _ _ _ _ _ _ _ _ _ _ _ _ _ _ yA1 yc1 xs _ ((yMx.keep (Keeps.of_below (show Below xwc.heap.size xwc ywa from (((Below.refl _ xwc).drew).trans (yb1.mono (Nat.le_refl _)))))).mono (ok' := fun k => k < ywa.heap.size) (fun k _ h => Nat.lt_of_lt_of_le h (show xwc.heap.size ≤ ywa.heap.size from yb1.size))) ys1 (by omega) HS.out).mono ?_; rintro e ywb ⟨yba, ybi, yB, yc, rfl, yask, yin, ybi', ysl, yb2⟩; have yq0 := bcell yb2 yv0; have yq1 := bcell yb2 yv1; have yq2 := bcell yb2 yv2; have yq3 := bcell yb2 yv3; have yq4 := bcell yb2 yv4; have yq5 := bcell yb2 yv5; have yq6 := bcell yb2 yv6; have yq7 := bcell yb2 yv7; have yq8 := bcell yb2 yv8; have yq9 := bcell yb2 yv9; have yq10 := bcell yb2 yv10)
          | (go_at_call 26; refine (C_told_one yba ybi yB yc _ _ _ _ _ _ _ _ ss (1 + ps) 5 _ (by omega) hst1 hst2 (by omega) (by omega) yask yin ybi' ysl hlY HOY.out).mono ?_; rintro e ywc ⟨v, rfl, yo3, yb3⟩; obtain ⟨yR, yrc, rfl, yS⟩ := yo3.sl yb3.size; have yr0 := bcell yb3 yq0; have yr1 := bcell yb3 yq1; have yr2 := bcell yb3 yq2; have yr3 := bcell yb3 yq3; have yr4 := bcell yb3 yq4; have yr5 := bcell yb3 yq5; have yr6 := bcell yb3 yq6; have yr7 := bcell yb3 yq7; have yr8 := bcell yb3 yq8; have yr9 := bcell yb3 yq9; have yr10 := bcell yb3 yq10))
      obtain ⟨yg, yo, rfl, yn⟩ := yS.ans1
      have yT : Below xwc.heap.size xwc ywc := (((Below.refl _ xwc).drew.trans (yb1.mono (Nat.le_refl _))).trans (yb2.mono (show xwc.heap.size ≤ _ from yb1.size))).trans (yb3.mono (Nat.le_trans (show xwc.heap.size ≤ _ from yb1.size) yb2.size))
      have yW := xW.trans (yT.mono xW.size)
      have zTy := zTx.below yT
      clear ya0 ya1 ya2 ya3 ya4 ya5 ya6 ya7 ya8 ya9 ya10 yv0 yv1 yv2 yv3 yv4 yv5 yv6 yv7 yv8 yv9 yv10 yq0 yq1 yq2 yq3 yq4 yq5 yq6 yq7 yq8 yq9 yq10 yr0 yr1 yr2 yr3 yr4 yr5 yr6 yr7 yr8 yr9 yr10 yo1 yo3 ys1 yS yask yin ysl yb1 yb2 yb3
      go_wp2_with fail
      have za0 := zTy.c 0 rfl
      have za1 := zTy.c 1 rfl
      have za2 := zTy.c 2 rfl
      have za3 := zTy.c 3 rfl
      have za4 := zTy.c 4 rfl
      have za5 := zTy.c 5 rfl
      have za6 := zTy.c 6 rfl
      have za7 := zTy.c 7 rfl
      have za8 := zTy.c 8 rfl
      have za9 := zTy.c 9 rfl
      have za10 := zTy.c 10 rfl
      go_region_held3 (fun w' => w'.cell? ⟨w8.heap.size + 1, 0, none⟩ = some (.int .i64 0) ∧ w'.cell? ⟨w8.heap.size + 1, 1, none⟩ = some (.string ⟨#[]⟩) ∧ w'.cell? ⟨w8.heap.size + 1, 2, none⟩ = some (.string ⟨#[]⟩) ∧ w'.cell? ⟨w8.heap.size + 1, 3, none⟩ = some (.slice none 0 0) ∧ w'.cell? ⟨w8.heap.size + 1, 4, none⟩ = some (.slice none 0 0) ∧ w'.cell? ⟨w8.heap.size + 1, 5, none⟩ = some (.int .i64 ss) ∧ w'.cell? ⟨w8.heap.size + 1, 6, none⟩ = some (.int .i64 (1 + ps)) ∧ w'.cell? ⟨w8.heap.size + 1, 7, none⟩ = some (.int .i64 1) ∧ w'.cell? ⟨w8.heap.size + 1, 8, none⟩ = some (.int .i64 1) ∧ w'.cell? ⟨w8.heap.size + 1, 9, none⟩ = some (.int .u64 0) ∧ w'.cell? ⟨w8.heap.size + 1, 10, none⟩ = some (.int .u64 0))
        ((first | exact ⟨za0, za1, za2, za3, za4, za5, za6, za7, za8, za9, za10⟩ | exact ⟨zv0, zv1, zv2, zv3, zv4, zv5, zv6, zv7, zv8, zv9, zv10⟩ | exact ⟨zq0, zq1, zq2, zq3, zq4, zq5, zq6, zq7, zq8, zq9, zq10⟩ | exact ⟨zr0, zr1, zr2, zr3, zr4, zr5, zr6, zr7, zr8, zr9, zr10⟩))
        (first
          | (go_at_call 22; refine (C_v_Rows A cap xs _ (Sl.up HR.out (yW.drew)) (by omega) HS.out).mono ?_; rintro e zwa ⟨v, rfl, zo1, zb1⟩; obtain ⟨zA1, zc1, rfl, zs1⟩ := zo1.sl zb1.size; have zv0 := bcell zb1 (cdrew za0); have zv1 := bcell zb1 (cdrew za1); have zv2 := bcell zb1 (cdrew za2); have zv3 := bcell zb1 (cdrew za3); have zv4 := bcell zb1 (cdrew za4); have zv5 := bcell zb1 (cdrew za5); have zv6 := bcell zb1 (cdrew za6); have zv7 := bcell zb1 (cdrew za7); have zv8 := bcell zb1 (cdrew za8); have zv9 := bcell zb1 (cdrew za9); have zv10 := bcell zb1 (cdrew za10))
          | (go_at_call 23; refine (C_AnswersG zM _ _ _ _ _ _ _ _ _ _ _ _ _ _ _ zA1 zc1 xs _ (MRep.zM _ _) zs1 (by omega) HS.out).mono ?_; rintro e zwb ⟨zba, zbi, zB, zc, rfl, zask, zin, zbi', zsl, zb2⟩; have zq0 := bcell zb2 zv0; have zq1 := bcell zb2 zv1; have zq2 := bcell zb2 zv2; have zq3 := bcell zb2 zv3; have zq4 := bcell zb2 zv4; have zq5 := bcell zb2 zv5; have zq6 := bcell zb2 zv6; have zq7 := bcell zb2 zv7; have zq8 := bcell zb2 zv8; have zq9 := bcell zb2 zv9; have zq10 := bcell zb2 zv10)
          | (go_at_call 26; refine (C_told_one zba zbi zB zc _ _ _ _ _ _ _ _ ss (1 + ps) 5 _ (by omega) hst1 hst2 (by omega) (by omega) zask zin zbi' zsl hlZ HOZ.out).mono ?_; rintro e zwc ⟨v, rfl, zo3, zb3⟩; obtain ⟨zR, zrc, rfl, zS⟩ := zo3.sl zb3.size; have zr0 := bcell zb3 zq0; have zr1 := bcell zb3 zq1; have zr2 := bcell zb3 zq2; have zr3 := bcell zb3 zq3; have zr4 := bcell zb3 zq4; have zr5 := bcell zb3 zq5; have zr6 := bcell zb3 zq6; have zr7 := bcell zb3 zq7; have zr8 := bcell zb3 zq8; have zr9 := bcell zb3 zq9; have zr10 := bcell zb3 zq10))
      obtain ⟨zg, zo, rfl, zn⟩ := zS.ans1
      have zT : Below ywc.heap.size ywc zwc := (((Below.refl _ ywc).drew.trans (zb1.mono (Nat.le_refl _))).trans (zb2.mono (show ywc.heap.size ≤ _ from zb1.size))).trans (zb3.mono (Nat.le_trans (show ywc.heap.size ≤ _ from zb1.size) zb2.size))
      have zW := yW.trans (zT.mono yW.size)
      clear za0 za1 za2 za3 za4 za5 za6 za7 za8 za9 za10 zv0 zv1 zv2 zv3 zv4 zv5 zv6 zv7 zv8 zv9 zv10 zq0 zq1 zq2 zq3 zq4 zq5 zq6 zq7 zq8 zq9 zq10 zr0 zr1 zr2 zr3 zr4 zr5 zr6 zr7 zr8 zr9 zr10 zo1 zo3 zs1 zS zask zin zsl zb1 zb2 zb3
      go_wp2_with fail
      have hT : winT (xs.filter (mayM zM)) ss (1 + ps) 0 = winT (xs.filter (mayM m)) ss (1 + ps) 0 + winT (xs.filter (mayM (notM m))) ss (1 + ps) 0 := by
        unfold winT; rw [mayM_zM]; exact tot_parted m HH1.out HH2.out _ _ _
      have t1 : 0 ≤ winT (xs.filter (mayM m)) ss (1 + ps) 0 := (HOX.out.tot _ _).1
      have t2 : 0 ≤ winT (xs.filter (mayM (notM m))) ss (1 + ps) 0 := (HOY.out.tot _ _).1
      unfold fCnt at xn yn zn
      rw [hT] at zn
      replace xn := (xn.below yT).below zT
      replace yn := yn.below zT
      clear hT xT yT zT HOX HOY HOZ hlX hlY hlZ HH1 HH2 HCP CP1 CP2 HM HR HS hgood hN9 hM19 yMx hT19 hT29 hT3 yTx zTx zTy
      generalize winT (xs.filter (mayM m)) ss (1 + ps) 0 = Tx at *
      generalize winT (xs.filter (mayM (notM m))) ss (1 + ps) 0 = Ty at *
      rcases parts_cases t1 t2 with ⟨q1, q3⟩ | ⟨q1, q2, q3⟩ | ⟨q1, q2, q3, g1, g2, g3, g4, g5⟩ | ⟨q1, q2, q3, g1, g2, g3, g4, g5⟩
      · rw [q1] at xn
        rw [q3] at zn
        obtain ⟨-, x1, x2, x3⟩ := xn
        dsimp only at x1 x2 x3
        obtain ⟨-, z1, z2, z3⟩ := zn
        dsimp only at z1 z2 z3
        go_quiet (fail)
        go_wp2_with fail
        have hF : Below zwc.heap.size zwc (zwc.drewN nq) := ⟨rfl, rfl, rfl, Nat.le_refl _, fun _ _ => rfl⟩
        have hfin := zW.trans (hF.mono zW.size)
        refine (C_awake _).mono ?_
        rintro e w9 ⟨rfl, hb9⟩
        go_wp2
        go_ret
        exact ⟨rfl, hfin.trans (hb9.mono hfin.size)⟩
      · rw [q1] at xn
        rw [q2] at yn
        rw [q3] at zn
        obtain ⟨-, x1, x2, x3⟩ := xn
        dsimp only at x1 x2 x3
        obtain ⟨-, y1, y2, y3⟩ := yn
        dsimp only at y1 y2 y3
        obtain ⟨-, z1, z2, z3⟩ := zn
        dsimp only at z1 z2 z3
        go_quiet (fail)
        go_wp2_with fail
        have hF : Below zwc.heap.size zwc (zwc.drewN nq) := ⟨rfl, rfl, rfl, Nat.le_refl _, fun _ _ => rfl⟩
        have hfin := zW.trans (hF.mono zW.size)
        refine (C_awake _).mono ?_
        rintro e w9 ⟨rfl, hb9⟩
        go_wp2
        go_ret
        exact ⟨rfl, hfin.trans (hb9.mono hfin.size)⟩
      · rw [q1] at xn
        rw [q2] at yn
        rw [q3] at zn
        obtain ⟨-, x1, x2, x3⟩ := xn
        dsimp only at x1 x2 x3
        obtain ⟨-, y1, y2, y3⟩ := yn
        dsimp only at y1 y2 y3
        obtain ⟨-, z1, z2, z3⟩ := zn
        dsimp only at z1 z2 z3
        go_quiet (fail)
        go_wp2_with fail
        have hF : Below zwc.heap.size zwc (zwc.drewN nq) := ⟨rfl, rfl, rfl, Nat.le_refl _, fun _ _ => rfl⟩
        have hfin := zW.trans (hF.mono zW.size)
        refine (C_awake _).mono ?_
        rintro e w9 ⟨rfl, hb9⟩
        go_wp2
        go_ret
        exact ⟨rfl, hfin.trans (hb9.mono hfin.size)⟩
      · rw [q1] at xn
        rw [q2] at yn
        rw [q3] at zn
        obtain ⟨-, x1, x2, x3⟩ := xn
        dsimp only at x1 x2 x3
        obtain ⟨-, y1, y2, y3⟩ := yn
        dsimp only at y1 y2 y3
        obtain ⟨-, z1, z2, z3⟩ := zn
        dsimp only at z1 z2 z3
        go_quiet (fail)
        go_wp2_with fail
        have hF : Below zwc.heap.size zwc (zwc.drewN nq) := ⟨rfl, rfl, rfl, Nat.le_refl _, fun _ _ => rfl⟩
        have hfin := zW.trans (hF.mono zW.size)
        have x1' := bcell hF x1
        have x2' := bcell hF x2
        have y2' := bcell hF y2
        have z1' := bcell hF z1
        have z2' := bcell hF z2
        clear x1 x2 x3 y1 y2 y3 z1 z2 z3 hF
        generalize zwc.drewN nq = w8 at *
        go_region_held3 (fun w' => w'.cell? ⟨zg, zo + 1, none⟩ = some (.bool true) ∧ w'.cell? ⟨zg, zo + 2, none⟩ = some (.int .u64 (Tx + Ty)) ∧ w'.cell? ⟨xg, xo + 2, none⟩ = some (.int .u64 Tx) ∧ w'.cell? ⟨yg, yo + 2, none⟩ = some (.int .u64 Ty))
          ((first | exact ⟨z1', z2', x2', y2'⟩ | exact ⟨z1'', z2'', x2'', y2''⟩))
          (first | (go_at_call 13; refine (C_awake _).mono ?_; rintro e w9 ⟨rfl, hb9⟩; have z1'' := bcell hb9 (cdrew z1'); have z2'' := bcell hb9 (cdrew z2'); have x2'' := bcell hb9 (cdrew x2'); have y2'' := bcell hb9 (cdrew y2')))
        go_wp2
        go_ret
        exact ⟨rfl, (hfin.drew).trans (hb9.mono (show w.heap.size ≤ w8.drew.heap.size from hfin.size))⟩
end Go.Proofs.YtbefkiebdokbdaaGreat.V
end
