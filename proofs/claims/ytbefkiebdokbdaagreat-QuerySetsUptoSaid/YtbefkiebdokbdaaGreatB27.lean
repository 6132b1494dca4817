/- Part 27 of the proof: Awake, Parts. -/
import Derived.WalkSpells
import Derived.Test.YtbefkiebdokbdaaGreatB20
import Derived.Test.YtbefkiebdokbdaaGreatB25
import Derived.Test.YtbefkiebdokbdaaGreatB26

section
/- varvelaw23.awake is true. -/
namespace Go.Proofs.YtbefkiebdokbdaaGreat.V
open Go.RowKit
set_option linter.unusedVariables false
set_option maxRecDepth 100000

theorem cntS_nil : cntS [] = 0 := by rw [cntS_eq (fun s h => by cases h)]; rfl
theorem cntA_0 : cntA 0 = ⟨0, true, 0, 0⟩ := by unfold cntA satErr; rfl
theorem winS_nil (a b : Int) : winS a b [] = [] := rfl
/-- query.Check at awake's two questions. -/
@[reducible] def conf1 : Conf := ⟨0, 1, 1, 1, 1⟩
theorem C_Check_a1 (w : World) : Calls Tryz.prog 14 #[.agg (confL conf1).toArray, .int .i64 0, .agg (askL 0 1 1).toArray] w fun e w' => e = .returned (.int .i64 0) ∧ Below w.heap.size w w' := by
  have h := C_Check_end (.int .i64 0) (.string ⟨#[]⟩) (.string ⟨#[]⟩) (.slice none 0 0) (.slice none 0 0) true conf1 0 0 1 1 1 0 0 w (fun W _ => C_match_Check_z W) ⟨by omega, by omega⟩ ⟨by omega, by omega⟩ ⟨by omega, by omega⟩
    (by unfold qBad; simp) (by unfold qBig; simp) (by omega) (by omega) (by decide) (by decide) (by decide) (by decide) (by omega)
  refine h.mono fun e w' hh => ⟨hh.1.trans (ret_i ?_), hh.2⟩
  decide
/-- The zero question. -/
@[reducible] def askZ : List Value := mz ++ [.int .i64 0, .int .i64 0, .int .i64 0, .int .i64 0, .int .u64 0, .int .u64 0]
theorem C_Check_a2 (w : World) : Calls Tryz.prog 14 #[.agg (confL conf1).toArray, .int .i64 0, .agg askZ.toArray] w fun e w' => e = .returned (.int .i64 5) ∧ Below w.heap.size w w' := by
  exact C_Check_bad (.int .i64 0) (.string ⟨#[]⟩) (.string ⟨#[]⟩) (.slice none 0 0) (.slice none 0 0) true conf1 0 0 0 0 0 0 0 w (fun W _ => C_match_Check_z W) ⟨by omega, by omega⟩ ⟨by omega, by omega⟩ (by unfold qBad; simp)

theorem C_awake (w : World) : Calls Tryz.prog 13 #[] w fun e w' => e = .returned (.bool true) ∧ Below w.heap.size w w' := by
  go_enter Tryz.func13, Tryz.ntmps13
  go_wp2_with fail
  obtain ⟨W, hW⟩ : ∃ W, W = w.alloc (.cells (askL 0 1 1).toArray 31) := ⟨_, rfl⟩
  have hbW : Below w.heap.size w W := hW ▸ (Below.refl _ _).alloc (Nat.le_refl _) _
  have hA : Blk W w.heap.size (askL 0 1 1) 31 := hW ▸ Blk.new _ _ _
  show Calls _ _ _ (w.alloc (.cells (askL 0 1 1).toArray 31)) _
  rw [← hW]
  clear hW
  refine (C_Answers none 0 [] 1 W (Sl.nil _ _ _) (by simp) (fun r h => by cases h)).mono ?_
  rintro e w1 ⟨ba, bi, B, c, rfl, hask, hin, hbi, hsl, hb1⟩
  have hbw1 := hbW.trans (hb1.mono hbW.size)
  have hA1 := hA.below hb1
  go_wp2_with fail
  refine (C_told ba bi B c [] 1 9 w1 (by omega) (by omega) (by omega) (by omega) hask hin hbi hsl (by simp) (fun r h => by cases h) (fun r h => by cases h) (fun r h => by cases h)).mono ?_
  rintro e w2 ⟨g, o, c2, rfl, hans, hg, hb2⟩
  rw [winS_nil, cntS_nil, cntA_0] at hans
  obtain ⟨n0, n1, n2, n3⟩ := hans
  have hbw2 := hbw1.trans (hb2.mono hbw1.size)
  have hA2 := hA1.below hb2
  have hgl : g < w2.heap.size := by
    by_cases h : g < w2.heap.size
    · exact h
    · have : w2.heap[g]? = none := by rw [Array.getElem?_eq_none_iff]; omega
      simp [World.cell?, this] at n0
  have hAl := hA2.lt
  clear hask hin hsl hb1 hA hA1
  have a0 := hA2.c 0 rfl
  have a1 := hA2.c 1 rfl
  have a2 := hA2.c 2 rfl
  have a3 := hA2.c 3 rfl
  have a4 := hA2.c 4 rfl
  have a5 := hA2.c 5 rfl
  have a6 := hA2.c 6 rfl
  have a7 := hA2.c 7 rfl
  have a8 := hA2.c 8 rfl
  have a9 := hA2.c 9 rfl
  have a10 := hA2.c 10 rfl
  have ne1 : g ≠ w2.heap.size := by omega
  have ne2 : w.heap.size ≠ w2.heap.size := by omega
  go_wp2_with fail
  obtain ⟨W3, hW3⟩ : ∃ W, W = w2.alloc (.cells (confL conf1).toArray 24) := ⟨_, rfl⟩
  have hb3 : Below w2.heap.size w2 W3 := hW3 ▸ (Below.refl _ _).alloc (Nat.le_refl _) _
  have hC3 : Blk W3 w2.heap.size (confL conf1) 24 := hW3 ▸ Blk.new _ _ _
  show Calls _ _ _ (w2.alloc (.cells (confL conf1).toArray 24)) _
  rw [← hW3]
  clear hW3
  refine (C_Check_a1 W3).mono ?_
  rintro e w4 ⟨rfl, hb4⟩
  have hC4 := hC3.below hb4
  have c0 := hC4.c 0 rfl
  have c1 := hC4.c 1 rfl
  have c2 := hC4.c 2 rfl
  have c3 := hC4.c 3 rfl
  have c4 := hC4.c 4 rfl
  have hbw4 := (hbw2.trans (hb3.mono hbw2.size)).trans (hb4.mono (Nat.le_trans hbw2.size hb3.size))
  clear a0 a1 a2 a3 a4 a5 a6 a7 a8 a9 a10 n0 n1 n2 n3 hA2 hb2 hC3 hC4 hb3 hb4
  go_wp2_with (go_at_call 14; refine (C_Check_a2 _).mono ?_; rintro e w5 ⟨rfl, hb5⟩)
  go_ret
  exact ⟨rfl, hbw4.trans (hb5.mono hbw4.size)⟩
end Go.Proofs.YtbefkiebdokbdaaGreat.V
end

section
/- varvelaw23.QueryParts: the walk. -/
namespace Go.Proofs.YtbefkiebdokbdaaGreat.V
open Go.RowKit
set_option linter.unusedVariables false
set_option maxRecDepth 100000

theorem AnsAt.below {w w' : World} {g o : Nat} {a : Answer} (h : AnsAt w g o a) (hb : Below w.heap.size w w') : AnsAt w' g o a := ⟨bcell hb h.1, bcell hb h.2.1, bcell hb h.2.2.1, bcell hb h.2.2.2⟩
theorem AnsAt.lt {w : World} {g o : Nat} {a : Answer} (h : AnsAt w g o a) : g < w.heap.size := by
  by_cases hg : g < w.heap.size
  · exact hg
  · have : w.heap[g]? = none := by rw [Array.getElem?_eq_none_iff]; omega
    have := h.1
    simp [World.cell?, *] at this
/-- What rows that lie somewhere are. -/
theorem rows_wf {ok : Nat → Prop} {w : World} {A : Option Addr} {xs : List Row} (h : Sl ok w A xs) : ∀ r ∈ xs, r.s.gauge.wf ∧ ∀ b ∈ r.s.hist, I64 b.at_ ∧ U64 b.n := by
  intro r hr
  obtain ⟨k, hk, rfl⟩ := List.mem_iff_getElem.1 hr
  obtain ⟨b, off, A0, c0, A1, c1, A2, c2, rfl, hob, hlb, y0, y1, y2, y3, y4, y5, y6, y7, s0, hi, s1, s2, hg, m0, m1, m2⟩ := h.row hk
  refine ⟨hg, fun b hb => ?_⟩
  obtain ⟨j, hj, rfl⟩ := List.mem_iff_getElem.1 hb
  obtain ⟨_, _, _, _, _, _, _, h1, h2⟩ := s1.bucket hj
  exact ⟨h1, h2⟩
theorem mayB_ok {ok : Nat → Prop} {w : World} {A : Option Addr} {xs : List Row} (h : Sl ok w A xs) : ∀ r ∈ xs.filter mayB, pCheck r.s = true ∧ r.s.gauge.wf ∧ HistOk r.s := by
  intro r hr
  obtain ⟨hm, hb⟩ := List.mem_filter.1 hr
  obtain ⟨hg, hh⟩ := rows_wf h r hm
  have hp : pCheck r.s = true := by unfold mayB at hb; revert hb; simp
  refine ⟨hp, hg, fun b hb => ?_⟩
  have hc : chk (-1) r.s.hist = true := by unfold pCheck at hp; revert hp; simp; intro a _ _; exact a
  obtain ⟨h1, h2, _⟩ := chk_mem hc b hb
  exact ⟨(hh b hb).2, by omega, h2⟩
/-- A slice from place k on. -/
theorem slice_from {α : Type} [Rep α] {t e : TypeId} {sz : Nat} {ok : Nat → Prop} {w : World} {A : Option Addr} {xs : List α} {cap k : Nat} (h : Sl ok w A xs) (ht : Tryz.prog.underlying t = some (.slice (Tryz.prog.elem t))) (hsz : ∀ W, (sizeOf (Tryz.prog.elem t)).run Tryz.prog W = .ok (Rep.sz α) W) (hA : A = none → cap = 0) (hcap : xs.length ≤ cap) (hk : k ≤ xs.length) :
    ∃ A' c', (∀ W : World, (Instr.sliceAt t (.slice A xs.length cap) (some (.int .i64 k)) none none).run Tryz.prog W = .ok (.slice A' (xs.drop k).length c') W) ∧ (∀ W : World, (Instr.slice t (.slice A xs.length cap) (some (.int .i64 k)) none none).run Tryz.prog W = .ok (.slice A' (xs.drop k).length c') W) ∧ Sl ok w A' (xs.drop k) ∧ (A' = none → c' = 0) ∧ (xs.drop k).length ≤ c' := by
  have hrun : ∀ W : World, (Instr.slice t (.slice A xs.length cap) (some (.int .i64 k)) none none).run Tryz.prog W = .ok (.slice (if cap = k then A else A.map (·.add (k * Rep.sz α))) (xs.length - k) (cap - k)) W := fun W => by
    rw [run_slice_l W t A xs.length cap ht .i64 k (by omega) (by omega)]
    rw [hsz]
    rfl
  refine ⟨if cap = k then A else A.map (·.add (k * Rep.sz α)), cap - k, fun W => ?_, fun W => ?_, ?_, ?_, by simp; omega⟩
  · rw [run_sliceAt_slice W t _ _ _ _ ht, hrun W, List.length_drop]
  · rw [hrun W, List.length_drop]
  · by_cases hlt : k < xs.length
    · obtain ⟨b, off, rfl, hs⟩ := h.drop k hlt
      rw [if_neg (by omega)]
      simp only [Option.map_some]
      rw [show (⟨b, off, none⟩ : Addr).add (k * Rep.sz α) = ⟨b, off + k * Rep.sz α, none⟩ by unfold Addr.add; split <;> simp_all]
      exact hs
    · have e : xs.drop k = [] := List.drop_eq_nil_of_le (by omega)
      rw [e]
      exact Sl.nil _ _ _
  · intro hn
    split at hn
    · omega
    · have : A = none := by simpa using hn
      have := hA this
      omega
theorem tot_nonneg {l : List Sketch} (h : ∀ s ∈ l, HistOk s) : 0 ≤ tot l := by
  unfold tot
  refine sum_nonneg fun x hx => ?_
  obtain ⟨s, hs, rfl⟩ := List.mem_map.1 hx
  refine sum_nonneg fun y hy => ?_
  obtain ⟨b, hb, rfl⟩ := List.mem_map.1 hy
  exact (h s hs b hb).1.1
theorem ans_sat {T : Int} (h : 18446744073709551615 ≤ T) : cntA (cap64 T) = ⟨0, false, 0, 11⟩ := by
  have e : cap64 T = 18446744073709551615 := by unfold cap64; split <;> omega
  rw [e]; decide
theorem ans_ok {T : Int} (h : T < 18446744073709551615) : cntA (cap64 T) = ⟨0, true, T, 0⟩ := by
  have e : cap64 T = T := by unfold cap64; split <;> omega
  have e2 : satErr T = 0 := by unfold satErr; rw [if_neg (by omega)]
  rw [e]; unfold cntA; rw [e2]; rfl
theorem parts_cases {Tx Ty : Int} (h1 : 0 ≤ Tx) (h2 : 0 ≤ Ty) :
    (cntA (cap64 Tx) = ⟨0, false, 0, 11⟩ ∧ cntA (cap64 (Tx + Ty)) = ⟨0, false, 0, 11⟩)
    ∨ (cntA (cap64 Tx) = ⟨0, true, Tx, 0⟩ ∧ cntA (cap64 Ty) = ⟨0, false, 0, 11⟩ ∧ cntA (cap64 (Tx + Ty)) = ⟨0, false, 0, 11⟩)
    ∨ (cntA (cap64 Tx) = ⟨0, true, Tx, 0⟩ ∧ cntA (cap64 Ty) = ⟨0, true, Ty, 0⟩ ∧ cntA (cap64 (Tx + Ty)) = ⟨0, false, 0, 11⟩ ∧ Tx < 18446744073709551615 ∧ Ty < 18446744073709551615 ∧ 18446744073709551615 ≤ Tx + Ty ∧ IntKind.u64.wrap (18446744073709551615 - Ty) = 18446744073709551615 - Ty ∧ decide (18446744073709551615 - Ty ≤ Tx) = true)
    ∨ (cntA (cap64 Tx) = ⟨0, true, Tx, 0⟩ ∧ cntA (cap64 Ty) = ⟨0, true, Ty, 0⟩ ∧ cntA (cap64 (Tx + Ty)) = ⟨0, true, Tx + Ty, 0⟩ ∧ Tx < 18446744073709551615 ∧ Ty < 18446744073709551615 ∧ IntKind.u64.wrap (Tx + Ty) = Tx + Ty ∧ IntKind.u64.wrap (18446744073709551615 - Ty) = 18446744073709551615 - Ty ∧ decide (18446744073709551615 - Ty ≤ Tx) = false) := by
  by_cases a : 18446744073709551615 ≤ Tx
  · exact .inl ⟨ans_sat a, ans_sat (by omega)⟩
  · by_cases b : 18446744073709551615 ≤ Ty
    · exact .inr (.inl ⟨ans_ok (by omega), ans_sat b, ans_sat (by omega)⟩)
    · have w1 : IntKind.u64.wrap (18446744073709551615 - Ty) = 18446744073709551615 - Ty := IntWalk.u64_in _ (by omega)
      by_cases c : 18446744073709551615 ≤ Tx + Ty
      · exact .inr (.inr (.inl ⟨ans_ok (by omega), ans_ok (by omega), ans_sat c, by omega, by omega, c, w1, by rw [decide_eq_true_iff]; omega⟩))
      · exact .inr (.inr (.inr ⟨ans_ok (by omega), ans_ok (by omega), ans_ok (by omega), by omega, by omega, IntWalk.u64_in _ (by omega), w1, by rw [decide_eq_false_iff_not]; omega⟩))
set_option maxHeartbeats 4000000 in
theorem C_Parts (A : Option Addr) (cap : Nat) (xs : List Row) (at_ step : Int) (w : World) (hr : Sl (fun k => k < w.heap.size) w A xs) (hA : A = none → cap = 0) (hcap : xs.length ≤ cap) (hs : ∀ r ∈ xs, r.small) (h1 : I64 at_) (h2 : I64 step) :
    Calls Tryz.prog 10 #[.slice A xs.length cap, .int .i64 at_, .int .i64 step] w fun e w' => e = .returned (.bool true) ∧ Below w.heap.size w w' := by
  by_cases hlen : 30 < xs.length
  · go_enter Tryz.func10, Tryz.ntmps10
    go_wp2_with (go_at_call 13; refine (C_awake _).mono ?_; rintro e w1 ⟨rfl, hb1⟩)
    go_ret
    exact ⟨rfl, hb1⟩
  · have pl := place_lt (v := step) (n := 1073741824) (by omega)
    have pk := place_lt (v := at_) (n := (xs.length : Int) + 1) (by omega)
    obtain ⟨p1, p2⟩ := pl
    obtain ⟨p3, p4⟩ := pk
    have cp1 := fun W => C_Place step 1073741824 W h2 (by omega) (by omega)
    have cp2 := fun W => C_Place at_ ((xs.length : Int) + 1) W h1 (by omega) (by omega)
    generalize place step 1073741824 = ps at *
    obtain ⟨k, hk⟩ : ∃ k : Nat, place at_ ((xs.length : Int) + 1) = k := ⟨_, (Int.toNat_of_nonneg p3).symm⟩
    rw [hk] at p3 p4 cp2
    have CP1 := Lib.hid cp1
    have CP2 := Lib.hid cp2
    clear cp1 cp2 hk
    go_enter Tryz.func10, Tryz.ntmps10
    go_wp2_with fail
    refine (CP1.out _).mono ?_
    rintro e w1 ⟨rfl, rfl⟩
    go_wp2_with fail
    refine (CP2.out _).mono ?_
    rintro e w1 ⟨rfl, rfl⟩
    go_wp2_with fail
    obtain ⟨st, hst⟩ : ∃ st : Int, st = 1 + ps := ⟨_, rfl⟩
    obtain ⟨s1, s2⟩ : 1 ≤ st ∧ st ≤ 1099511627776 := by omega
    rw [← hst]
    clear hst
    obtain ⟨W, hW⟩ : ∃ W, W = w.alloc (.cells #[.int .i64 0, .string ⟨#[]⟩, .string ⟨#[]⟩, .slice none 0 0, .slice none 0 0, .int .i64 0, .int .i64 st, .int .i64 1, .int .i64 1, .int .u64 0, .int .u64 0] 31) := ⟨_, rfl⟩
    have hbW : Below w.heap.size w W := hW ▸ (Below.refl _ _).alloc (Nat.le_refl _) _
    have hB : Blk W w.heap.size (askL 0 st 1) 31 := hW ▸ Blk.new _ _ _
    rw [← hW]
    clear hW
    -- the two parts
    have hkx : k ≤ xs.length := by omega
    obtain ⟨A6, c6, hrun1, hrun2, hrb, hA6, hc6⟩ := slice_from hr (t := 51) (e := 67) (sz := 8) Tryz.underlying51 (fun W => by kernel_rfl) hA hcap hkx
    obtain ⟨xa, hxa⟩ : ∃ xa, xa = xs.take k := ⟨_, rfl⟩
    obtain ⟨xb, hxb⟩ : ∃ xb, xb = xs.drop k := ⟨_, rfl⟩
    rw [← hxb] at hrun1 hrun2 hrb hc6
    have hka : k = xa.length := by rw [hxa]; simp; omega
    have hkb : xb.length ≤ 30 := by rw [hxb]; simp; omega
    have hra : Sl (fun k => k < w.heap.size) w A xa := by rw [hxa]; exact hr.take k
    have xaS : ∀ r ∈ xa, r.small := fun r h => hs r (by rw [hxa] at h; exact List.mem_of_mem_take h)
    have xa0 := mayB_ok hra
    have xaP1 : ∀ r ∈ xa.filter mayB, pCheck r.s = true := fun r h => (xa0 r h).1
    have xaP2 : ∀ r ∈ xa.filter mayB, r.s.gauge.wf := fun r h => (xa0 r h).2.1
    have xaP3 : ∀ r ∈ xa.filter mayB, HistOk r.s := fun r h => (xa0 r h).2.2
    have xaPL : (xa.filter mayB).length ≤ 1048576 := by have := List.length_filter_le mayB xa; omega
    clear xa0
    have xbS : ∀ r ∈ xb, r.small := fun r h => hs r (by rw [hxb] at h; exact List.mem_of_mem_drop h)
    have xb0 := mayB_ok hrb
    have xbP1 : ∀ r ∈ xb.filter mayB, pCheck r.s = true := fun r h => (xb0 r h).1
    have xbP2 : ∀ r ∈ xb.filter mayB, r.s.gauge.wf := fun r h => (xb0 r h).2.1
    have xbP3 : ∀ r ∈ xb.filter mayB, HistOk r.s := fun r h => (xb0 r h).2.2
    have xbPL : (xb.filter mayB).length ≤ 1048576 := by have := List.length_filter_le mayB xb; omega
    clear xb0
    have xsS : ∀ r ∈ xs, r.small := fun r h => hs r (h)
    have xs0 := mayB_ok hr
    have xsP1 : ∀ r ∈ xs.filter mayB, pCheck r.s = true := fun r h => (xs0 r h).1
    have xsP2 : ∀ r ∈ xs.filter mayB, r.s.gauge.wf := fun r h => (xs0 r h).2.1
    have xsP3 : ∀ r ∈ xs.filter mayB, HistOk r.s := fun r h => (xs0 r h).2.2
    have xsPL : (xs.filter mayB).length ≤ 1048576 := by have := List.length_filter_le mayB xs; omega
    clear xs0
    have HXA := Lib.hid hxa
    have HXB := Lib.hid hxb
    clear hxa hxb
    subst hka
    have hk1 : (0 : Int) ≤ (xa.length : Int) := by omega
    have hk2 : (xa.length : Int) ≤ (cap : Int) := by omega
    have hk3 : (xa.length : Int) ≤ (xs.length : Int) := by omega
    have xa0 := (hB).c 0 rfl
    have xa1 := (hB).c 1 rfl
    have xa2 := (hB).c 2 rfl
    have xa3 := (hB).c 3 rfl
    have xa4 := (hB).c 4 rfl
    have xa5 := (hB).c 5 rfl
    have xa6 := (hB).c 6 rfl
    have xa7 := (hB).c 7 rfl
    have xa8 := (hB).c 8 rfl
    have xa9 := (hB).c 9 rfl
    have xa10 := (hB).c 10 rfl
    go_region_held3 (fun w' => w'.cell? ⟨w.heap.size, 0, none⟩ = some (.int .i64 0) ∧ w'.cell? ⟨w.heap.size, 1, none⟩ = some (.string ⟨#[]⟩) ∧ w'.cell? ⟨w.heap.size, 2, none⟩ = some (.string ⟨#[]⟩) ∧ w'.cell? ⟨w.heap.size, 3, none⟩ = some (.slice none 0 0) ∧ w'.cell? ⟨w.heap.size, 4, none⟩ = some (.slice none 0 0) ∧ w'.cell? ⟨w.heap.size, 5, none⟩ = some (.int .i64 0) ∧ w'.cell? ⟨w.heap.size, 6, none⟩ = some (.int .i64 st) ∧ w'.cell? ⟨w.heap.size, 7, none⟩ = some (.int .i64 1) ∧ w'.cell? ⟨w.heap.size, 8, none⟩ = some (.int .i64 1) ∧ w'.cell? ⟨w.heap.size, 9, none⟩ = some (.int .u64 0) ∧ w'.cell? ⟨w.heap.size, 10, none⟩ = some (.int .u64 0))
      ((first | exact ⟨xa0, xa1, xa2, xa3, xa4, xa5, xa6, xa7, xa8, xa9, xa10⟩ | exact ⟨xv0, xv1, xv2, xv3, xv4, xv5, xv6, xv7, xv8, xv9, xv10⟩ | exact ⟨xq0, xq1, xq2, xq3, xq4, xq5, xq6, xq7, xq8, xq9, xq10⟩ | exact ⟨xz0, xz1, xz2, xz3, xz4, xz5, xz6, xz7, xz8, xz9, xz10⟩))
      (first
        | (go_at_call 22; refine (C_v_Rows A cap xa _ (Sl.up hra (hbW.drew)) (by omega) xaS).mono ?_; rintro e xwa ⟨v, rfl, xo1, xb1⟩; obtain ⟨xA1, xc1, rfl, xs1⟩ := xo1.sl xb1.size; have xv0 := bcell xb1 (cdrew xa0); have xv1 := bcell xb1 (cdrew xa1); have xv2 := bcell xb1 (cdrew xa2); have xv3 := bcell xb1 (cdrew xa3); have xv4 := bcell xb1 (cdrew xa4); have xv5 := bcell xb1 (cdrew xa5); have xv6 := bcell xb1 (cdrew xa6); have xv7 := bcell xb1 (cdrew xa7); have xv8 := bcell xb1 (cdrew xa8); have xv9 := bcell xb1 (cdrew xa9); have xv10 := bcell xb1 (cdrew xa10))
        | (go_at_call 23; refine (C_Answers xA1 xc1 xa st _ xs1 (by omega) xaS).mono ?_; rintro e xwb ⟨xba, xbi, xB, xc, rfl, xask, xin, xbi', xsl, xb2⟩; have xq0 := bcell xb2 xv0; have xq1 := bcell xb2 xv1; have xq2 := bcell xb2 xv2; have xq3 := bcell xb2 xv3; have xq4 := bcell xb2 xv4; have xq5 := bcell xb2 xv5; have xq6 := bcell xb2 xv6; have xq7 := bcell xb2 xv7; have xq8 := bcell xb2 xv8; have xq9 := bcell xb2 xv9; have xq10 := bcell xb2 xv10)
        | (go_at_call 26; refine (C_told xba xbi xB xc (xa.filter mayB) st 2 _ s1 s2 (by omega) (by omega) xask xin xbi' xsl xaPL xaP1 xaP2 xaP3).mono ?_; rintro e xwc ⟨xg, xo, xc2, rfl, xans, xg', xb3⟩; have xz0 := bcell xb3 xq0; have xz1 := bcell xb3 xq1; have xz2 := bcell xb3 xq2; have xz3 := bcell xb3 xq3; have xz4 := bcell xb3 xq4; have xz5 := bcell xb3 xq5; have xz6 := bcell xb3 xq6; have xz7 := bcell xb3 xq7; have xz8 := bcell xb3 xq8; have xz9 := bcell xb3 xq9; have xz10 := bcell xb3 xq10))
    have xt1 := (hbW.drew).trans (xb1.mono (show w.heap.size ≤ W.drew.heap.size from hbW.size))
    have xt2 := xt1.trans (xb2.mono xt1.size)
    have xt3 := xt2.trans (xb3.mono xt2.size)
    have xB3 := ((((hB).drew).below xb1).below xb2).below xb3
    have xT : Below W.heap.size W xwc := ((((Below.refl _ W).drew).trans (xb1.mono (Nat.le_refl _))).trans (xb2.mono (show W.heap.size ≤ _ from xb1.size))).trans (xb3.mono (Nat.le_trans (show W.heap.size ≤ _ from xb1.size) xb2.size))
    clear xa0 xa1 xa2 xa3 xa4 xa5 xa6 xa7 xa8 xa9 xa10 xv0 xv1 xv2 xv3 xv4 xv5 xv6 xv7 xv8 xv9 xv10 xq0 xq1 xq2 xq3 xq4 xq5 xq6 xq7 xq8 xq9 xq10 xz0 xz1 xz2 xz3 xz4 xz5 xz6 xz7 xz8 xz9 xz10 xo1 xs1 xask xin xsl xb1 xb2 xb3 xt1 xt2
    go_wp2_with fail
    have ya0 := (xB3).c 0 rfl
    have ya1 := (xB3).c 1 rfl
    have ya2 := (xB3).c 2 rfl
    have ya3 := (xB3).c 3 rfl
    have ya4 := (xB3).c 4 rfl
    have ya5 := (xB3).c 5 rfl
    have ya6 := (xB3).c 6 rfl
    have ya7 := (xB3).c 7 rfl
    have ya8 := (xB3).c 8 rfl
    have ya9 := (xB3).c 9 rfl
    have ya10 := (xB3).c 10 rfl
    go_region_held3 (fun w' => w'.cell? ⟨w.heap.size, 0, none⟩ = some (.int .i64 0) ∧ w'.cell? ⟨w.heap.size, 1, none⟩ = some (.string ⟨#[]⟩) ∧ w'.cell? ⟨w.heap.size, 2, none⟩ = some (.string ⟨#[]⟩) ∧ w'.cell? ⟨w.heap.size, 3, none⟩ = some (.slice none 0 0) ∧ w'.cell? ⟨w.heap.size, 4, none⟩ = some (.slice none 0 0) ∧ w'.cell? ⟨w.heap.size, 5, none⟩ = some (.int .i64 0) ∧ w'.cell? ⟨w.heap.size, 6, none⟩ = some (.int .i64 st) ∧ w'.cell? ⟨w.heap.size, 7, none⟩ = some (.int .i64 1) ∧ w'.cell? ⟨w.heap.size, 8, none⟩ = some (.int .i64 1) ∧ w'.cell? ⟨w.heap.size, 9, none⟩ = some (.int .u64 0) ∧ w'.cell? ⟨w.heap.size, 10, none⟩ = some (.int .u64 0))
      ((first | exact ⟨ya0, ya1, ya2, ya3, ya4, ya5, ya6, ya7, ya8, ya9, ya10⟩ | exact ⟨yv0, yv1, yv2, yv3, yv4, yv5, yv6, yv7, yv8, yv9, yv10⟩ | exact ⟨yq0, yq1, yq2, yq3, yq4, yq5, yq6, yq7, yq8, yq9, yq10⟩ | exact ⟨yz0, yz1, yz2, yz3, yz4, yz5, yz6, yz7, yz8, yz9, yz10⟩))
      (first
        | (go_at_call 22; refine (C_v_Rows A6 c6 xb _ (Sl.up hrb (xt3.drew)) (by omega) xbS).mono ?_; rintro e ywa ⟨v, rfl, yo1, yb1⟩; obtain ⟨yA1, yc1, rfl, ys1⟩ := yo1.sl yb1.size; have yv0 := bcell yb1 (cdrew ya0); have yv1 := bcell yb1 (cdrew ya1); have yv2 := bcell yb1 (cdrew ya2); have yv3 := bcell yb1 (cdrew ya3); have yv4 := bcell yb1 (cdrew ya4); have yv5 := bcell yb1 (cdrew ya5); have yv6 := bcell yb1 (cdrew ya6); have yv7 := bcell yb1 (cdrew ya7); have yv8 := bcell yb1 (cdrew ya8); have yv9 := bcell yb1 (cdrew ya9); have yv10 := bcell yb1 (cdrew ya10))
        | (go_at_call 23; refine (C_Answers yA1 yc1 xb st _ ys1 (by omega) xbS).mono ?_; rintro e ywb ⟨yba, ybi, yB, yc, rfl, yask, yin, ybi', ysl, yb2⟩; have yq0 := bcell yb2 yv0; have yq1 := bcell yb2 yv1; have yq2 := bcell yb2 yv2; have yq3 := bcell yb2 yv3; have yq4 := bcell yb2 yv4; have yq5 := bcell yb2 yv5; have yq6 := bcell yb2 yv6; have yq7 := bcell yb2 yv7; have yq8 := bcell yb2 yv8; have yq9 := bcell yb2 yv9; have yq10 := bcell yb2 yv10)
        | (go_at_call 26; refine (C_told yba ybi yB yc (xb.filter mayB) st 2 _ s1 s2 (by omega) (by omega) yask yin ybi' ysl xbPL xbP1 xbP2 xbP3).mono ?_; rintro e ywc ⟨yg, yo, yc2, rfl, yans, yg', yb3⟩; have yz0 := bcell yb3 yq0; have yz1 := bcell yb3 yq1; have yz2 := bcell yb3 yq2; have yz3 := bcell yb3 yq3; have yz4 := bcell yb3 yq4; have yz5 := bcell yb3 yq5; have yz6 := bcell yb3 yq6; have yz7 := bcell yb3 yq7; have yz8 := bcell yb3 yq8; have yz9 := bcell yb3 yq9; have yz10 := bcell yb3 yq10))
    have yt1 := (xt3.drew).trans (yb1.mono (show w.heap.size ≤ xwc.drew.heap.size from xt3.size))
    have yt2 := yt1.trans (yb2.mono yt1.size)
    have yt3 := yt2.trans (yb3.mono yt2.size)
    have yB3 := ((((xB3).drew).below yb1).below yb2).below yb3
    have yT : Below xwc.heap.size xwc ywc := ((((Below.refl _ xwc).drew).trans (yb1.mono (Nat.le_refl _))).trans (yb2.mono (show xwc.heap.size ≤ _ from yb1.size))).trans (yb3.mono (Nat.le_trans (show xwc.heap.size ≤ _ from yb1.size) yb2.size))
    clear ya0 ya1 ya2 ya3 ya4 ya5 ya6 ya7 ya8 ya9 ya10 yv0 yv1 yv2 yv3 yv4 yv5 yv6 yv7 yv8 yv9 yv10 yq0 yq1 yq2 yq3 yq4 yq5 yq6 yq7 yq8 yq9 yq10 yz0 yz1 yz2 yz3 yz4 yz5 yz6 yz7 yz8 yz9 yz10 yo1 ys1 yask yin ysl yb1 yb2 yb3 yt1 yt2
    go_wp2_with fail
    have za0 := (yB3).c 0 rfl
    have za1 := (yB3).c 1 rfl
    have za2 := (yB3).c 2 rfl
    have za3 := (yB3).c 3 rfl
    have za4 := (yB3).c 4 rfl
    have za5 := (yB3).c 5 rfl
    have za6 := (yB3).c 6 rfl
    have za7 := (yB3).c 7 rfl
    have za8 := (yB3).c 8 rfl
    have za9 := (yB3).c 9 rfl
    have za10 := (yB3).c 10 rfl
    go_region_held3 (fun w' => w'.cell? ⟨w.heap.size, 0, none⟩ = some (.int .i64 0) ∧ w'.cell? ⟨w.heap.size, 1, none⟩ = some (.string ⟨#[]⟩) ∧ w'.cell? ⟨w.heap.size, 2, none⟩ = some (.string ⟨#[]⟩) ∧ w'.cell? ⟨w.heap.size, 3, none⟩ = some (.slice none 0 0) ∧ w'.cell? ⟨w.heap.size, 4, none⟩ = some (.slice none 0 0) ∧ w'.cell? ⟨w.heap.size, 5, none⟩ = some (.int .i64 0) ∧ w'.cell? ⟨w.heap.size, 6, none⟩ = some (.int .i64 st) ∧ w'.cell? ⟨w.heap.size, 7, none⟩ = some (.int .i64 1) ∧ w'.cell? ⟨w.heap.size, 8, none⟩ = some (.int .i64 1) ∧ w'.cell? ⟨w.heap.size, 9, none⟩ = some (.int .u64 0) ∧ w'.cell? ⟨w.heap.size, 10, none⟩ = some (.int .u64 0))
      ((first | exact ⟨za0, za1, za2, za3, za4, za5, za6, za7, za8, za9, za10⟩ | exact ⟨zv0, zv1, zv2, zv3, zv4, zv5, zv6, zv7, zv8, zv9, zv10⟩ | exact ⟨zq0, zq1, zq2, zq3, zq4, zq5, zq6, zq7, zq8, zq9, zq10⟩ | exact ⟨zz0, zz1, zz2, zz3, zz4, zz5, zz6, zz7, zz8, zz9, zz10⟩))
      (first
        | (go_at_call 22; refine (C_v_Rows A cap xs _ (Sl.up hr (yt3.drew)) (by omega) xsS).mono ?_; rintro e zwa ⟨v, rfl, zo1, zb1⟩; obtain ⟨zA1, zc1, rfl, zs1⟩ := zo1.sl zb1.size; have zv0 := bcell zb1 (cdrew za0); have zv1 := bcell zb1 (cdrew za1); have zv2 := bcell zb1 (cdrew za2); have zv3 := bcell zb1 (cdrew za3); have zv4 := bcell zb1 (cdrew za4); have zv5 := bcell zb1 (cdrew za5); have zv6 := bcell zb1 (cdrew za6); have zv7 := bcell zb1 (cdrew za7); have zv8 := bcell zb1 (cdrew za8); have zv9 := bcell zb1 (cdrew za9); have zv10 := bcell zb1 (cdrew za10))
        | (go_at_call 23; refine (C_Answers zA1 zc1 xs st _ zs1 (by omega) xsS).mono ?_; rintro e zwb ⟨zba, zbi, zB, zc, rfl, zask, zin, zbi', zsl, zb2⟩; have zq0 := bcell zb2 zv0; have zq1 := bcell zb2 zv1; have zq2 := bcell zb2 zv2; have zq3 := bcell zb2 zv3; have zq4 := bcell zb2 zv4; have zq5 := bcell zb2 zv5; have zq6 := bcell zb2 zv6; have zq7 := bcell zb2 zv7; have zq8 := bcell zb2 zv8; have zq9 := bcell zb2 zv9; have zq10 := bcell zb2 zv10)
        | (go_at_call 26; refine (C_told zba zbi zB zc (xs.filter mayB) st 2 _ s1 s2 (by omega) (by omega) zask zin zbi' zsl xsPL xsP1 xsP2 xsP3).mono ?_; rintro e zwc ⟨zg, zo, zc2, rfl, zans, zg', zb3⟩; have zz0 := bcell zb3 zq0; have zz1 := bcell zb3 zq1; have zz2 := bcell zb3 zq2; have zz3 := bcell zb3 zq3; have zz4 := bcell zb3 zq4; have zz5 := bcell zb3 zq5; have zz6 := bcell zb3 zq6; have zz7 := bcell zb3 zq7; have zz8 := bcell zb3 zq8; have zz9 := bcell zb3 zq9; have zz10 := bcell zb3 zq10))
    have zt1 := (yt3.drew).trans (zb1.mono (show w.heap.size ≤ ywc.drew.heap.size from yt3.size))
    have zt2 := zt1.trans (zb2.mono zt1.size)
    have zt3 := zt2.trans (zb3.mono zt2.size)
    have zB3 := ((((yB3).drew).below zb1).below zb2).below zb3
    have zT : Below ywc.heap.size ywc zwc := ((((Below.refl _ ywc).drew).trans (zb1.mono (Nat.le_refl _))).trans (zb2.mono (show ywc.heap.size ≤ _ from zb1.size))).trans (zb3.mono (Nat.le_trans (show ywc.heap.size ≤ _ from zb1.size) zb2.size))
    clear za0 za1 za2 za3 za4 za5 za6 za7 za8 za9 za10 zv0 zv1 zv2 zv3 zv4 zv5 zv6 zv7 zv8 zv9 zv10 zq0 zq1 zq2 zq3 zq4 zq5 zq6 zq7 zq8 zq9 zq10 zz0 zz1 zz2 zz3 zz4 zz5 zz6 zz7 zz8 zz9 zz10 zo1 zs1 zask zin zsl zb1 zb2 zb3 zt1 zt2
    go_wp2_with fail
    have hxs : xs = xa ++ xb := by rw [HXA.out, HXB.out]; simp
    have hT : tot (winS 0 st (xs.filter mayB)) = tot (winS 0 st (xa.filter mayB)) + tot (winS 0 st (xb.filter mayB)) := by
      rw [hxs]; simp only [List.filter_append, winS, List.map_append, tot_append]
    have ok : ∀ l : List Row, (∀ r ∈ l, HistOk r.s) → cntS (winS 0 st l) = cap64 (tot (winS 0 st l)) ∧ 0 ≤ tot (winS 0 st l) := fun l h => by
      have h' : ∀ s ∈ winS 0 st l, HistOk s := fun s hs => by
        obtain ⟨r, hr', rfl⟩ := List.mem_map.1 hs
        exact h r (List.mem_filter.1 hr').1
      exact ⟨cntS_eq h', tot_nonneg h'⟩
    obtain ⟨e1, t1⟩ := ok _ xaP3
    obtain ⟨e2, t2⟩ := ok _ xbP3
    obtain ⟨e3, _⟩ := ok _ xsP3
    rw [e1] at xans
    rw [e2] at yans
    rw [e3, hT] at zans
    have xn := (xans.below yT).below zT
    have yn := yans.below zT
    have xlt := xn.lt
    generalize tot (winS 0 st (xa.filter mayB)) = Tx at *
    generalize tot (winS 0 st (xb.filter mayB)) = Ty at *
    clear e1 e2 e3 ok hT hxs HXA HXB xans yans xaP1 xaP2 xaP3 xaPL xaS xbP1 xbP2 xbP3 xbPL xbS xsP1 xsP2 xsP3 xsPL xsS hr hra hrb hrun1 hrun2 hs hB xB3 yB3 zB3 xt3 yt3 yT zT xT
    rcases parts_cases t1 t2 with ⟨q1, q3⟩ | ⟨q1, q2, q3⟩ | ⟨q1, q2, q3, g1, g2, g3, g4, g5⟩ | ⟨q1, q2, q3, g1, g2, g3, g4, g5⟩
    · rw [q1] at xn
      rw [q3] at zans
      obtain ⟨-, x1, x2, x3⟩ := xn
      obtain ⟨-, z1, z2, z3⟩ := zans
      go_quiet (fail)
      go_wp2_with fail
      have hF : Below zwc.heap.size zwc (zwc.drewN nq) := ⟨rfl, rfl, rfl, Nat.le_refl _, fun _ _ => rfl⟩
      have hfin := zt3.trans (hF.mono zt3.size)
      refine (C_awake _).mono ?_
      rintro e w9 ⟨rfl, hb9⟩
      go_wp2
      go_ret
      exact ⟨rfl, hfin.trans (hb9.mono hfin.size)⟩
    · rw [q1] at xn
      rw [q2] at yn
      rw [q3] at zans
      obtain ⟨-, x1, x2, x3⟩ := xn
      obtain ⟨-, y1, y2, y3⟩ := yn
      obtain ⟨-, z1, z2, z3⟩ := zans
      go_quiet (fail)
      go_wp2_with fail
      have hF : Below zwc.heap.size zwc (zwc.drewN nq) := ⟨rfl, rfl, rfl, Nat.le_refl _, fun _ _ => rfl⟩
      have hfin := zt3.trans (hF.mono zt3.size)
      refine (C_awake _).mono ?_
      rintro e w9 ⟨rfl, hb9⟩
      go_wp2
      go_ret
      exact ⟨rfl, hfin.trans (hb9.mono hfin.size)⟩
    · rw [q1] at xn
      rw [q2] at yn
      rw [q3] at zans
      obtain ⟨-, x1, x2, x3⟩ := xn
      obtain ⟨-, y1, y2, y3⟩ := yn
      obtain ⟨-, z1, z2, z3⟩ := zans
      go_quiet (fail)
      go_wp2_with fail
      have hF : Below zwc.heap.size zwc (zwc.drewN nq) := ⟨rfl, rfl, rfl, Nat.le_refl _, fun _ _ => rfl⟩
      have hfin := zt3.trans (hF.mono zt3.size)
      refine (C_awake _).mono ?_
      rintro e w9 ⟨rfl, hb9⟩
      go_wp2
      go_ret
      exact ⟨rfl, hfin.trans (hb9.mono hfin.size)⟩
    · rw [q1] at xn
      rw [q2] at yn
      rw [q3] at zans
      obtain ⟨-, x1, x2, x3⟩ := xn
      obtain ⟨-, y1, y2, y3⟩ := yn
      obtain ⟨-, z1, z2, z3⟩ := zans
      go_quiet (fail)
      go_wp2_with fail
      have hF : Below zwc.heap.size zwc (zwc.drewN nq) := ⟨rfl, rfl, rfl, Nat.le_refl _, fun _ _ => rfl⟩
      have hfin := zt3.trans (hF.mono zt3.size)
      have x1' := bcell hF x1
      have x2' := bcell hF x2
      have y2' := bcell hF y2
      have z1' := bcell hF z1
      have z2' := bcell hF z2
      clear x1 x2 x3 y1 y2 y3 z1 z2 z3 hF
      generalize zwc.drewN nq = w8 at *
      go_region_held3 (fun w' => w'.cell? ⟨zg, zo + 1, none⟩ = some (.bool true) ∧ w'.cell? ⟨zg, zo + 2, none⟩ = some (.int .u64 (Tx + Ty)) ∧ w'.cell? ⟨xg, xo + 2, none⟩ = some (.int .u64 Tx) ∧ w'.cell? ⟨yg, yo + 2, none⟩ = some (.int .u64 Ty))
        ((first | exact ⟨z1', z2', x2', y2'⟩ | exact ⟨z1'', z2'', x2'', y2''⟩))
        (first | (go_at_call 13; refine (C_awake _).mono ?_; rintro e w9 ⟨rfl, hb9⟩; have z1'' := bcell hb9 (cdrew z1'); have z2'' := bcell hb9 (cdrew z2'); have x2'' := bcell hb9 (cdrew x2'); have y2'' := bcell hb9 (cdrew y2')))
      go_wp2
      go_ret
      exact ⟨rfl, (hfin.drew).trans (hb9.mono (show w.heap.size ≤ w8.drew.heap.size from hfin.size))⟩
end Go.Proofs.YtbefkiebdokbdaaGreat.V
end
