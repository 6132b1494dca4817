/- Part 21 of the proof: WinN, ToldN, AnsN. -/
import Derived.RangeFuncNested
import Derived.RangeFuncBound
import Derived.RangeFuncCalls
import Derived.RangeFuncLeaves
import Derived.Shelf.Abstract
import Derived.Shelf.RegionOpen
import Derived.WalkKit
import Derived.OwnWalkIn
import Derived.TacticsInMore
import Derived.LoopNIn
import Derived.LoopIn
import Derived.Sort.QuietTacIn
import Derived.Deep.RegionHeld3
import Derived.Test.YtbefkiebdokbdaaGreatB16
import Derived.Test.YtbefkiebdokbdaaGreatB18
import Derived.Test.YtbefkiebdokbdaaGreatB19
import Derived.Test.YtbefkiebdokbdaaGreatB20

section
/- cal.Windows$1 at m windows: its contract as an iterator. -/
namespace Go.Proofs.YtbefkiebdokbdaaGreat.V
open Go.RowKit Go.Shelf
attribute [local go_sem] Oper.semAt_some
set_option linter.unusedVariables false
set_option maxRecDepth 100000

/-- A window's start. -/
def wFrm (s st : Int) (k : Nat) : Int := s + (k : Int) * st
/-- What a round of cal.Windows$1 keeps: its own three variables. -/
def Kw (bs bt bn : Nat) (A B : World) : Prop := ∀ b, (b = bs ∨ b = bt ∨ b = bn) → ∀ vs t, Blk A b vs t → Blk B b vs t
theorem wFrm_bounds {s st : Int} {m k : Nat} (hs : 0 ≤ s) (h1 : 1 ≤ st) (h : s + (m : Int) * st ≤ 1099511627776) (hk : k < m) :
    0 ≤ (k : Int) * st ∧ (k : Int) * st + st = ((k + 1 : Nat) : Int) * st ∧ wFrm s st (k + 1) = wFrm s st k + st ∧ 0 ≤ wFrm s st k ∧ wFrm s st k + st ≤ 1099511627776 ∧ (k : Int) * st ≤ 1099511627776 := by
  have a : 0 ≤ (k : Int) * st := Int.mul_nonneg (by omega) (by omega)
  have b : ((k + 1 : Nat) : Int) * st = (k : Int) * st + st := by rw [show ((k + 1 : Nat) : Int) = (k : Int) + 1 by omega, Int.add_mul, Int.one_mul]
  have c : ((k + 1 : Nat) : Int) * st ≤ (m : Int) * st := Int.mul_le_mul_of_nonneg_right (by omega) (by omega)
  unfold wFrm
  rw [b] at c ⊢
  omega

set_option maxHeartbeats 2000000 in
theorem WinN_stops (F : Fence) (n : Nat) (hf : F.fn 95) (hro : F.round = none) (hn : 1 ≤ n) (bs bt bn : Nat) (s st : Int) (m : Nat) (hs0 : 0 ≤ s) (h1 : 1 ≤ st) (hm1 : 1 ≤ m) (hmm : m ≤ 1048576) (hsm : s + (m : Int) * st ≤ 1099511627776) (w : World)
    (x0 : Blk w bs [.int .i64 s] 3) (x1 : Blk w bt [.int .i64 st] 3) (x2 : Blk w bn [.int .i64 m] 3) :
    SeqStopsK F n Tryz.prog 95 #[.pointer (some ⟨bt, 0, none⟩), .pointer (some ⟨bn, 0, none⟩), .pointer (some ⟨bs, 0, none⟩)] (fun (i : Fin m) => #[.int .i64 (wFrm s st i.1), .int .i64 (wFrm s st i.1 + st)]) (Kw bs bt bn) (fun xs => xs = List.finRange m) (fun _ => True) m w := fun l J Jx W hW hJ hJx hY h0 => by
  have z0 := x0.below hW
  have z1 := x1.below hW
  have z2 := x2.below hW
  have y0 := z0.c 0 rfl
  have y1 := z1.c 0 rfl
  have y2 := z2.c 0 rfl
  have hst : st ≤ 1099511627776 := by have := wFrm_bounds hs0 h1 hsm (show 0 < m by omega); omega
  have hms : st * (m : Int) ≤ 1099511627776 - s := by rw [Int.mul_comm]; omega
  have hq : (m : Int) ≤ Int.tdiv (1099511627776 - s) st := by
    rw [Int.tdiv_eq_ediv_of_nonneg (by have := Int.mul_nonneg (show (0:Int) ≤ st by omega) (show (0:Int) ≤ (m:Int) by omega); omega)]
    exact (Int.le_ediv_iff_mul_le (by omega)).2 (by rw [Int.mul_comm]; exact hms)
  have hs9 : 0 ≤ 1099511627776 - s := by have := Int.mul_nonneg (show (0:Int) ≤ st by omega) (show (0:Int) ≤ (m:Int) by omega); omega
  have hq2 : Int.tdiv (1099511627776 - s) st ≤ 1099511627776 := by
    rw [Int.tdiv_eq_ediv_of_nonneg hs9]
    exact Int.le_trans (Int.ediv_le_self _ hs9) (by omega)
  have hw : IntKind.i64.wrap (Int.tdiv (1099511627776 - s) st) = Int.tdiv (1099511627776 - s) st := IntWalk.i64_in _ (by omega)
  have hw0 : IntKind.i64.wrap (1099511627776 - s) = 1099511627776 - s := IntWalk.i64_in _ (by omega)
  have d1 : decide (st < 1) = false := by rw [decide_eq_false_iff_not]; omega
  have d2 : decide (Int.tdiv (1099511627776 - s) st < (m : Int)) = false := by rw [decide_eq_false_iff_not]; omega
  have d3 : decide ((m : Int) < 1) = false := by rw [decide_eq_false_iff_not]; omega
  have d4 : decide (s < 0) = false := by rw [decide_eq_false_iff_not]; omega
  have d5 : decide (1099511627776 < s) = false := by rw [decide_eq_false_iff_not]; omega
  have hz : (st == 0) = false := by simp; omega
  have hz1 : st ≠ 0 := by omega
  refine callsIn_of_wp Tryz.func95 rfl hf ?_ hro
  simp only [Tryz.ntmps95, List.size_toArray, List.length_cons, List.length_nil, Nat.reduceAdd, Nat.reduceSub, Array.replicate_succ, Array.replicate_zero, List.push_toArray, List.append_toArray, List.nil_append, List.cons_append]
  gi_wp2
  refine wpIn_region_quiet_lit hro (by kernel_rfl) (by kernel_rfl) ?_
  repeat (quiet_step_in (fail))
  refine wpQuietIn_nil ?_
  rintro _ ⟨nq, rfl⟩
  have hJW : J [] (W.drewN nq) := hJ [] W _ none h0 ⟨rfl, rfl, rfl, Nat.le_refl _, fun _ _ _ => rfl⟩ (fun r e => by cases e)
  try simp only [hw0, hw, d1, d2, d3, d4, d5]
  clear hw d1 d2 d3 d4 d5 hq hq2 hw0
  have v0 : Blk (W.drewN nq) bs [.int .i64 s] 3 := z0
  have v1 : Blk (W.drewN nq) bt [.int .i64 st] 3 := z1
  have v2 : Blk (W.drewN nq) bn [.int .i64 m] 3 := z2
  clear y0 y1 y2 z0 z1 z2 x0 x1 x2 h0
  generalize W.drewN nq = W0 at *
  have y2 := v2.c 0 rfl
  gi_wp2
  gi_loopw [30] (fun i wr => ∃ (k : Nat), k ≤ m ∧ i = .int .i64 k ∧ J ((List.finRange m).take k) wr ∧ Blk wr bs [.int .i64 s] 3 ∧ Blk wr bt [.int .i64 st] 3 ∧ Blk wr bn [.int .i64 m] 3) (fun i _ => m - (intOf i).toNat)
  case atStart => exact ⟨0, Nat.zero_le _, rfl, hJW, v0, v1, v2⟩
  case round =>
    clear v0 v1 v2 y2 hJW
    obtain ⟨k, hk, rfl, hJk, v0, v1, v2⟩ := hrel
    have y0 := v0.c 0 rfl
    have y1 := v1.c 0 rfl
    by_cases hlt : k < m
    · obtain ⟨b1, b2, b3, b4, b5, b6⟩ := wFrm_bounds hs0 h1 hsm hlt
      have q1 : IntKind.i64.wrap ((k : Int) * st) = (k : Int) * st := IntWalk.i64_in _ (by omega)
      have q2 : IntKind.i64.wrap (s + (k : Int) * st) = wFrm s st k := IntWalk.i64_in _ (by unfold wFrm at b4 b5; omega)
      have q3 : IntKind.i64.wrap (wFrm s st k + st) = wFrm s st k + st := IntWalk.i64_in _ (by omega)
      have htk : (List.finRange m).take (k + 1) = (List.finRange m).take k ++ [⟨k, hlt⟩] := by
        rw [List.take_succ_eq_append_getElem (by simpa using hlt)]; simp
      have hd : decide ((k : Int) < (m : Int)) = true := by rw [decide_eq_true_iff]; omega
      obtain ⟨f1, t1, a1, b1, hy1, hR1⟩ := hY ((List.finRange m).take k) ⟨k, hlt⟩ wr hJk (by simp; omega)
      try dsimp only at hy1
      gi_wp2
      refine hR1.mono ?_
      rintro e W1 (⟨rfl, hJ1, hkp⟩ | ⟨rfl, hx1⟩)
      · gi_wp2
        go_roundw
        case rel => exact ⟨k + 1, by omega, by go_num, by rw [htk]; exact hJ1, hkp _ (.inl rfl) _ _ v0, hkp _ (.inr (.inl rfl)) _ _ v1, hkp _ (.inr (.inr rfl)) _ _ v2⟩
        case measure => simp [intOf]; omega
      · gi_wp2
        refine bodyPost_ret (results_none rfl _ _ _) rfl ?_
        exact ⟨⟨_, rfl⟩, .inr ⟨_, trivial, hx1⟩⟩
    · have hkk : k = m := by omega
      subst hkk
      rw [List.take_of_length_le (by simp)] at hJk
      gi_wp2
      go_end0
      exact ⟨⟨_, rfl⟩, .inl ⟨_, rfl, hJk⟩⟩
end Go.Proofs.YtbefkiebdokbdaaGreat.V
end

section
/- varvelaw23.told$1: one more answer laid. -/
namespace Go.Proofs.YtbefkiebdokbdaaGreat.V
open Go.RowKit
set_option linter.unusedVariables false
set_option maxRecDepth 100000

section
variable {α : Type} [Rep α] {w w' : World} {base e : Nat} {v : Value} {xs : List α}
/-- A row of plain elements that is owned, after blocks other than its own were written. -/
theorem Own.frmF {S : Nat → Prop} (hflat : ∀ (ok ok' : Nat → Prop) (w w' : World) (vs : List Value) (x : α), Rep.rep ok w vs x → Rep.rep ok' w' vs x)
    (h : Own w base e v xs) (hf : Frm S w w') (hn : ∀ k, v.ownBlock = some k → ¬ S k) : Own w' base e v xs := by
  obtain ⟨cs, hr, h1, ho⟩ := h
  have hr' : Reps (fun k => k < w'.heap.size ∧ some k ≠ v.ownBlock) w' cs xs := by
    clear ho h1
    induction hr with
    | nil => exact .nil
    | cons h _ ih => exact .cons (hflat _ _ _ _ _ _ h) ih
  refine ⟨cs, hr', h1, ?_⟩
  rcases ho with ho | ⟨g, cap, cur, hv, hg, hh, hrest⟩
  · exact .inl ho
  · have hl := (Array.getElem?_eq_some_iff.1 hh).1
    exact .inr ⟨g, cap, cur, hv, hg, by rw [hf.block g hl (hn g (by rw [hv]; rfl))]; exact hh, hrest⟩
theorem Own.cells (h : Own w base e v xs) {k : Nat} (hk : v.ownBlock = some k) : ∃ o : Obj, w.heap[k]? = some o ∧ o.isCells = true := by
  obtain ⟨cs, hr, h1, ho⟩ := h
  rcases ho with ⟨rfl, ho⟩ | ⟨g, cap, cur, hv, hg, hh, hrest⟩
  · cases hk
  · rw [hv] at hk; cases hk
    exact ⟨_, hh, rfl⟩
theorem Own.turn {row : Option Nat} (hflat : ∀ (ok ok' : Nat → Prop) (w w' : World) (vs : List Value) (x : α), Rep.rep ok w vs x → Rep.rep ok' w' vs x)
    (h : Own w base e v xs) (hg : w.grownBy w' row) (hr : ∀ r, row = some r → ∃ o : Obj, w.heap[r]? = some o ∧ o.isCells = false) : Own w' base e v xs :=
  h.frmF hflat (Frm.of_grown' hg) (fun k hk e => by
    obtain ⟨o, ho, hc⟩ := hr k e
    obtain ⟨o', ho', hc'⟩ := h.cells hk
    rw [ho] at ho'; cases ho'; rw [hc] at hc'; cases hc')
end
theorem flat_Answer : ∀ (ok ok' : Nat → Prop) (w w' : World) (vs : List Value) (x : Answer), Rep.rep ok w vs x → Rep.rep ok' w' vs x := fun _ _ _ _ _ _ h => h

set_option maxHeartbeats 2000000 in
/-- The closure that told hands on: the list lies in block bl, its bound in block bm. -/
theorem C_told1N (bl bm : Nat) (a : Answer) (m : Int) (pre : List Answer) (v : Value) (base tl : Nat) (w : World) (ha : a.wf) (hl : Blk w bl [v] tl) (hown : Own w base 47 v pre) (hbase : base ≤ w.heap.size) (hlb : bl < base) (hmb : bm < base) (hm : w.cell? ⟨bm, 0, none⟩ = some (.int .i64 m)) (hne : bl ≠ bm) (h1 : (pre.length : Int) + 1 < m) (hp : pre.length ≤ 1048576) :
    Calls Tryz.prog 62 #[.agg (encAnswer a).toArray, .pointer (some ⟨bl, 0, none⟩), .pointer (some ⟨bm, 0, none⟩)] w fun e w' => e = .returned (.bool true) ∧
      ∃ v', Blk w' bl [v'] tl ∧ Own w' base 47 v' (pre ++ [a]) ∧ Frm (fun k => k = bl ∨ v.ownBlock = some k) w w' := by
  have hub : ∀ j, v.ownBlock = some j → base ≤ j ∧ j < w.heap.size := fun j hj => by obtain ⟨cs, _, ho'⟩ := hown; exact ho'.lt j hj
  obtain ⟨B0, k0, rfl, -⟩ := hown.form
  have x0 := hl.c 0 rfl
  have xf := hl.f 0
  have hbl : bl < w.heap.size := by omega
  have hbm : bm < w.heap.size := by omega
  have n1 : bl ≠ w.heap.size := by omega
  have n2 : bm ≠ w.heap.size := by omega
  have n3 : w.heap.size ≠ bl := by omega
  have n4 : w.heap.size ≠ bm := by omega
  obtain ⟨W, hW⟩ : ∃ W, W = w.alloc (.cells (encAnswer a).toArray 47) := ⟨_, rfl⟩
  have hbW : Below w.heap.size w W := hW ▸ (Below.refl _ _).alloc (Nat.le_refl _) _
  have hWz : W.heap.size = w.heap.size + 1 := by rw [hW]; simp
  have hownW := hown.below hbW
  unfold encAnswer at hW ⊢
  go_enter Tryz.func62, Tryz.ntmps62
  go_wp2_with (at_builtin; (rw [← hW]; refine wpOwn_append1 (encAnswer a) a rfl _ _ 58 47 47 32 base rfl rfl el_Answer rfl hownW (by rw [hWz]; rfl) ⟨rfl, ha⟩ (by omega) (by omega) (by omega) ?_))
  intro v' w1 ho1 hg1 hat
  rw [← hW] at hg1
  obtain ⟨B, c, rfl, -⟩ := ho1.form
  have hf1 : Frm (fun k => (Value.slice B0 pre.length k0).ownBlock = some k) w w1 := (Frm.of_below hbW).trans (Frm.of_grown' hg1)
  have hl1 := hl.frm hf1 (fun e => by have := hub _ e; omega)
  have y0 := hl1.c 0 rfl
  have yf := hl1.f 0
  have hm1 : w1.cell? ⟨bm, 0, none⟩ = some (.int .i64 m) := fcell hf1 (fun e => by have := hub _ e; omega) hm
  clear x0 xf hm hg1 hbW hW hl hown hownW
  have hlt1 := hl1.lt
  have hset := hl1.set 0 (.slice B (pre ++ [a]).length c)
  have hfin := (hf1.mono (S' := fun k => k = bl ∨ (Value.slice B0 pre.length k0).ownBlock = some k) (fun _ _ h => .inr h)).one (.inl rfl) 0 (.slice B (pre ++ [a]).length c)
  have hown2 := ho1.frmF flat_Answer ((Frm.refl (fun k => k = bl) w1).one rfl 0 (.slice B (pre ++ [a]).length c)) (fun k hk e => by
    obtain ⟨cs, _, ho'⟩ := ho1
    have := ho'.lt k hk
    omega)
  clear hf1 hl1 ho1
  have hd : decide (((pre ++ [a]).length : Int) < m) = true := by rw [decide_eq_true_iff]; simp; omega
  generalize (pre ++ [a]).length = len at *
  go_wp2
  go_ret
  exact ⟨rfl, _, hset, hown2, hfin⟩
end Go.Proofs.YtbefkiebdokbdaaGreat.V
end

section
/- query.Answers$1 at n windows, told by varvelaw23.told$1: whatever query.Window answers. -/
namespace Go.Proofs.YtbefkiebdokbdaaGreat.V
open Go.RowKit Go.Shelf
attribute [local go_sem] Oper.semAt_some
set_option linter.unusedVariables false
set_option maxRecDepth 100000

/-- The loop's invariant. -/
def AnsJ {m : Nat} (w : World) (bl bm : Nat) (f : Nat → Answer) (pre : List (Fin m)) (W : World) : Prop :=
  Frm (fun k => k = bl) w W ∧ w.heap.size + 4 ≤ W.heap.size ∧ Blk W w.heap.size [.func (.func 62) #[] #[.pointer (some ⟨bl, 0, none⟩), .pointer (some ⟨bm, 0, none⟩)]] 101 ∧ ∃ v, Blk W bl [v] 58 ∧ Own W (w.heap.size + 4) 47 v (pre.map (fun i => f i.1))
theorem finRange_map {α : Type} (n : Nat) (f : Nat → α) : (List.finRange n).map (fun i => f i.1) = (List.range n).map f := by
  apply List.ext_getElem <;> simp
theorem AnsJ.turn {m : Nat} {w A B : World} {row : Option Nat} {bl bm : Nat} {f : Nat → Answer} {pre : List (Fin m)} (h : AnsJ w bl bm f pre A) (hg : A.grownBy B row) (hr : ∀ r, row = some r → w.heap.size ≤ r ∧ ∃ o : Obj, A.heap[r]? = some o ∧ o.isCells = false) : AnsJ w bl bm f pre B := by
  obtain ⟨h1, h2, h3, v, h4, h5⟩ := h
  exact ⟨h1.turn hg (fun r e => (hr r e).1), Nat.le_trans h2 hg.size, h3.turn hg (fun r e => (hr r e).2), v, h4.turn hg (fun r e => (hr r e).2), h5.turn flat_Answer hg (fun r e => (hr r e).2)⟩

set_option maxHeartbeats 4000000 in
theorem C_AnswersN (bl bm ba bi : Nat) (A : Option Addr) (cap : Nat) (xs : List Row) (a0 a1 a2 a3 a4 a8 a9 a10 : Value) (s st m : Int) (n : Nat) (f : Nat → Answer) (w : World) (hs0 : 0 ≤ s) (h1 : 1 ≤ st) (hn1 : 1 ≤ n) (hnn : n ≤ 1048576) (hsm : s + (n : Int) * st ≤ 1099511627776) (hmn : (n : Int) < m)
    (hask : Blk w ba [a0, a1, a2, a3, a4, .int .i64 s, .int .i64 st, .int .i64 n, a8, a9, a10] 31) (hin : w.cell? ⟨bi, 0, none⟩ = some (.slice A xs.length cap)) (hbl : Blk w bl [.slice none 0 0] 58) (hbm : w.cell? ⟨bm, 0, none⟩ = some (.int .i64 m))
    (n1 : ba ≠ bl) (n2 : bi ≠ bl) (n3 : bm ≠ bl) (hr : Sl (fun k => k < w.heap.size ∧ k ≠ bl) w A xs) (hwf : ∀ i, i < n → (f i).wf)
    (hwin : ∀ i, i < n → ∀ W : World, Sl (fun k => k < W.heap.size) W A xs → Calls Tryz.prog 61 #[.agg ([a0, a1, a2, a3, a4, .int .i64 s, .int .i64 st, .int .i64 n, a8, a9, a10] : List Value).toArray, .slice A xs.length cap, .int .i64 (wFrm s st i), .int .i64 (wFrm s st i + st)] W fun e w' => e = .returned (.agg (encAnswer (f i)).toArray) ∧ Below W.heap.size W w') :
    Calls Tryz.prog 59 #[.func (.func 62) #[] #[.pointer (some ⟨bl, 0, none⟩), .pointer (some ⟨bm, 0, none⟩)], .pointer (some ⟨ba, 0, none⟩), .pointer (some ⟨bi, 0, none⟩)] w fun e w' =>
      (∃ v, e = .returned v) ∧ (∃ v, Blk w' bl [v] 58 ∧ Own w' (w.heap.size + 4) 47 v ((List.range n).map f)) ∧ Frm (fun k => k = bl) w w' ∧ w.heap.size + 4 ≤ w'.heap.size := by
  have hbmL : bm < w.heap.size := by
    by_cases h : bm < w.heap.size
    · exact h
    · have : w.heap[bm]? = none := by rw [Array.getElem?_eq_none_iff]; omega
      simp [World.cell?, this] at hbm
  have hbiL : bi < w.heap.size := by
    by_cases h : bi < w.heap.size
    · exact h
    · have : w.heap[bi]? = none := by rw [Array.getElem?_eq_none_iff]; omega
      simp [World.cell?, this] at hin
  have hblL := hbl.lt
  have htold : ∀ (an : Answer) (pre : List Answer) (v : Value) (W : World), an.wf → pre.length < n → Blk W bl [v] 58 → Own W (w.heap.size + 4) 47 v pre → w.heap.size + 4 ≤ W.heap.size → W.cell? ⟨bm, 0, none⟩ = some (.int .i64 m) → Calls Tryz.prog 62 #[.agg #[.int .i64 an.frm, .bool an.has, .int .u64 an.value, .int .i64 an.err], .pointer (some ⟨bl, 0, none⟩), .pointer (some ⟨bm, 0, none⟩)] W fun e w' => e = .returned (.bool true) ∧
      ∃ v', Blk w' bl [v'] 58 ∧ Own w' (w.heap.size + 4) 47 v' (pre ++ [an]) ∧ Frm (fun k => k = bl ∨ v.ownBlock = some k) W w' :=
    fun an pre v W q0 q1 q2 q3 q4 q5 => C_told1N bl bm an m pre v (w.heap.size + 4) 58 W q0 q2 q3 q4 (by omega) (by omega) q5 (fun e => n3 e.symm) (by omega) (by omega)
  have HWIN := Lib.hid hwin
  have HTOLD := Lib.hid htold
  clear hwin htold
  refine (callsIn_wide (n := 9)).1 ?_
  refine callsIn_of_wp_marks Tryz.func59 rfl trivial ?_ rfl
  simp only [Tryz.ntmps59, List.size_toArray, List.length_cons, List.length_nil, Nat.reduceAdd, Nat.reduceSub, Array.replicate_succ, Array.replicate_zero, List.push_toArray, List.append_toArray, List.nil_append, List.cons_append]
  have x5 := hask.c 5 rfl
  have x6 := hask.c 6 rfl
  have x7 := hask.c 7 rfl
  have hal := hask.lt
  have nea : ba ≠ w.heap.size := by omega
  have neb : w.heap.size ≠ ba := by omega
  gi_wp2
  refine wpIn_wide.2 (wp_scope_straight ((wpIn_wide (n := 9)).1 ?_))
  gi_wp2
  refine wpIn_label ?_
  gi_wp2_with (refine ⟨trivial, ?_⟩; gi_at_call 60; refine (callsIn_wide.2 (C_Windows s st n _)).mono ?_; rintro e w1 ⟨rfl, hw0, hw1, hw2, hb1, hz1⟩)
  have hsz : (w.alloc (.cells #[.func (.func 62) #[] #[.pointer (some ⟨bl, 0, none⟩), .pointer (some ⟨bm, 0, none⟩)]] 101)).heap.size = w.heap.size + 1 := by simp
  have hbox := (Blk.new w [.func (.func 62) #[] #[.pointer (some ⟨bl, 0, none⟩), .pointer (some ⟨bm, 0, none⟩)]] 101).below hb1
  have hF1 : Frm (fun k => k = bl) w w1 := ((Frm.refl _ w).alloc _).trans (.of_below hb1)
  rw [hsz] at hw0 hw1 hw2 hz1
  have hbl1 := hbl.below (((Below.refl _ w).alloc (Nat.le_refl _) (.cells #[.func (.func 62) #[] #[.pointer (some ⟨bl, 0, none⟩), .pointer (some ⟨bm, 0, none⟩)]] 101)).trans (hb1.mono (by omega)))
  refine wpIn_rangeFunc_ownF rfl (by omega) (gf := 95) (lb := #[.pointer (some ⟨w.heap.size + 1 + 1, 0, none⟩), .pointer (some ⟨w.heap.size + 1 + 2, 0, none⟩), .pointer (some ⟨w.heap.size + 1, 0, none⟩)]) rfl trivial (enters_of Tryz.func95 (by kernel_rfl) rfl)
    (WinN_stops Fence.wide (9 - 1) trivial rfl (by omega) (w.heap.size + 1) (w.heap.size + 1 + 1) (w.heap.size + 1 + 2) s st n hs0 h1 hn1 hnn hsm w1 hw0 hw1 hw2) (fun h k b hb vs t q => k b hb vs t (h b hb vs t q)) (fun W l o o' hl ho hc hw b hb vs t q => by
      unfold Blk at q ⊢; simp only [World.putObj]; rw [Array.getElem?_setIfInBounds_ne (by rintro rfl; rw [q] at ho; cases ho; cases hc)]; exact q) (Below.refl _ _) (fun _ => rfl)
    (AnsJ w bl bm f) (fun _ _ _ => False)
    (fun s A B row hs hg hr => hs.turn hg (fun r e => ⟨by have := (hr r e).1; omega, (hr r e).2⟩)) (fun _ _ _ _ _ hs _ _ => hs) ⟨hF1, by omega, hbox, _, hbl1, Own.nil _ _ _⟩
    (fun x => { tmps := #[.func (.func 62) #[] #[.pointer (some ⟨bl, 0, none⟩), .pointer (some ⟨bm, 0, none⟩)], .pointer (some ⟨ba, 0, none⟩), .pointer (some ⟨bi, 0, none⟩), .pointer (some ⟨w.heap.size, 0, none⟩), .int .i64 (wFrm s st x.1), .int .i64 (wFrm s st x.1 + st), .pointer (some ⟨ba, 5, none⟩), .int .i64 s, .pointer (some ⟨ba, 6, none⟩), .int .i64 st, .pointer (some ⟨ba, 7, none⟩), .int .i64 n,
      .func (.func 95) #[] #[.pointer (some ⟨w.heap.size + 1 + 1, 0, none⟩), .pointer (some ⟨w.heap.size + 1 + 2, 0, none⟩), .pointer (some ⟨w.heap.size + 1, 0, none⟩)], .int .i64 (wFrm s st x.1), .int .i64 (wFrm s st x.1 + st), undef, undef, undef, undef, undef, undef, undef, undef], defers := [] }) ?assign ?body ?done ?stop
  case assign =>
    intro l x W K hK
    gi_wp2
    exact hK
  case body =>
    rintro l pre x W ⟨hf, hW4, hy, v, hL, hO⟩ hlen
    obtain ⟨B0, k0, rfl, -⟩ := hO.form
    have hA := hask.frm hf n1
    have c0 := hA.c 0 rfl
    have c1 := hA.c 1 rfl
    have c2 := hA.c 2 rfl
    have c3 := hA.c 3 rfl
    have c4 := hA.c 4 rfl
    have c5 := hA.c 5 rfl
    have c6 := hA.c 6 rfl
    have c7 := hA.c 7 rfl
    have c8 := hA.c 8 rfl
    have c9 := hA.c 9 rfl
    have c10 := hA.c 10 rfl
    have hcI := fcell hf n2 hin
    have hcm := fcell hf n3 hbm
    have hy0 := hy.c 0 rfl
    have hrW : Sl (fun k => k < w.heap.size ∧ k ≠ bl) W A xs := hr.keep (hf.keeps (fun k _ h => h.2))
    have hrW2 : Sl (fun k => k < W.drew.heap.size) W.drew A xs := (hrW.keep (w' := W.drew) (Keeps.of_below ⟨rfl, rfl, rfl, Nat.le_refl _, fun _ _ => rfl⟩)).mono (fun k hk _ => hk)
    have hL2 : Blk W.drew bl [_] 58 := hL
    have hO2 := hO.drew
    have hY2 : Blk W.drew w.heap.size [.func (.func 62) #[] #[.pointer (some ⟨bl, 0, none⟩), .pointer (some ⟨bm, 0, none⟩)]] 101 := hy
    have hf2 : Frm (fun k => k = bl) w W.drew := hf.drew
    have hcm2 : W.drew.cell? ⟨bm, 0, none⟩ = some (.int .i64 m) := hcm
    clear hA
    have hw61 : Fence.wide.fn 61 := trivial
    have hw62 : Fence.wide.fn 62 := trivial
    have hmx : Tryz.prog.follows .mixedOrders = true := by kernel_rfl
    gi_wp2
    refine region_bridge (S := (fun w' : World => w'.cell? ⟨w.heap.size, 0, none⟩ = some (.func (.func 62) #[] #[.pointer (some ⟨bl, 0, none⟩), .pointer (some ⟨bm, 0, none⟩)]) ∧ w'.cell? ⟨ba, 0, none⟩ = some a0 ∧ w'.cell? ⟨ba, 1, none⟩ = some a1 ∧ w'.cell? ⟨ba, 2, none⟩ = some a2 ∧ w'.cell? ⟨ba, 3, none⟩ = some a3 ∧ w'.cell? ⟨ba, 4, none⟩ = some a4 ∧ w'.cell? ⟨ba, 5, none⟩ = some (.int .i64 s) ∧ w'.cell? ⟨ba, 6, none⟩ = some (.int .i64 st) ∧ w'.cell? ⟨ba, 7, none⟩ = some (.int .i64 n) ∧ w'.cell? ⟨ba, 8, none⟩ = some a8 ∧ w'.cell? ⟨ba, 9, none⟩ = some a9 ∧ w'.cell? ⟨ba, 10, none⟩ = some a10 ∧ w'.cell? ⟨bi, 0, none⟩ = some (.slice A xs.length cap))) hmx ?_ ?_ ⟨hy0, c0, c1, c2, c3, c4, c5, c6, c7, c8, c9, c10, hcI⟩ (fun hHeld => ?_)
    · intro j o c hj
      rcases j with _ | _ | _ | _ | _ | _ | _ | _ | j
      all_goals first | (cases hj; intro h; cases h) | (simp at hj)
    · rintro ⟨a', w', h⟩
      exact h
    refine wpAnyH_take (i := 0) (v := ?_) rfl (by kernel_rfl) (by kernel_rfl) (by kernel_rfl) (fun _ _ _ h => h) (Or.inl ⟨by rfl, ?_⟩) hHeld ?_
    rotate_left
    · intro w9 hSw
      try dsimp only at hSw
      go_simp
      try with_reducible rfl
    try simp only [Act.put, List.setIfInBounds_toArray, List.set_cons_zero, List.set_cons_succ]
    refine wpAnyH_take (i := 1) (v := ?_) rfl (by kernel_rfl) (by kernel_rfl) (by kernel_rfl) (fun _ _ _ h => h) (Or.inl ⟨by rfl, ?_⟩) hHeld ?_
    rotate_left
    · intro w9 hSw
      try dsimp only at hSw
      go_simp
      try with_reducible rfl
    try simp only [Act.put, List.setIfInBounds_toArray, List.set_cons_zero, List.set_cons_succ]
    refine wpAnyH_take (i := 2) (v := ?_) rfl (by kernel_rfl) (by kernel_rfl) (by kernel_rfl) (fun _ _ _ h => h) (Or.inl ⟨by rfl, ?_⟩) hHeld ?_
    rotate_left
    · intro w9 hSw
      try dsimp only at hSw
      go_simp
      try with_reducible rfl
    try simp only [Act.put, List.setIfInBounds_toArray, List.set_cons_zero, List.set_cons_succ]
    refine wpAnyH_take (i := 3) (v := ?_) rfl (by kernel_rfl) (by kernel_rfl) (by kernel_rfl) (fun _ _ _ h => h) (Or.inl ⟨by rfl, ?_⟩) hHeld ?_
    rotate_left
    · intro w9 hSw
      try dsimp only at hSw
      go_simp
      try with_reducible rfl
    try simp only [Act.put, List.setIfInBounds_toArray, List.set_cons_zero, List.set_cons_succ]
    refine wpAnyH_take (i := 4) (v := ?_) rfl (by kernel_rfl) (by kernel_rfl) (by kernel_rfl) (fun _ _ _ h => h) (Or.inl ⟨by rfl, ?_⟩) hHeld ?_
    rotate_left
    · intro w9 hSw
      try dsimp only at hSw
      go_simp
      try with_reducible rfl
    try simp only [Act.put, List.setIfInBounds_toArray, List.set_cons_zero, List.set_cons_succ]
    refine wpAnyH_ready (rs := [5]) (by kernel_rfl) (by simp) (AllReadyH.cons rfl (fun K hK => ?_) AllReadyH.nil)
    go_simp
    refine (HWIN.out x.1 x.2 _ hrW2).mono ?_
    rintro e w5 ⟨rfl, hb5⟩
    go_simp
    refine hK.out _ _ ⟨bcell hb5 hy0, bcell hb5 c0, bcell hb5 c1, bcell hb5 c2, bcell hb5 c3, bcell hb5 c4, bcell hb5 c5, bcell hb5 c6, bcell hb5 c7, bcell hb5 c8, bcell hb5 c9, bcell hb5 c10, bcell hb5 hcI⟩ (fun hHeld5 => ?_)
    clear hK K
    try simp only [Act.put, List.setIfInBounds_toArray, List.set_cons_zero, List.set_cons_succ]
    refine wpAnyH_ready (rs := [6]) (by kernel_rfl) (by simp) (AllReadyH.cons rfl (fun K hK => ?_) AllReadyH.nil)
    go_simp
    refine (HTOLD.out (f x.1) _ _ w5 (hwf x.1 x.2) (by simpa using hlen) (hL2.below hb5) (hO2.below hb5) (Nat.le_trans hW4 hb5.size) (bcell hb5 hcm2)).mono ?_
    rintro e w6 ⟨rfl, v', hL6, hO6, hf6⟩
    go_simp
    have hub : ∀ j, (Value.slice B0 (pre.map (fun i => f i.1)).length k0).ownBlock = some j → w.heap.size + 4 ≤ j := fun j hj => by obtain ⟨cs, _, ho'⟩ := hO; exact (ho'.lt j hj).1
    have hS : ∀ k, k < w.heap.size + 4 → k ≠ bl → ¬ (k = bl ∨ (Value.slice B0 (pre.map (fun i => f i.1)).length k0).ownBlock = some k) := fun k h1 h2 h => h.elim h2 (fun e => by have := hub k e; omega)
    have hbl6 := hS w.heap.size (by omega) (by omega)
    have m1 := hS ba (by omega) n1
    have m2 := hS bi (by omega) n2
    refine hK.out _ _ ⟨fcell hf6 hbl6 (bcell hb5 hy0), fcell hf6 m1 (bcell hb5 c0), fcell hf6 m1 (bcell hb5 c1), fcell hf6 m1 (bcell hb5 c2), fcell hf6 m1 (bcell hb5 c3), fcell hf6 m1 (bcell hb5 c4), fcell hf6 m1 (bcell hb5 c5), fcell hf6 m1 (bcell hb5 c6), fcell hf6 m1 (bcell hb5 c7), fcell hf6 m1 (bcell hb5 c8), fcell hf6 m1 (bcell hb5 c9), fcell hf6 m1 (bcell hb5 c10), fcell hf6 m2 (bcell hb5 hcI)⟩ (fun hHeld6 => ?_)
    clear hK K
    try simp only [Act.put, List.setIfInBounds_toArray, List.set_cons_zero, List.set_cons_succ]
    refine wpAnyH_take (i := 7) (v := ?_) rfl (by kernel_rfl) (by kernel_rfl) (by kernel_rfl) (fun _ _ _ h => h) (Or.inl ⟨by rfl, ?_⟩) hHeld6 ?_
    rotate_left
    · intro w9 hSw
      try dsimp only at hSw
      go_simp
      try with_reducible rfl
    try simp only [Act.put, List.setIfInBounds_toArray, List.set_cons_zero, List.set_cons_succ]
    refine wpAnyH_done (by kernel_rfl) ?_ _
    have hko : KeepsOthers W w6 := ⟨Nat.le_trans hb5.size hf6.size, fun k o hk ho => by
      have hkl : k < W.heap.size := (Array.getElem?_eq_some_iff.1 hk).1
      have h5 := hb5.block k hkl
      rw [hf6.block k (Nat.lt_of_lt_of_le hkl hb5.size) (fun e => by
        rcases e with e | e
        · subst e
          unfold Blk at hL
          rw [hL] at hk; cases hk; cases ho
        · obtain ⟨o', ho', hc'⟩ := hO.cells e
          rw [hk] at ho'; cases ho'; rw [ho] at hc'; cases hc'), h5]
      exact hk⟩
    have hkw : Kw (w.heap.size + 1) (w.heap.size + 1 + 1) (w.heap.size + 1 + 2) W w6 := fun b hb vs t q => by
      have q5 : Blk w5 b vs t := (Blk.drew q).below hb5
      exact q5.frm hf6 (hS b (by omega) (by omega))
    have hfin : AnsJ w bl bm f (pre ++ [x]) w6 := ⟨(((hf2.mono (fun k _ h => .inl h)).trans (.of_below hb5)).trans hf6).mono (fun k hk e => e.resolve_right (fun e => by have := hub k e; omega)), by have := hb5.size; have := hf6.size; have : W.heap.size = W.drew.heap.size := rfl; omega, (hY2.below hb5).frm hf6 hbl6, v', hL6, by simpa using hO6⟩
    gi_wp2
    exact ⟨hko, hkw, hfin⟩
  case done =>
    rintro D ys W hD rfl hI hK
    gi_wp2
    refine ⟨by simp, .inl ⟨_, _, rfl, run_takeDeferred hK, ?_⟩⟩
    have hI2 := hI.turn (grownBy_putObj' W D (.deferred none)) (fun r e => by cases e; exact ⟨by omega, _, hK, rfl⟩)
    obtain ⟨j1, j2, j3, v, j4, j5⟩ := hI2
    exact ⟨_, results_none rfl _ _ _, ⟨_, rfl⟩, ⟨v, j4, by rw [finRange_map] at j5; exact j5⟩, j1, j2⟩
  case stop =>
    rintro D c pre W _ _ h _
    exact h.elim
end Go.Proofs.YtbefkiebdokbdaaGreat.V
end
