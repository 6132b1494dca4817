/- Part 28 of the proof: Cnt. -/
import Derived.Test.YtbefkiebdokbdaaGreatB22
import Derived.Test.YtbefkiebdokbdaaGreatB23
import Derived.Test.YtbefkiebdokbdaaGreatB24
import Derived.Test.YtbefkiebdokbdaaGreatB27

section
/- What varvelaw23.told tells of a question on counts. -/
namespace Go.Proofs.YtbefkiebdokbdaaGreat.V
open Go.RowKit
set_option linter.unusedVariables false
set_option maxRecDepth 100000

/-- A window's total. -/
def winT (xs : List Row) (s st : Int) (i : Nat) : Int := tot (winS (wFrm s st i) (wFrm s st i + st) xs)
/-- A window's answer on a count. -/
def fCnt (xs : List Row) (s st : Int) (i : Nat) : Answer := { cntA (cap64 (winT xs s st i)) with frm := wFrm s st i }
/-- Rows that may be. -/
def RowsOk (xs : List Row) : Prop := ∀ r ∈ xs, pCheck r.s = true ∧ r.s.gauge.wf ∧ HistOk r.s
theorem RowsOk.win {xs : List Row} (h : RowsOk xs) (frm tx : Int) : ∀ s ∈ winS frm tx xs, HistOk s ∧ s.gauge.wf ∧ pCheck s = true := fun s hs => by
  obtain ⟨r, hr, rfl⟩ := List.mem_map.1 hs
  obtain ⟨h1, h2, h3⟩ := h r (List.mem_filter.1 hr).1
  exact ⟨h3, h2, h1⟩
theorem RowsOk.tot {xs : List Row} (h : RowsOk xs) (frm tx : Int) : 0 ≤ tot (winS frm tx xs) ∧ cntS (winS frm tx xs) = cap64 (tot (winS frm tx xs)) :=
  ⟨tot_nonneg fun s hs => (h.win frm tx s hs).1, cntS_eq fun s hs => (h.win frm tx s hs).1⟩
theorem tot_split (xs : List Row) {a b c : Int} (h1 : a ≤ b) (h2 : b ≤ c) : tot (winS a c xs) = tot (winS a b xs) + tot (winS b c xs) := by
  induction xs with
  | nil => rfl
  | cons r xs ih =>
    have one : ∀ (x y : Int), tot (winS x y (r :: xs)) = (if inW x y r = true then (r.s.hist.map (·.n)).sum else 0) + tot (winS x y xs) := fun x y => by
      unfold winS
      rw [List.filter_cons]
      split
      · rw [List.map_cons]; unfold tot; rw [List.map_cons, List.sum_cons]
      · omega
    rw [one, one, one, ih]
    have d : ∀ x y : Int, (inW x y r = true) ↔ (x ≤ r.at_ ∧ r.at_ < y) := fun x y => by unfold inW; simp
    by_cases p : r.at_ < b
    · rw [if_neg (show ¬ inW b c r = true by rw [d]; omega)]
      by_cases q : a ≤ r.at_
      · rw [if_pos ((d a c).2 (by omega)), if_pos ((d a b).2 (by omega))]; omega
      · rw [if_neg (show ¬ inW a c r = true by rw [d]; omega), if_neg (show ¬ inW a b r = true by rw [d]; omega)]; omega
    · rw [if_neg (show ¬ inW a b r = true by rw [d]; omega)]
      by_cases q : r.at_ < c
      · rw [if_pos ((d a c).2 (by omega)), if_pos ((d b c).2 (by omega))]; omega
      · rw [if_neg (show ¬ inW a c r = true by rw [d]; omega), if_neg (show ¬ inW b c r = true by rw [d]; omega)]; omega
/-- The totals of the first k windows together. -/
def winSum (xs : List Row) (s st : Int) (k : Nat) : Int := tot (winS s (wFrm s st k) xs)
theorem winSum_zero (xs : List Row) (s st : Int) : winSum xs s st 0 = 0 := by
  unfold winSum wFrm
  have : ∀ xs : List Row, xs.filter (inW s (s + ((0 : Nat) : Int) * st)) = [] := fun xs => by
    rw [List.filter_eq_nil_iff]; intro r _; unfold inW; simp
  unfold winS; rw [this]; rfl
theorem winSum_succ (xs : List Row) {s st : Int} (h1 : 1 ≤ st) (k : Nat) : winSum xs s st (k + 1) = winSum xs s st k + winT xs s st k := by
  have e : wFrm s st (k + 1) = wFrm s st k + st := by
    unfold wFrm; rw [show ((k + 1 : Nat) : Int) = (k : Int) + 1 by omega, Int.add_mul, Int.one_mul]; omega
  have a : 0 ≤ (k : Int) * st := Int.mul_nonneg (by omega) (by omega)
  unfold winSum winT
  rw [e]
  exact tot_split xs (by unfold wFrm; omega) (by omega)
theorem winSum_le {xs : List Row} (h : RowsOk xs) {s st : Int} (h1 : 1 ≤ st) {k n : Nat} (hkn : k ≤ n) : winSum xs s st k ≤ winSum xs s st n := by
  induction n with
  | zero => obtain rfl : k = 0 := by omega
            exact Int.le_refl _
  | succ n ih =>
    rcases Nat.lt_or_ge n k with c | c
    · obtain rfl : k = n + 1 := by omega
      exact Int.le_refl _
    · have := ih c
      have p : 0 ≤ winT xs s st n := (h.tot _ _).1
      rw [winSum_succ xs h1]; omega

theorem wFrm_I64 {s st : Int} {n i : Nat} (hs : 0 ≤ s) (h1 : 1 ≤ st) (h : s + (n : Int) * st ≤ 1099511627776) (hi : i < n) : I64 (wFrm s st i) := by
  have := wFrm_bounds hs h1 h hi
  unfold I64; omega
theorem fCnt_wf {xs : List Row} (h : RowsOk xs) {s st : Int} {i : Nat} (hf : I64 (wFrm s st i)) : (fCnt xs s st i).wf := by
  have q := (h.tot (wFrm s st i) (wFrm s st i + st)).1
  have := cntA_wf (v := cap64 (winT xs s st i)) (by unfold cap64 winT; unfold U64; split <;> omega)
  exact ⟨hf, this.2⟩

theorem C_count_win (a0 a1 a2 a3 a4 a5 a6 a7 a9 a10 : Value) (A : Option Addr) (cap : Nat) (xs : List Row) (frm tx : Int) (w : World) (hr : Sl (fun k => k < w.heap.size) w A xs) (hl : xs.length ≤ 1048576) (h : RowsOk xs) :
    Calls Tryz.prog 61 #[.agg #[a0, a1, a2, a3, a4, a5, a6, a7, .int .i64 1, a9, a10], .slice A xs.length cap, .int .i64 frm, .int .i64 tx] w fun e w' =>
      e = .returned (.agg (ansL frm (cntA (cap64 (tot (winS frm tx xs)))).has (cntA (cap64 (tot (winS frm tx xs)))).value (cntA (cap64 (tot (winS frm tx xs)))).err).toArray) ∧ Below w.heap.size w w' := by
  have hw := h.win frm tx
  obtain ⟨p1, p2⟩ := pCheck_sum (fun s hs => (hw s hs).1) (fun s hs => (hw s hs).2.1) (fun s hs => (hw s hs).2.2)
  have hv : hUp (hAdd h0 (sumS (winS frm tx xs)).hist) 7424 = cap64 (tot (winS frm tx xs)) := (h.tot frm tx).2
  refine C_WinG a0 a1 a2 a3 a4 a5 a6 a7 (.int .i64 1) a9 a10 A cap xs frm tx (cntA (cap64 (tot (winS frm tx xs)))) w hr hl (fun r hr => (h r hr).1) ?_
  intro W A1 c1 A2 c2 z1 z2 _
  refine (C_One_cG a0 a1 a2 a3 a4 a5 a6 a7 a9 a10 A1 c1 A2 c2 (sumS (winS frm tx xs)) W z1 z2 p2 p1).mono ?_
  rintro e w' ⟨rfl, hb⟩
  rw [hv]
  exact ⟨rfl, hb⟩

theorem C_told_count (ba bi : Nat) (A : Option Addr) (cap : Nat) (xs : List Row) (a0 a1 a2 a3 a4 a9 a10 : Value) (s st m : Int) (n : Nat) (w : World) (hs0 : 0 ≤ s) (h1 : 1 ≤ st) (hn1 : 1 ≤ n) (hnn : n ≤ 1048576) (hsm : s + (n : Int) * st ≤ 1099511627776) (hmn : (n : Int) < m) (hm1 : 1 < m) (hm2 : m < 1000)
    (hask : Blk w ba [a0, a1, a2, a3, a4, .int .i64 s, .int .i64 st, .int .i64 n, .int .i64 1, a9, a10] 31) (hin : w.cell? ⟨bi, 0, none⟩ = some (.slice A xs.length cap)) (hbi : bi < w.heap.size) (hr : Sl (fun k => k < w.heap.size) w A xs) (hl : xs.length ≤ 1048576) (h : RowsOk xs) :
    Calls Tryz.prog 26 #[.func (.func 59) #[] #[.pointer (some ⟨ba, 0, none⟩), .pointer (some ⟨bi, 0, none⟩)], .int .i64 m] w fun e w' =>
      ∃ v, e = .returned v ∧ Own w' w.heap.size 47 v ((List.range n).map (fCnt xs s st)) ∧ Below w.heap.size w w' :=
  C_toldN ba bi A cap xs a0 a1 a2 a3 a4 (.int .i64 1) a9 a10 s st m n (fCnt xs s st) w hs0 h1 hn1 hnn hsm hmn hm1 hm2 hask hin hbi hr (fun i hi => fCnt_wf h (wFrm_I64 hs0 h1 hsm hi))
    (fun i hi W hs => C_count_win a0 a1 a2 a3 a4 (.int .i64 s) (.int .i64 st) (.int .i64 n) a9 a10 A cap xs (wFrm s st i) (wFrm s st i + st) W hs hl h)
theorem C_told_one (ba bi : Nat) (A : Option Addr) (cap : Nat) (xs : List Row) (a0 a1 a2 a3 a4 a9 a10 : Value) (s st m : Int) (w : World) (hs0 : 0 ≤ s) (h1 : 1 ≤ st) (hsm : s + st ≤ 1099511627776) (hm1 : 1 < m) (hm2 : m < 1000)
    (hask : Blk w ba [a0, a1, a2, a3, a4, .int .i64 s, .int .i64 st, .int .i64 1, .int .i64 1, a9, a10] 31) (hin : w.cell? ⟨bi, 0, none⟩ = some (.slice A xs.length cap)) (hbi : bi < w.heap.size) (hr : Sl (fun k => k < w.heap.size) w A xs) (hl : xs.length ≤ 1048576) (h : RowsOk xs) :
    Calls Tryz.prog 26 #[.func (.func 59) #[] #[.pointer (some ⟨ba, 0, none⟩), .pointer (some ⟨bi, 0, none⟩)], .int .i64 m] w fun e w' =>
      ∃ v, e = .returned v ∧ Own w' w.heap.size 47 v [fCnt xs s st 0] ∧ Below w.heap.size w w' :=
  C_told_count ba bi A cap xs a0 a1 a2 a3 a4 a9 a10 s st m 1 w hs0 h1 (Nat.le_refl _) (by omega) (by omega) (by omega) hm1 hm2 hask hin hbi hr hl h
end Go.Proofs.YtbefkiebdokbdaaGreat.V
end
