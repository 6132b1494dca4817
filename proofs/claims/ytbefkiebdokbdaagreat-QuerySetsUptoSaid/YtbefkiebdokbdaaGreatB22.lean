/- Part 22 of the proof: AnsG. -/
import Derived.Test.YtbefkiebdokbdaaGreatB17
import Derived.Test.YtbefkiebdokbdaaGreatB20
import Derived.Test.YtbefkiebdokbdaaGreatB21

section
/- query.Answers of any question, and what varvelaw23.told tells of it. -/
namespace Go.Proofs.YtbefkiebdokbdaaGreat.V
open Go.RowKit
set_option linter.unusedVariables false
set_option maxRecDepth 100000

@[reducible] def aG (op : Int) (name value : ByteArray) (A1 : Option Addr) (n1 c1 : Nat) (A2 : Option Addr) (n2 c2 : Nat) (a5 a6 a7 a8 a9 a10 : Value) : List Value :=
  [.int .i64 op, .string name, .string value, .slice A1 n1 c1, .slice A2 n2 c2, a5, a6, a7, a8, a9, a10]

set_option maxHeartbeats 2000000 in
/-- query.Answers of any question: the rows that it means, copied. -/
theorem C_AnswersG (m : Matcher) (op : Int) (nm vl : ByteArray) (M1 : Option Addr) (l1 d1 : Nat) (M2 : Option Addr) (l2 d2 : Nat) (a5 a6 a7 a8 a9 a10 : Value) (A : Option Addr) (cap : Nat) (xs : List Row) (w : World) (hM : MRep (fun k => k < w.heap.size) w (mL op nm vl M1 l1 d1 M2 l2 d2) m) (hr : Sl (fun k => k < w.heap.size) w A xs) (hl : xs.length ≤ 1048576) (hs : ∀ r ∈ xs, r.small) :
    Calls Tryz.prog 23 #[.agg (aG op nm vl M1 l1 d1 M2 l2 d2 a5 a6 a7 a8 a9 a10).toArray, .slice A xs.length cap] w fun e w' => ∃ ba bi B c, e = .returned (.func (.func 59) #[] #[.pointer (some ⟨ba, 0, none⟩), .pointer (some ⟨bi, 0, none⟩)]) ∧
      Blk w' ba (aG op nm vl M1 l1 d1 M2 l2 d2 a5 a6 a7 a8 a9 a10) 31 ∧ w'.cell? ⟨bi, 0, none⟩ = some (.slice B (xs.filter (mayM m)).length c) ∧ bi < w'.heap.size ∧ Sl (fun k => k < w'.heap.size) w' B (xs.filter (mayM m)) ∧ Below w.heap.size w w' := by
  go_enter Tryz.func23, Tryz.ntmps23
  go_wp2_with fail
  obtain ⟨W, hW⟩ : ∃ W, W = w.alloc (.cells (aG op nm vl M1 l1 d1 M2 l2 d2 a5 a6 a7 a8 a9 a10).toArray 31) := ⟨_, rfl⟩
  have hbW : Below w.heap.size w W := hW ▸ (Below.refl _ _).alloc (Nat.le_refl _) _
  have hB : Blk W w.heap.size (aG op nm vl M1 l1 d1 M2 l2 d2 a5 a6 a7 a8 a9 a10) 31 := hW ▸ Blk.new _ _ _
  have hMW := (hM.keep (Keeps.of_below hbW)).mono (ok' := fun k => k < W.heap.size) (fun k _ h => Nat.lt_of_lt_of_le h hbW.size)
  show Calls _ _ _ (w.alloc (.cells (aG op nm vl M1 l1 d1 M2 l2 d2 a5 a6 a7 a8 a9 a10).toArray 31)) _
  rw [← hW]
  clear hW
  refine (C_MeantG m _ A cap xs W (Sl.up hr hbW) hl hMW).mono ?_
  rintro e w1 ⟨v, rfl, ho1, hb1⟩
  have hz1 := hbW.size
  obtain ⟨B1, c1, rfl, hsl1⟩ := ho1.sl hb1.size
  have hbw1 := hbW.trans (hb1.mono hz1)
  have hfl : (xs.filter (mayM m)).length ≤ xs.length := List.length_filter_le _ _
  have hsm : ∀ r ∈ xs.filter (mayM m), r.small := fun r h => hs r (List.mem_filter.1 h).1
  obtain ⟨ys, hys⟩ : ∃ ys, ys = xs.filter (mayM m) := ⟨_, rfl⟩
  rw [← hys] at hsl1 hfl hsm ho1 ⊢
  have HY := Lib.hid hys
  clear hys
  go_wp2_with fail
  refine (C_rows_Own B1 c1 ys w1 hsl1 (by omega) hsm).mono ?_
  rintro e w2 ⟨v, rfl, ho2, hb2⟩
  obtain ⟨B2, c2, rfl, hsl2⟩ := ho2.sl hb2.size
  have hB2 := (hB.below hb1).below hb2
  have hbw2 := hbw1.trans (hb2.mono hbw1.size)
  go_wp2
  go_ret
  have ha : Below w2.heap.size w2 (w2.alloc (.cells #[.slice B2 ys.length c2] 51)) := (Below.refl _ _).alloc (Nat.le_refl _) _
  rw [← HY.out]
  exact ⟨_, _, B2, c2, rfl, hB2.below ha, by simp, by simp, Sl.up hsl2 ha, hbw2.trans (ha.mono hbw2.size)⟩
set_option maxHeartbeats 2000000 in
theorem C_toldN (ba bi : Nat) (A : Option Addr) (cap : Nat) (xs : List Row) (a0 a1 a2 a3 a4 a8 a9 a10 : Value) (s st m : Int) (n : Nat) (f : Nat → Answer) (w : World) (hs0 : 0 ≤ s) (h1 : 1 ≤ st) (hn1 : 1 ≤ n) (hnn : n ≤ 1048576) (hsm : s + (n : Int) * st ≤ 1099511627776) (hmn : (n : Int) < m) (hm1 : 1 < m) (hm2 : m < 1000)
    (hask : Blk w ba [a0, a1, a2, a3, a4, .int .i64 s, .int .i64 st, .int .i64 n, a8, a9, a10] 31) (hin : w.cell? ⟨bi, 0, none⟩ = some (.slice A xs.length cap)) (hbi : bi < w.heap.size) (hr : Sl (fun k => k < w.heap.size) w A xs) (hwf : ∀ i, i < n → (f i).wf)
    (hwin : ∀ i, i < n → ∀ W : World, Sl (fun k => k < W.heap.size) W A xs → Calls Tryz.prog 61 #[.agg ([a0, a1, a2, a3, a4, .int .i64 s, .int .i64 st, .int .i64 n, a8, a9, a10] : List Value).toArray, .slice A xs.length cap, .int .i64 (wFrm s st i), .int .i64 (wFrm s st i + st)] W fun e w' => e = .returned (.agg (encAnswer (f i)).toArray) ∧ Below W.heap.size W w') :
    Calls Tryz.prog 26 #[.func (.func 59) #[] #[.pointer (some ⟨ba, 0, none⟩), .pointer (some ⟨bi, 0, none⟩)], .int .i64 m] w fun e w' =>
      ∃ v, e = .returned v ∧ Own w' w.heap.size 47 v ((List.range n).map f) ∧ Below w.heap.size w w' := by
  have hal := hask.lt
  have hnil : ∀ w : World, (binOp BinOp.eql 54 (.func (.func 59) #[] #[.pointer (some ⟨ba, 0, none⟩), .pointer (some ⟨bi, 0, none⟩)]) Value.nilFunc).run Tryz.prog w = .ok (.bool false) w := fun w => by kernel_rfl
  go_enter Tryz.func26, Tryz.ntmps26
  go_wp2_with fail
  obtain ⟨W, hW⟩ : ∃ W, W = (w.alloc (.cells #[.int .i64 m] 3)).alloc (.cells #[.slice none 0 0] 58) := ⟨_, rfl⟩
  have hsz : (w.alloc (.cells #[.int .i64 m] 3)).heap.size = w.heap.size + 1 := by simp
  have hbW : Below w.heap.size w W := hW ▸ ((Below.refl _ _).alloc (Nat.le_refl _) _).alloc (by omega) _
  have hL : Blk W (w.heap.size + 1) [.slice none 0 0] 58 := by
    have := Blk.new (w.alloc (.cells #[.int .i64 m] 3)) [.slice none 0 0] 58
    rw [hsz] at this
    rw [hW]; exact this
  have hM : Blk W w.heap.size [.int .i64 m] 3 := by
    rw [hW]; exact (Blk.new w [.int .i64 m] 3).below ((Below.refl _ _).alloc (Nat.le_refl _) _)
  have HWIN := Lib.hid hwin
  clear hwin
  rw [← hW]
  clear hW hnil
  refine (C_AnswersN (w.heap.size + 1) w.heap.size ba bi A cap xs a0 a1 a2 a3 a4 a8 a9 a10 s st m n f W hs0 h1 hn1 hnn hsm hmn (hask.below hbW) (bcell hbW hin) hL (hM.c 0 rfl) (by omega) (by omega) (by omega) ((hr.below hbW).mono (fun k hk h => ⟨hk, by omega⟩)) hwf HWIN.out).mono ?_
  rintro e w1 ⟨⟨v, rfl⟩, ⟨v', hL1, hO1⟩, hf, hz1⟩
  have hz := hbW.size
  have hfin : Below w.heap.size w w1 := hf.to_below hbW (fun k _ e => by omega)
  obtain ⟨B0, k0, rfl, -⟩ := hO1.form
  have hlm : ((List.range n).map f).length = n := by simp
  rw [hlm] at hO1 hL1
  have y0 := hL1.c 0 rfl
  clear hL hM hask hin hr hL1 hf HWIN hbW hwf
  go_wp2
  go_ret
  exact ⟨_, rfl, hO1.lower (b := w.heap.size) (by omega), hfin⟩
end Go.Proofs.YtbefkiebdokbdaaGreat.V
end
