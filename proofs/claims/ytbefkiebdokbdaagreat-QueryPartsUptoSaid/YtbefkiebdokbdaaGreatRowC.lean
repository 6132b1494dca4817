/- Contracts: rows.Own. -/
import Derived.Test.YtbefkiebdokbdaaGreatRowB
namespace Go.Proofs.YtbefkiebdokbdaaGreat.V
open Go.RowKit
set_option linter.unusedVariables false
set_option maxRecDepth 100000

theorem el_Row : ElemOf Tryz.prog 51 67 (Rep.sz Row) 112 := ElemOf.mk' (z := .agg #[.slice none 0 0, .int .i64 0, .slice none 0 0, .slice none 0 0, .int .u64 0, .int .u64 0, .int .u64 0, .int .u64 0]) Tryz.underlying51 (by kernel_rfl) rfl

theorem Sl.row {ok : Nat → Prop} {w : World} {A : Option Addr} {xs : List Row} (h : Sl ok w A xs) {k : Nat} (hk : k < xs.length) :
    ∃ b off A0 c0 A1 c1 A2 c2, A = some ⟨b, off, none⟩ ∧ ok b ∧ b < w.heap.size ∧ w.cell? ⟨b, off + k * 8, none⟩ = some (.slice A0 xs[k].labels.length c0) ∧ w.cell? ⟨b, off + k * 8 + 1, none⟩ = some (.int .i64 xs[k].at_)
      ∧ w.cell? ⟨b, off + k * 8 + 2, none⟩ = some (.slice A1 xs[k].s.hist.length c1) ∧ w.cell? ⟨b, off + k * 8 + 3, none⟩ = some (.slice A2 xs[k].s.hashes.length c2)
      ∧ w.cell? ⟨b, off + k * 8 + 4, none⟩ = some (.int .u64 xs[k].s.gauge.n) ∧ w.cell? ⟨b, off + k * 8 + 5, none⟩ = some (.int .u64 xs[k].s.gauge.nans) ∧ w.cell? ⟨b, off + k * 8 + 6, none⟩ = some (.int .u64 xs[k].s.gauge.lo) ∧ w.cell? ⟨b, off + k * 8 + 7, none⟩ = some (.int .u64 xs[k].s.gauge.hi)
      ∧ Sl ok w A0 xs[k].labels ∧ I64 xs[k].at_ ∧ Sl ok w A1 xs[k].s.hist ∧ Sl ok w A2 xs[k].s.hashes ∧ xs[k].s.gauge.wf ∧ (A0 = none → c0 = 0) ∧ (A1 = none → c1 = 0) ∧ (A2 = none → c2 = 0) := by
  obtain ⟨b, off, vs, rfl, hv, hc⟩ := h.at_ hk
  obtain ⟨A0, c0, A1, c1, A2, c2, rfl, h0, hi, h1, h2, h3, m0, m1, m2⟩ := hv
  exact ⟨b, off, A0, c0, A1, c1, A2, c2, rfl, hc.1, hc.2.1, hc.c0, hc.c1, hc.cj 2 _ rfl, hc.cj 3 _ rfl, hc.cj 4 _ rfl, hc.cj 5 _ rfl, hc.cj 6 _ rfl, hc.cj 7 _ rfl, h0, hi, h1, h2, h3, m0, m1, m2⟩

/-- The lists of a row are of a borne size. -/
def Row.small (r : Row) : Prop := r.labels.length ≤ 1048576 ∧ r.s.hist.length ≤ 1048576 ∧ r.s.hashes.length ≤ 1048576

set_option maxHeartbeats 2000000 in
theorem C_rows_Own (A : Option Addr) (cap : Nat) (xs : List Row) (w : World) (hr : Sl (fun k => k < w.heap.size) w A xs) (hl : xs.length ≤ 1048576) (hs : ∀ r ∈ xs, r.small) :
    Calls Tryz.prog 57 #[.slice A xs.length cap] w fun e w' => ∃ v, e = .returned v ∧ Own w' w.heap.size 67 v xs ∧ Below w.heap.size w w' := by
  have HS := Lib.hid hs
  clear hs
  go_enter Tryz.func57, Tryz.ntmps57
  go_wp2_with fail
  go_loopw [3, 5, 8] (fun v _ i wr => ∃ (k : Nat), k ≤ xs.length ∧ i = .int .i64 k ∧ Own wr w.heap.size 67 v (xs.take k) ∧ Below w.heap.size w wr) (fun _ _ i _ => xs.length - (intOf i).toNat)
  case atStart => exact ⟨0, Nat.zero_le _, rfl, Own.nil _ _ _, Below.refl _ _⟩
  case round =>
    obtain ⟨k, hk, rfl, hown, hbl⟩ := hrel
    by_cases hlt : k < xs.length
    · have hsm := HS.out _ (List.getElem_mem hlt)
      obtain ⟨l0, l1, l2⟩ := hsm
      obtain ⟨b, off, A0, c0, A1, c1, A2, c2, rfl, hob, hlb, y0, y1, y2, y3, y4, y5, y6, y7, s0, hi, s1, s2, hg, m0, m1, m2⟩ := (hr.below hbl).row hlt
      have htk : xs.take (k + 1) = xs.take k ++ [xs[k]] := List.take_succ_eq_append_getElem hlt
      have HT := Lib.hid htk
      clear htk
      have hlen : (xs.take k).length = k := by simp; omega
      generalize xs.take k = pre at *
      generalize xs[k] = r at *
      go_wp2_with fail
      obtain ⟨W, hW⟩ : ∃ W, W = wr.alloc (.cells (rowL A0 c0 A1 c1 A2 c2 r).toArray 67) := ⟨_, rfl⟩
      have hbW : Below wr.heap.size wr W := hW ▸ (Below.refl _ _).alloc (Nat.le_refl _) _
      rw [← hW]
      clear hW y0 y1 y2 y3 y4 y5 y6 y7
      have hws := hbl.size
      have hwz := hbW.size
      have tosl : ∀ {α : Type} [Rep α] {B : Option Addr} {zs : List α}, Sl (fun k => k < w.heap.size) wr B zs → Sl (fun k => k < W.heap.size) W B zs := fun h => (h.below hbW).mono (fun k _ h => by omega)
      refine (C_rows_One A0 c0 A1 c1 A2 c2 r _ (tosl s0) (tosl s1) (tosl s2) hi hg m0 m1 m2 l0 l1 l2).mono ?_
      rintro e w1 ⟨B0, d0, B1, d1, B2, d2, rfl, hrow, hb1⟩
      clear tosl s0 s1 s2
      have hown1 := (hown.below hbW).below hb1
      have hob : ∀ j, u3.ownBlock = some j → w.heap.size ≤ j ∧ j < wr.heap.size := fun j hj => by obtain ⟨cs, _, ho'⟩ := hown; exact ho'.lt j hj
      have hz1 := hb1.size
      have hrow1 : Rep.rep (fun k => k < w1.heap.size ∧ some k ≠ u3.ownBlock) w1 (rowL B0 d0 B1 d1 B2 d2 r) r := Rep.mono (α := Row) hrow (fun k hk h => ⟨hk, fun e => by have := hob k e.symm; omega⟩)
      have hA1 : pre.length + 1 ≤ 9223372036854775807 := by omega
      have hA2 : (pre.length + 1) * 112 ≤ 140737488355328 := by omega
      have hA3 : w.heap.size ≤ w1.heap.size := by omega
      have hb2 : Below w.heap.size w w1 := (hbl.trans (hbW.mono hws)).trans (hb1.mono (by omega))
      clear hown hbl hrow hb1 hbW
      go_wp2_with (at_builtin; refine wpOwn_append1 (rowL B0 d0 B1 d1 B2 d2 r) r rfl _ _ 51 67 67 112 w.heap.size rfl rfl el_Row rfl hown1 rfl hrow1 hA1 hA2 hA3 ?_)
      intro v' w2 ho2 hg2 hat2
      go_wp2
      go_roundw
      case rel => exact ⟨k + 1, by omega, by go_num, by rw [HT.out]; exact ho2, hb2.grown hg2 hb2.size (fun j hj => (hob j hj).1)⟩
      case measure => simp [intOf]; omega
    · have hkk : k = xs.length := by omega
      rw [hkk, List.take_length] at hown
      go_wp2
      go_ret
      exact ⟨_, rfl, hown, hbl⟩
end Go.Proofs.YtbefkiebdokbdaaGreat.V
