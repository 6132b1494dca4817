/- varvelaw00.Rows: rows copied; varvelaw00.Place. -/
import Derived.Test.YtbefkiebdokbdaaGreatCopy3
namespace Go.Proofs.YtbefkiebdokbdaaGreat.V
open Go.RowKit
set_option linter.unusedVariables false
set_option maxRecDepth 100000

set_option maxHeartbeats 2000000 in
theorem C_v_Rows (A : Option Addr) (cap : Nat) (xs : List Row) (w : World) (hr : Sl (fun k => k < w.heap.size) w A xs) (hl : xs.length ≤ 1048576) (hs : ∀ r ∈ xs, r.small) :
    Calls Tryz.prog 22 #[.slice A xs.length cap] w fun e w' => ∃ v, e = .returned v ∧ Own w' w.heap.size 67 v xs ∧ Below w.heap.size w w' := by
  have HS := Lib.hid hs
  clear hs
  go_enter Tryz.func22, Tryz.ntmps22
  go_wp2_with fail
  go_loopw [3, 4] (fun v i wr => ∃ (k : Nat), k ≤ xs.length ∧ i = .int .i64 k ∧ Own wr w.heap.size 67 v (xs.take k) ∧ Below w.heap.size w wr) (fun _ i _ => xs.length - (intOf i).toNat)
  case atStart => exact ⟨0, Nat.zero_le _, rfl, Own.nil _ _ _, Below.refl _ _⟩
  case round =>
    obtain ⟨k, hk, rfl, hown, hbl⟩ := hrel
    by_cases hlt : k < xs.length
    · have hsm := HS.out _ (List.getElem_mem hlt)
      obtain ⟨l0, l1, l2⟩ := hsm
      obtain ⟨b, off, A0, c0, A1, c1, A2, c2, rfl, hob, hlb, y0, y1, y2, y3, y4, y5, y6, y7, s0, hi, s1, s2, hg, m0, m1, m2⟩ := (hr.below hbl).row hlt
      have htk : xs.take (k + 1) = xs.take k ++ [xs[k]] := List.take_succ_eq_append_getElem hlt
      have HT := Lib.hid htk
      clear htk
      have hlen : (xs.take k).length = k := by simp; omega
      generalize xs.take k = pre at *
      generalize xs[k] = r at *
      have hws := hbl.size
      have tosl : ∀ {α : Type} [Rep α] {B : Option Addr} {zs : List α}, Sl (fun k => k < w.heap.size) wr B zs → Sl (fun k => k < wr.heap.size) wr B zs := fun h => h.mono (fun k _ h => by omega)
      go_wp2_with fail
      refine (C_v_Row A0 c0 A1 c1 A2 c2 r _ (tosl s0) (tosl s1) (tosl s2) hi hg m0 m1 m2 l0 l1 l2).mono ?_
      rintro e w1 ⟨B0, d0, B1, d1, B2, d2, rfl, hrow, hb1⟩
      clear tosl s0 s1 s2
      have hown1 := hown.below hb1
      have hob : ∀ j, u3.ownBlock = some j → w.heap.size ≤ j ∧ j < wr.heap.size := fun j hj => by obtain ⟨cs, _, ho'⟩ := hown; exact ho'.lt j hj
      have hz1 := hb1.size
      have hrow1 : Rep.rep (fun k => k < w1.heap.size ∧ some k ≠ u3.ownBlock) w1 (rowL B0 d0 B1 d1 B2 d2 r) r := Rep.mono (α := Row) hrow (fun k hk h => ⟨hk, fun e => by have := hob k e.symm; omega⟩)
      have hA1 : pre.length + 1 ≤ 9223372036854775807 := by omega
      have hA2 : (pre.length + 1) * 112 ≤ 140737488355328 := by omega
      have hA3 : w.heap.size ≤ w1.heap.size := by omega
      have hb2 : Below w.heap.size w w1 := hbl.trans (hb1.mono hws)
      clear hown hbl hrow hb1 y0 y1 y2 y3 y4 y5 y6 y7
      go_wp2_with (at_builtin; refine wpOwn_append1 (rowL B0 d0 B1 d1 B2 d2 r) r rfl _ _ 51 67 67 112 w.heap.size rfl rfl el_Row rfl hown1 rfl hrow1 hA1 hA2 hA3 ?_)
      intro v' w2 ho2 hg2 hat2
      go_wp2
      go_roundw
      case rel => exact ⟨k + 1, by omega, by go_num, by rw [HT.out]; exact ho2, hb2.grown hg2 hb2.size (fun j hj => (hob j hj).1)⟩
      case measure => simp [intOf]; omega
    · have hkk : k = xs.length := by omega
      rw [hkk, List.take_length] at hown
      go_wp2
      go_ret
      exact ⟨_, rfl, hown, hbl⟩

theorem place_lt {v n : Int} (hn : 0 < n) : 0 ≤ place v n ∧ place v n < n := by
  unfold place
  have h1 := Int.tmod_lt_of_pos v hn
  have h2 : -n < Int.tmod v n := by have := Int.tmod_lt_of_pos (-v) hn; rw [Int.neg_tmod] at this; omega
  split <;> omega
theorem C_Place (v n : Int) (w : World) (hv : I64 v) (h0 : 0 < n) (h1 : n ≤ 9223372036854775807) :
    Calls Tryz.prog 25 #[.int .i64 v, .int .i64 n] w fun e w' => e = .returned (.int .i64 (place v n)) ∧ w = w' := by
  obtain ⟨v1, v2⟩ := hv
  have b1 := Int.tmod_lt_of_pos v h0
  have b2 : -n < Int.tmod v n := by have := Int.tmod_lt_of_pos (-v) h0; rw [Int.neg_tmod] at this; omega
  have hz : (n == 0) = false := by simp; omega
  have hn0 : n ≠ 0 := by omega
  have hw : IntKind.i64.wrap (Int.tmod v n) = Int.tmod v n := IntWalk.i64_in _ (by omega)
  have HP : place v n = if Int.tmod v n < 0 then Int.tmod v n + n else Int.tmod v n := rfl
  have H := Lib.hid HP
  clear HP
  go_enter Tryz.func25, Tryz.ntmps25
  by_cases hneg : Int.tmod v n < 0
  · go_wp2
    go_ret
    exact ⟨ret_i (by rw [H.out, if_pos hneg]), rfl⟩
  · go_wp2
    go_ret
    exact ⟨ret_i (by rw [H.out, if_neg (by omega)]), rfl⟩
end Go.Proofs.YtbefkiebdokbdaaGreat.V
