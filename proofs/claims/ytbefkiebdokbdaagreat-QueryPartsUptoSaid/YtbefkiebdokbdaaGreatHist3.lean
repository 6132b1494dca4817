/- Contracts of package hist: Buckets. -/
import Derived.Test.YtbefkiebdokbdaaGreatHist2
namespace Go.Proofs.YtbefkiebdokbdaaGreat.V
open Go.RowKit
set_option linter.unusedVariables false
set_option maxRecDepth 100000

theorem run_index_hist (h : List Int) (hl : h.length = 7424) (k : Nat) (hk : k < 7424) (w : World) :
    (Instr.index 128 (.agg (h.map (Value.int .u64)).toArray) (.int .i64 k)).run Tryz.prog w = .ok (.int .u64 (h.getD k 0)) w := by
  have hi : (h.map (Value.int .u64))[k]? = some (.int .u64 (h.getD k 0)) := by
    have : k < h.length := by omega
    simp [this]
  generalize h.map (Value.int .u64) = L at hi
  unfold Instr.index
  simp only [asIntOf, Sem.run_bind, Sem.run_pure, Result.andThen, run_underlying Tryz.underlying128]
  rw [if_pos (by omega)]
  simp only [Sem.run_bind, Tryz.sizeOf29, Result.andThen, Nat.mul_one, Int.toNat_natCast]
  unfold part
  simp [hi, Tryz.isAgg29, Result.andThen]

theorem el_Bucket : ElemOf Tryz.prog 39 120 (Rep.sz Bucket) 16 := ElemOf.mk' (z := .agg #[.int .i64 0, .int .u64 0]) Tryz.underlying39 (by kernel_rfl) rfl

/-- The buckets of the first k places in which something was seen. -/
def hBk (h : List Int) : Nat → List Bucket
  | 0 => []
  | k + 1 => if 0 < h.getD k 0 then hBk h k ++ [⟨k, h.getD k 0⟩] else hBk h k
theorem hBk_len (h : List Int) : ∀ k, (hBk h k).length ≤ k
  | 0 => by simp [hBk]
  | k + 1 => by
    have := hBk_len h k
    rw [hBk]; split
    · simp; omega
    · omega

set_option maxHeartbeats 1000000 in
theorem C_hist_Buckets (g : Nat) (h : List Int) (w : World) (H : HistAt w g h) :
    Calls Tryz.prog 122 #[.pointer (some ⟨g, 0, none⟩)] w fun e w' => ∃ v, e = .returned v ∧ Own w' w.heap.size 120 v (hBk h 7424) ∧ Below w.heap.size w w' := by
  have hsz : (Tryz.prog.info? 128).map (·.size) = some (h.map (Value.int .u64)).toArray.size := by
    rw [List.size_toArray, List.length_map, H.1]; kernel_rfl
  have hix := run_index_hist h H.1
  have hb := H.2.2
  have hgU := fun k => H.getU k
  generalize ha : (h.map (Value.int .u64)).toArray = arr at hsz hix hb
  have HX := Lib.hid hix
  have HG := Lib.hid hgU
  clear hix ha hgU H
  go_enter Tryz.func122, Tryz.ntmps122
  go_wp2_with (refine wpList_load_row (o := ⟨some 12, _, _, _, _, _⟩) rfl 128 _ rfl g rfl 130 arr (0, 0) _ hb Tryz.underlying128 rfl hsz ?_)
  go_loopw [3, 4, 5, 13] (fun v a n i wr => ∃ (k : Nat), k ≤ 7424 ∧ i = .int .i64 k ∧ Own wr w.heap.size 120 v (hBk h k) ∧ Below w.heap.size w wr) (fun _ _ _ i _ => 7424 - (intOf i).toNat)
  case atStart => exact ⟨0, Nat.zero_le _, rfl, Own.nil _ _ _, Below.refl _ _⟩
  case round =>
    obtain ⟨k, hk, rfl, ho, hbl⟩ := hrel
    by_cases hlt : k < 7424
    · have hx := HX.out k hlt
      have hu := HG.out k
      have hl := hBk_len h k
      have hkk : hBk h (k + 1) = if 0 < h.getD k 0 then hBk h k ++ [⟨k, h.getD k 0⟩] else hBk h k := rfl
      generalize h.getD k 0 = n at hx hu hkk
      have HK := Lib.hid hkk
      clear hkk
      have hki : I64 (k : Int) := by unfold I64; omega
      by_cases hp : 0 < n
      · have e1 : hBk h (k + 1) = hBk h k ++ [⟨k, n⟩] := by rw [HK.out, if_pos hp]
        have E1 := Lib.hid e1
        clear e1
        go_wp2_with (at_builtin; go_loud (refine wpOwn_append1 [.int .i64 k, .int .u64 n] (⟨k, n⟩ : Bucket) rfl _ _ 39 120 120 16 w.heap.size rfl rfl el_Bucket rfl ho rfl ⟨rfl, ⟨hki, hu⟩⟩ (by omega) (by omega) hbl.size ?_))
        intro v' w1 ho1 hg1 hat
        go_wp2
        go_roundw
        case rel => exact ⟨k + 1, by omega, by go_num, by rw [E1.out]; exact ho1, hbl.grown hg1 hbl.size (fun j hj => by obtain ⟨cs, _, ho'⟩ := ho; exact (ho'.lt j hj).1)⟩
        case measure => simp [intOf]; omega
      · have e1 : hBk h (k + 1) = hBk h k := by rw [HK.out, if_neg hp]
        have E1 := Lib.hid e1
        clear e1
        go_wp2
        go_roundw
        case rel => exact ⟨k + 1, by omega, by go_num, by rw [E1.out]; exact ho, hbl⟩
        case measure => simp [intOf]; omega
    · have hkk : k = 7424 := by omega
      rw [hkk] at ho
      go_wp2
      go_ret
      exact ⟨_, rfl, ho, hbl⟩
end Go.Proofs.YtbefkiebdokbdaaGreat.V
