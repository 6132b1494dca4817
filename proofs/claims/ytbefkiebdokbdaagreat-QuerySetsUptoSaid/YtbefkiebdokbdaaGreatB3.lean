/- Part 3 of the proof: Hist. -/
import Derived.Deep.RegionHeld3
import Derived.Test.YtbefkiebdokbdaaGreatB1

section
/- Contracts of package hist. -/
namespace Go.Proofs.YtbefkiebdokbdaaGreat.V
open Go.RowKit
set_option linter.unusedVariables false
set_option maxRecDepth 100000

/-! ### Worlds in which one block alone was written -/
theorem gb_trans {a b c : World} {row : Option Nat} (h : a.grownBy b row) (k : b.grownBy c row) : a.grownBy c row :=
  ⟨k.os.trans h.os, k.tape.trans h.tape, k.output.trans h.output, Nat.le_trans h.size k.size, fun i hi hne => (k.block i (Nat.lt_of_lt_of_le hi h.size) hne).trans (h.block i hi hne)⟩
theorem gb_below {a b c : World} {row : Option Nat} (h : a.grownBy b row) (k : Below b.heap.size b c) : a.grownBy c row :=
  gb_trans h ⟨k.os, k.tape, k.output, k.size, fun i hi _ => k.block i hi⟩
theorem gb_alloc {a b : World} {row : Option Nat} (h : a.grownBy b row) (o : Obj) : a.grownBy (b.alloc o) row := gb_below h ((Below.refl _ _).alloc (Nat.le_refl _) o)
theorem gb_drew {a b : World} {row : Option Nat} (h : a.grownBy b row) : a.grownBy b.drew row := ⟨h.os, h.tape, h.output, h.size, h.block⟩
theorem gb_set {a b : World} {g o : Nat} (h : a.grownBy b (some g)) (u : Value) : a.grownBy (b.setCell ⟨g, o, none⟩ u) (some g) :=
  gb_trans h ⟨rfl, rfl, rfl, by simp [World.setCell], fun i hi hne => Below.heap_setCell _ _ _ _ (fun e => hne (by rw [e]))⟩
/-- Where the block written was made since, nothing older has turned. -/
theorem gb_to_below {w0 a b : World} {g : Nat} (h : Below w0.heap.size w0 a) (k : a.grownBy b (some g)) (hg : w0.heap.size ≤ g) : Below w0.heap.size w0 b :=
  h.grown k h.size (fun _ e => by cases e; exact hg)

/-! ### The block of a histogram -/
def HistAt (w : World) (g : Nat) (h : List Int) : Prop :=
  h.length = 7424 ∧ (∀ x ∈ h, U64 x) ∧ w.heap[g]? = some (.cells (h.map (Value.int .u64)).toArray 130 (0, 0))
def h0 : List Int := List.replicate 7424 0
theorem h0_wf : ∀ x ∈ h0, U64 x := by
  intro x hx
  obtain ⟨_, rfl⟩ := List.mem_replicate.1 hx
  unfold U64; omega
theorem zero_cells : Tryz.zeroCells130 = (h0.map (Value.int .u64)).toArray := by kernel_rfl
section
variable {w w' : World} {g : Nat} {h : List Int}
theorem HistAt.keep {row : Option Nat} (H : HistAt w g h) (hg : w.grownBy w' row) (hne : some g ≠ row) : HistAt w' g h :=
  ⟨H.1, H.2.1, by rw [hg.block g (Array.getElem?_eq_some_iff.1 H.2.2).1 hne]; exact H.2.2⟩
theorem HistAt.lt (H : HistAt w g h) : g < w.heap.size := (Array.getElem?_eq_some_iff.1 H.2.2).1
theorem HistAt.below (H : HistAt w g h) (hb : Below w.heap.size w w') : HistAt w' g h := ⟨H.1, H.2.1, by rw [hb.block g H.lt]; exact H.2.2⟩
theorem HistAt.alloc (H : HistAt w g h) (o : Obj) : HistAt (w.alloc o) g h := H.below ((Below.refl _ _).alloc (Nat.le_refl _) o)
theorem HistAt.cell (H : HistAt w g h) (i : Nat) (hi : i < 7424) : w.cell? ⟨g, i, none⟩ = some (.int .u64 (h.getD i 0)) := by
  have h1 : i < h.length := by rw [H.1]; exact hi
  simp only [World.cell?, H.2.2]
  simp [h1]
theorem HistAt.frozen (H : HistAt w g h) (i : Nat) : w.frozen? ⟨g, i, none⟩ = false := by simp [World.frozen?, H.2.2]
theorem HistAt.set (H : HistAt w g h) (i : Nat) (v : Int) (hv : U64 v) : HistAt (w.setCell ⟨g, i, none⟩ (.int .u64 v)) g (h.set i v) := by
  refine ⟨by rw [List.length_set]; exact H.1, fun x hx => ?_, ?_⟩
  · rcases List.mem_or_eq_of_mem_set hx with hx | rfl
    · exact H.2.1 x hx
    · exact hv
  · have hlt := H.lt
    have h' := (Array.getElem?_eq_some_iff.1 H.2.2).2
    show (w.heap.modify g _)[g]? = _
    rw [Array.getElem?_eq_getElem (by simpa using hlt), Array.getElem_modify_self, h']
    simp [List.map_set]
end

theorem zeroCells_one (v : Value) (n : Nat) : (Builtin.zeroCells #[v] n).toList = List.replicate n v := by
  apply List.ext_getElem
  · simp [Builtin.zeroCells]
  · intro i h1 h2
    simp [Builtin.zeroCells, Nat.mod_one]
theorem h0_map : h0.map (Value.int .u64) = List.replicate 7424 (.int .u64 0) := List.map_replicate
theorem h0_len : h0.length = 7424 := List.length_replicate
theorem run_clear_gen (w : World) (g n : Nat) (hn : 0 < n) (L : List Value) (hz : (Builtin.zeroCells #[Value.int .u64 0] n).toList = L) (hL : L.length = n) (h1 : ∀ v ∈ L, v.oneCell' = true) (t : TypeId) (hH : w.heap[g]? = some (.cells L.toArray t (0, 0))) :
    (Builtin.clear_ #[40] 0 #[.slice (some ⟨g, 0, none⟩) n n]).run Tryz.prog w = .ok (.tuple #[]) w := by
  have hs := run_storeCells_from (P := Tryz.prog) g t L 0 L.toArray w hH (by simp) h1
  have hse : w.setRow g (L.toArray.toList.take 0 ++ L).toArray = w := by
    rw [List.take_zero, List.nil_append]; exact setRow_self w g _ _ (0, 0) hH
  rw [hse] at hs
  have hzv := Tryz.zeroValue29
  obtain ⟨m, rfl⟩ : ∃ m, n = m + 1 := ⟨n - 1, by omega⟩
  unfold Builtin.clear_
  simp only [Sem.run_bind, run_underlying Tryz.underlying40, hzv, Result.andThen, List.getElem?_toArray, List.getElem?_cons_zero, Value.cells, hz, hs, Sem.run_pure]
theorem run_clear (w : World) (g : Nat) (H : HistAt w g h0) : (Builtin.clear_ #[40] 0 #[.slice (some ⟨g, 0, none⟩) 7424 7424]).run Tryz.prog w = .ok (.tuple #[]) w := by
  refine run_clear_gen w g 7424 (by omega) (h0.map (Value.int .u64)) (by rw [h0_map]; exact zeroCells_one _ _) (by rw [List.length_map, h0_len]) (fun v hv => by obtain ⟨_, _, rfl⟩ := List.mem_map.1 hv; rfl) _ H.2.2

theorem C_hist_New (w : World) :
    Calls Tryz.prog 76 #[] w fun e w' => e = .returned (.pointer (some ⟨w.heap.size, 0, none⟩)) ∧ HistAt w' w.heap.size h0 ∧ Below w.heap.size w w' := by
  have H : HistAt (w.alloc (.cells Tryz.zeroCells130 130)) w.heap.size h0 := ⟨h0_len, h0_wf, by rw [zero_cells]; exact heap_alloc_new _ _⟩
  have hc := run_clear _ _ H
  have H' := Lib.hid H
  clear H
  go_enter Tryz.func76, Tryz.ntmps76
  go_wp2
  go_ret
  exact ⟨rfl, H'.out, (Below.refl _ _).alloc (Nat.le_refl _) _⟩

theorem Sl.bucket {ok : Nat → Prop} {w : World} {A : Option Addr} {xs : List Bucket} (h : Sl ok w A xs) {k : Nat} (hk : k < xs.length) :
    ∃ b off, A = some ⟨b, off, none⟩ ∧ ok b ∧ b < w.heap.size ∧ w.cell? ⟨b, off + k * 2, none⟩ = some (.int .i64 xs[k].at_) ∧ w.cell? ⟨b, off + k * 2 + 1, none⟩ = some (.int .u64 xs[k].n) ∧ I64 xs[k].at_ ∧ U64 xs[k].n := by
  obtain ⟨b, off, vs, e, ⟨rfl, hwf⟩, hc⟩ := h.at_ hk
  exact ⟨b, off, e, hc.1, hc.2.1, hc.c0, hc.c1, hwf.1, hwf.2⟩

/-- May these buckets be, behind one at 'last'? -/
def chk (last : Int) : List Bucket → Bool
  | [] => true
  | x :: xs => if x.at_ ≤ last ∨ 7424 ≤ x.at_ ∨ x.n = 0 then false else chk x.at_ xs
theorem C_hist_Check (ok : Nat → Prop) (A : Option Addr) (cap : Nat) (xs : List Bucket) (w : World) (hr : Sl ok w A xs) :
    Calls Tryz.prog 105 #[.slice A xs.length cap] w fun e w' => e = .returned (.bool (chk (-1) xs)) ∧ Below w.heap.size w w' := by
  have hlen := hr.1
  go_enter Tryz.func105, Tryz.ntmps105
  go_wp2
  go_loopw [2, 3, 5, 8] (fun r last x i wr => ∃ (k : Nat) (l : Int), k ≤ xs.length ∧ i = .int .i64 k ∧ last = .int .i64 l ∧ chk (-1) xs = chk l (xs.drop k) ∧ Below w.heap.size w wr) (fun _ _ _ i _ => xs.length - (intOf i).toNat)
  case atStart => exact ⟨0, -1, Nat.zero_le _, rfl, rfl, rfl, Below.refl _ _⟩
  case round =>
    obtain ⟨k, l, hk, rfl, rfl, hc, hb⟩ := hrel
    have HC := Lib.hid hc
    clear hc
    by_cases hlt : k < xs.length
    · obtain ⟨b, off, rfl, _, hbl, h1, h2, hi, hu⟩ := (hr.below hb).bucket hlt
      have hd : xs.drop k = xs[k] :: xs.drop (k+1) := List.drop_eq_getElem_cons hlt
      have HD := Lib.hid hd
      clear hd
      go_wp2
      all_goals first
        | (go_ret
           refine ⟨ret_b ?_, hb.alloc hb.size _⟩
           rw [HC.out, HD.out, chk, if_pos (by simp_all; try omega)])
        | (go_roundw
           case rel => exact ⟨k + 1, xs[k].at_, by omega, by go_num, rfl, by rw [HC.out, HD.out, chk, if_neg (by simp_all; try omega)], hb.alloc hb.size _⟩
           case measure => simp [intOf]; omega)
    · go_wp2
      go_ret
      refine ⟨ret_b ?_, hb⟩
      rw [HC.out, List.drop_eq_nil_of_le (by omega)]; rfl
end Go.Proofs.YtbefkiebdokbdaaGreat.V
end
