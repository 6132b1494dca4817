/- Part 13 of the proof: Sort6. -/
import Derived.Test.YtbefkiebdokbdaaGreatB10
import Derived.Test.YtbefkiebdokbdaaGreatB12

section
/- slices.Sort at uint64 on a slice that the call owns: what it leaves; the hashes of a Kmv, in order. -/
namespace Go.Proofs.YtbefkiebdokbdaaGreat.V
open Go.RowKit Go.Maps Go.WideElems
set_option linter.unusedVariables false
set_option maxRecDepth 100000

theorem insertion_nil (p : Option Addr) (cap : Nat) (w : World) :
    Calls Tryz.prog 140 #[.slice p 0 cap, .int .i64 0, .int .i64 0] w fun e w' => e = .returned (.tuple #[]) ∧ w = w' := by
  go_enter Tryz.func140, Tryz.ntmps140
  go_wp2
  refine wp_loop_rounds 1 ?_
  rw [rounds_succ]
  go_wp2
  go_end0
  exact ⟨rfl, rfl⟩
theorem pdq_nil (p : Option Addr) (cap : Nat) (w : World) :
    Calls Tryz.prog 137 #[.slice p 0 cap, .int .i64 0, .int .i64 0, .int .i64 0] w fun e w' => e = .returned (.tuple #[]) ∧ w = w' := by
  go_enter Tryz.func137, Tryz.ntmps137
  go_wp2
  refine wp_loop_rounds 1 ?_
  rw [rounds_succ]
  go_wp2_with (go_at_call 140; refine (insertion_nil p cap _).mono ?_; rintro e w' ⟨rfl, rfl⟩)
  refine bodyPost_ret (results_none rfl _ _ _) rfl ?_
  exact ⟨rfl, rfl⟩
theorem C_Sort_nil (p : Option Addr) (cap : Nat) (w : World) :
    Calls Tryz.prog 133 #[.slice p 0 cap] w fun e w' => e = .returned (.tuple #[]) ∧ w = w' := by
  have hLen : ∀ w, Calls Tryz.prog 138 #[.int .u64 0] w fun e w' => e = .returned (.int .i64 0) ∧ w' = w := fun w => SoU.bits_Len 0 w (by omega) (by omega)
  go_enter Tryz.func133, Tryz.ntmps133
  go_wp2_with (first
    | (go_at_call 138; refine (hLen _).mono ?_; rintro e w' ⟨rfl, rfl⟩)
    | (go_at_call 137; refine (pdq_nil p cap _).mono ?_; rintro e w' ⟨rfl, rfl⟩))
  go_end0
  exact ⟨rfl, rfl⟩

def sortI (l : List Int) : List Int := l.mergeSort (fun x y => decide (x ≤ y))
theorem sortI_perm (l : List Int) : (sortI l).Perm l := List.mergeSort_perm l _
theorem sortI_sorted (l : List Int) : (sortI l).Pairwise (· ≤ ·) := by
  have := List.pairwise_mergeSort (le := fun x y : Int => decide (x ≤ y)) (fun a b c h1 h2 => by simp at *; omega) (fun a b => by simp; omega) l
  exact this.imp (fun h => by simpa using h)
/-- Two rising lists of the same members are one. -/
theorem rising_ext : ∀ {l l' : List Int}, Rising l → Rising l' → (∀ x, x ∈ l ↔ x ∈ l') → l = l'
  | [], [], _, _, _ => rfl
  | [], y :: l', _, _, h => by have := (h y).2 (by simp); cases this
  | x :: l, [], _, _, h => by have := (h x).1 (by simp); cases this
  | x :: l, y :: l', h1, h2, h => by
    obtain ⟨a1, a2⟩ := List.pairwise_cons.1 h1
    obtain ⟨b1, b2⟩ := List.pairwise_cons.1 h2
    have e : x = y := by
      rcases List.mem_cons.1 ((h x).1 (by simp)) with e | hx
      · exact e
      · rcases List.mem_cons.1 ((h y).2 (by simp)) with e | hy
        · exact e.symm
        · have := a1 y hy; have := b1 x hx; omega
    subst e
    rw [rising_ext a2 b2 (fun z => ⟨fun hz => ?_, fun hz => ?_⟩)]
    · rcases List.mem_cons.1 ((h z).1 (by simp [hz])) with e | hz'
      · subst e; have := a1 z hz; omega
      · exact hz'
    · rcases List.mem_cons.1 ((h z).2 (by simp [hz])) with e | hz'
      · subst e; have := b1 z hz; omega
      · exact hz'
theorem sortI_eq {l ks : List Int} (hk : Rising ks) (hn : l.Nodup) (hm : ∀ x, x ∈ l ↔ x ∈ ks) : sortI l = ks := by
  refine rising_ext ?_ hk (fun x => ((sortI_perm l).mem_iff).trans (hm x))
  have hs := sortI_sorted l
  have hn' : (sortI l).Nodup := (sortI_perm l).nodup_iff.2 hn
  exact (hs.and hn').imp (fun h => by omega)

theorem Reps.nums {ok : Nat → Prop} {w : World} : ∀ {ys : List Int}, (∀ y ∈ ys, U64 y) → Reps ok w (ys.map (Value.int .u64)) ys
  | [], _ => .nil
  | y :: ys, h => Reps.cons (vs := [.int .u64 y]) ⟨rfl, h y (by simp)⟩ (Reps.nums (ys := ys) (fun z hz => h z (by simp [hz])))
theorem Reps.nums_eq {ok : Nat → Prop} {w : World} {cs : List Value} {ys : List Int} (h : Reps ok w cs ys) : cs = ys.map (Value.int .u64) ∧ ∀ y ∈ ys, U64 y := by
  induction h with
  | nil => exact ⟨rfl, fun y hy => by cases hy⟩
  | cons h _ ih =>
    obtain ⟨rfl, hu⟩ := h
    refine ⟨by rw [ih.1]; rfl, fun y hy => ?_⟩
    rcases List.mem_cons.1 hy with rfl | hy
    · exact hu
    · exact ih.2 y hy
/-- The world behind the sort of an owned row. -/
theorem Own.sorted {w w' : World} {base e : Nat} {g n cap : Nat} {xs ys : List Int} {k : Nat} {os : Array Obj} (h : Own w base e (.slice (some ⟨g, 0, none⟩) n cap) xs) (hl : ys.length = xs.length) (hu : ∀ y ∈ ys, U64 y)
    (hw : w' = Sort.grow (Sort.putRow (Value.int .u64) (Sort.ahead w k) g 0 ys.toArray) os) : Own w' base e (.slice (some ⟨g, 0, none⟩) n cap) ys ∧ w.grownBy w' (some g) := by
  obtain ⟨cs, hr, h1, h2⟩ := h
  rcases h2 with ⟨hv, _⟩ | ⟨g', cap', cur, hv, hb, hh, hn, hm, hs, ht⟩
  · cases hv
  · cases hv
    have hgl : g < w.heap.size := (Array.getElem?_eq_some_iff.1 hh).1
    have hgb : w.grownBy w' (some g) := by
      subst hw
      refine ⟨rfl, rfl, rfl, by simp [Sort.grow, Sort.putRow, Sort.mapBlock], fun j hj hne => ?_⟩
      rw [Sort.heap_grow_old _ _ (by simpa using hj)]
      show (w.heap.modify g _)[j]? = _
      rw [Array.getElem?_modify, if_neg (fun c => hne (by rw [c]))]
    have hz : Rep.sz Int = 1 := rfl
    rw [hz, Nat.mul_one] at hs ht
    have hh' : w'.heap[g]? = some (.cells (Sort.putCells (Value.int .u64) 0 ys.toArray cur) e (0, 0)) := by
      subst hw
      rw [Sort.heap_grow_old _ _ (by simpa using hgl)]
      show (w.heap.modify g _)[g]? = _
      rw [Array.getElem?_modify, if_pos rfl, hh]
      rfl
    refine ⟨⟨ys.map (Value.int .u64), Reps.nums hu, ?_, .inr ⟨g, cap, _, by rw [hl], hb, hh', by omega, hm, ?_, ?_⟩⟩, hgb⟩
    · rw [List.length_map, hz, Nat.mul_one]
    · rw [hz, Nat.mul_one]; simp [Sort.putCells]; omega
    · rw [hz, Nat.mul_one]
      apply List.ext_getElem?
      intro i
      rw [List.getElem?_take, Array.getElem?_toList, List.getElem?_map]
      unfold Sort.putCells
      by_cases hi : i < ys.length
      · rw [if_pos hi]
        have hic : i < cur.size := by omega
        simp [hi, hic]
      · rw [if_neg hi, List.getElem?_eq_none (by omega)]; rfl

theorem C_slices_Sort (base e : Nat) (v : Value) (xs : List Int) (w : World) (h : Own w base e v xs) (hlen : xs.length < 4611686018427387904) :
    Calls Tryz.prog 133 #[v] w fun e' w' => e' = .returned (.tuple #[]) ∧ Own w' base e v (sortI xs) ∧ w.grownBy w' v.ownBlock := by
  have h' := h
  obtain ⟨cs, hr, h1, h2⟩ := h
  rcases h2 with ⟨rfl, h0⟩ | ⟨g, cap, cur, rfl, hb, hh, hn, hm, hs, ht⟩
  · have hx : xs = [] := List.eq_nil_of_length_eq_zero h0
    subst hx
    refine (C_Sort_nil none 0 w).mono ?_
    rintro e' w' ⟨rfl, rfl⟩
    have hs : sortI [] = [] := by simp [sortI]
    rw [hs]
    exact ⟨rfl, h', World.grownBy.refl _ _⟩
  · obtain ⟨hc, hu⟩ := hr.nums_eq
    have hz : Rep.sz Int = 1 := rfl
    rw [hz, Nat.mul_one] at hs ht
    have hH : Sort.Holds (Value.int .u64) w g 0 xs.toArray := by
      intro j hj
      have hj' : j < xs.length := by simpa using hj
      have hcur : cur[j]? = some (.int .u64 xs[j]) := by
        have : (cur.toList.take xs.length)[j]? = cs[j]? := by rw [ht]
        rw [List.getElem?_take, if_pos hj', hc, Array.getElem?_toList] at this
        rw [this]; simp [hj']
      refine ⟨?_, by simp [World.frozen?, hh]⟩
      rw [Nat.zero_add]
      simp only [World.cell?, hh]
      simp [hcur, getElem!_pos, hj']
    refine (SoU.slices_Sort_int g 0 cap xs w hH (Array.getElem?_eq_some_iff.1 hh).1 hlen).mono ?_
    rintro e' w' ⟨rfl, k, os, hw⟩
    have := Own.sorted h' (ys := sortI xs) (sortI_perm xs).length_eq (fun y hy => hu y ((sortI_perm xs).mem_iff.1 hy)) hw
    exact ⟨rfl, this.1, this.2⟩

theorem el_U64 : ElemOf Tryz.prog 40 29 (Rep.sz Int) 8 := ElemOf.mk' (z := .int .u64 0) Tryz.underlying40 (by kernel_rfl) rfl
set_option maxHeartbeats 2000000 in
theorem C_kmv_Hashes (g m : Nat) (ks : List Int) (w : World) (H : KmvAt w g m ks) :
    Calls Tryz.prog 123 #[.pointer (some ⟨g, 0, none⟩)] w fun e w' => ∃ v, e = .returned v ∧ Own w' w.heap.size 29 v ks ∧ Below w.heap.size w w' := by
  obtain ⟨n, top, D, hne, hb, ho, hn, hD, hR, hu, hl, ht, htop⟩ := H
  have hB : KBlk w g m top := hb
  have hc0 := hB.c0
  have hml := ho.lt
  clear htop
  go_enter Tryz.func123, Tryz.ntmps123
  go_wp2_with (at_range; refine wpList_range_own _ rfl _ 169 rfl 29 3 kk Tryz.underlying169 _ m n _ rfl ho ?_; intro w0 hrg0 hg0 hs0)
  go_frame
  go_loopw [3, 4] (fun v _ wr => ∃ (left : Lit → Bool) (cnt : Nat) (ys : List Int), Own wr (w.heap.size + 1) 29 v ys ∧ ys.length + cnt ≤ 1024 ∧ wr.ranges Tryz.prog 29 (plainElem Tryz.prog 3) m w.heap.size n D left cnt ∧ ys.Nodup ∧ (∀ x, x ∈ ys ↔ x ∈ ks ∧ left (lit x) = false) ∧ Below w.heap.size w wr ∧ w.heap.size + 1 ≤ wr.heap.size)
    (fun _ _ wr => wr.rangeLeft m w.heap.size)
  case atStart =>
    refine ⟨_, _, [], Own.nil _ _ _, ?_, hrg0, List.nodup_nil, fun x => ?_, (Below.refl _ _).grown hg0 (Nat.le_refl _) (fun j hj => by cases hj), by omega⟩
    · rw [hD.size]; simpa using hl
    · rw [hD.has]; simp
  case round =>
    obtain ⟨left, cnt, ys, hown, hcnt, hrg, hnd, hmem, hbl, hsz⟩ := hrel
    have HM := Lib.hid hmem
    clear hmem
    go_wp2_with (at_next; refine wpList_next_ranges_ii _ rfl _ rfl 29 3 .u64 .i64 kk Tryz.underlying29 Tryz.underlying3 m w.heap.size n _ _ _ rfl hrg ?_ ?_)
    · intro hc0 hl0
      have hso : sortI ys = ks := sortI_eq hR hnd (fun x => by rw [HM.out x]; simp [hl0])
      have HS := Lib.hid hso
      clear hso
      go_wp2_with fail
      refine (C_slices_Sort _ _ _ ys _ hown (by omega)).mono ?_
      rintro e w2 ⟨rfl, ho2, hg2⟩
      rw [HS.out] at ho2
      go_wp2
      go_ret
      exact ⟨_, rfl, ho2.lower (by omega), hbl.grown hg2 hbl.size (fun j hj => by obtain ⟨cs, _, ho'⟩ := hown; have := (ho'.lt j hj).1; omega)⟩
    · intro x c w1 cnt1 hwx hwc hlx hat hrg1 hlt hg1 hs1 hen
      have hxk : x ∈ ks := by
        have := has_of_left hrg hlx
        rw [hD.has] at this
        simpa using this
      have hux := hu x hxk
      have hxy : x ∉ ys := fun c => by have := ((HM.out x).1 c).2; rw [show lit x = Lit.int .u64 x from rfl, hlx] at this; cases this
      have hown1 : Own w1 (w.heap.size + 1) 29 u3 ys := by
        obtain ⟨cs, hr, ho'⟩ := hown
        obtain ⟨ec, hu'⟩ := hr.nums_eq
        refine ⟨cs, by rw [ec]; exact Reps.nums hu', ho'.kept hg1 ?_⟩
        rcases hv : Value.ownBlock u3 with _ | j
        · exact .inl rfl
        · refine .inr (fun e => ?_)
          have := (ho'.lt j hv).1
          cases e; omega
      have hb1 : Below w.heap.size w w1 := hbl.grown hg1 hbl.size (fun j hj => by cases hj; exact Nat.le_refl _)
      have hA1 : ys.length + 1 ≤ 9223372036854775807 := by omega
      have hA2 : (ys.length + 1) * 8 ≤ 140737488355328 := by omega
      have hA3 : w.heap.size + 1 ≤ w1.heap.size := by omega
      have hob : ∀ j, u3.ownBlock = some j → w.heap.size + 1 ≤ j := fun j hj => by obtain ⟨cs, _, ho'⟩ := hown; exact (ho'.lt j hj).1
      have hle := hrg.left_eq
      have HL := Lib.hid hlt
      have HG := Lib.hid hrg1
      clear hlt hrg1 hrg hown hat
      go_wp2_with (at_builtin; (refine wpOwn_append1 [.int .u64 x] x rfl _ _ 40 29 29 8 (w.heap.size + 1) rfl rfl el_U64 rfl hown1 (by rw [hs1]; rfl) ⟨rfl, hux⟩ hA1 hA2 hA3 ?_))
      intro v' w2 ho2 hg2 hat2
      go_wp2
      go_roundw
      case rel =>
        refine ⟨_, cnt1, ys ++ [x], ho2, by simp; have := HL.out; omega, HG.out.kept hg2 (fun e => by have := hob m e.symm; omega) (fun e => by have := hob _ e.symm; omega), ?_, fun z => ?_, hb1.grown hg2 hb1.size (fun j hj => by have := hob j hj; omega), ?_⟩
        · rw [List.nodup_append]
          exact ⟨hnd, by simp, fun a ha b hb => by simp at hb; subst hb; intro e; exact hxy (e ▸ ha)⟩
        · rw [List.mem_append, HM.out z]
          have hst : (left (lit z) && !(lit z).sameKey (Lit.int .u64 x)) = false ↔ (left (lit z) = false ∨ z = x) := by
            rw [show (lit z).sameKey (Lit.int .u64 x) = decide (z = x) from by simp [lit, Lit.sameKey]]
            cases left (lit z) <;> simp
          rw [hst]
          constructor
          · rintro (⟨h1, h2⟩ | h)
            · exact ⟨h1, .inl h2⟩
            · have : z = x := by simpa using h
              exact ⟨this ▸ hxk, .inr this⟩
          · rintro ⟨h1, h2 | h2⟩
            · exact .inl ⟨h1, h2⟩
            · exact .inr (by simp [h2])
        · have := hg2.size; omega
      case measure => rw [(HG.out.kept hg2 (fun e => by have := hob m e.symm; omega) (fun e => by have := hob _ e.symm; omega)).left_eq, hle]; exact HL.out
end Go.Proofs.YtbefkiebdokbdaaGreat.V
end
