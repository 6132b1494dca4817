/- Part 4 of the proof: Hist2, Hist3. -/
import Derived.StillTailTactics
import Derived.Test.YtbefkiebdokbdaaGreatB3

section
/- Contracts of package hist: Merge, From, upto, Count, Buckets. -/
namespace Go.Proofs.YtbefkiebdokbdaaGreat.V
open Go.RowKit
set_option linter.unusedVariables false
set_option maxRecDepth 100000

/-- Buckets added. -/
def hAdd1 (h : List Int) (x : Bucket) : List Int := h.set x.at_.toNat (satAdd (h.getD x.at_.toNat 0) x.n)
def hAdd (h : List Int) (l : List Bucket) : List Int := l.foldl hAdd1 h
theorem hAdd1_wf {h : List Int} {x : Bucket} (hl : h.length = 7424) (hw : ∀ v ∈ h, U64 v) (hx : U64 x.n) : (hAdd1 h x).length = 7424 ∧ ∀ v ∈ hAdd1 h x, U64 v := by
  refine ⟨by rw [hAdd1, List.length_set]; exact hl, fun v hv => ?_⟩
  rcases List.mem_or_eq_of_mem_set hv with hv | rfl
  · exact hw v hv
  · refine satAdd_U64 ?_ hx
    rw [List.getD_eq_getElem?_getD]
    cases e : h[x.at_.toNat]? with
    | none => simp [U64]
    | some y => exact hw y (List.mem_of_getElem? e)
theorem chk_mem : ∀ {l : List Bucket} {last : Int}, chk last l = true → ∀ x ∈ l, last < x.at_ ∧ x.at_ < 7424 ∧ x.n ≠ 0
  | [], _, _, x, hx => by cases hx
  | y :: l, last, h, x, hx => by
    rw [chk] at h
    by_cases c : y.at_ ≤ last ∨ 7424 ≤ y.at_ ∨ y.n = 0
    · rw [if_pos c] at h; cases h
    · rw [if_neg c] at h
      rcases List.mem_cons.1 hx with rfl | hx
      · omega
      · have := chk_mem h x hx; omega
theorem HistAt.getU {w : World} {g : Nat} {h : List Int} (H : HistAt w g h) (i : Nat) : U64 (h.getD i 0) := by
  rw [List.getD_eq_getElem?_getD]
  cases e : h[i]? with
  | none => simp [U64]
  | some y => exact H.2.1 y (List.mem_of_getElem? e)

theorem hAdd_take (hs : List Int) (xs : List Bucket) {k : Nat} (hk : k < xs.length) : hAdd hs (xs.take (k + 1)) = hAdd1 (hAdd hs (xs.take k)) xs[k] := by
  unfold hAdd
  rw [List.take_succ_eq_append_getElem hk, List.foldl_append]; rfl
theorem HistAt.drew {w : World} {g : Nat} {h : List Int} (H : HistAt w g h) : HistAt w.drew g h := ⟨H.1, H.2.1, H.2.2⟩
theorem hAdd_wf : ∀ {l : List Bucket} {h : List Int}, h.length = 7424 → (∀ v ∈ h, U64 v) → (∀ x ∈ l, U64 x.n) → (hAdd h l).length = 7424 ∧ ∀ v ∈ hAdd h l, U64 v
  | [], h, hl, hw, _ => ⟨hl, hw⟩
  | x :: l, h, hl, hw, hx => by
    have := hAdd1_wf hl hw (hx x (by simp))
    exact hAdd_wf (l := l) (h := hAdd1 h x) this.1 this.2 (fun y hy => hx y (by simp [hy]))

theorem C_hist_Merge_no (ok : Nat → Prop) (g : Nat) (A : Option Addr) (cap : Nat) (xs : List Bucket) (w : World) (hr : Sl ok w A xs) (hc : chk (-1) xs = false) :
    Calls Tryz.prog 77 #[.pointer (some ⟨g, 0, none⟩), .slice A xs.length cap] w fun e w' => e = .returned (.int .i64 5) ∧ Below w.heap.size w w' := by
  go_enter Tryz.func77, Tryz.ntmps77
  go_wp2_with (go_at_call 105; refine (C_hist_Check ok _ _ xs _ hr).mono ?_; rintro e w' ⟨rfl, hb⟩)
  go_ret
  exact ⟨rfl, by assumption⟩

theorem C_hist_Merge (ok : Nat → Prop) (g : Nat) (hs : List Int) (A : Option Addr) (cap : Nat) (xs : List Bucket) (w : World) (hr : Sl ok w A xs) (hok : ∀ k, ok k → k ≠ g) (H : HistAt w g hs) (hc : chk (-1) xs = true) :
    Calls Tryz.prog 77 #[.pointer (some ⟨g, 0, none⟩), .slice A xs.length cap] w fun e w' => e = .returned (.int .i64 0) ∧ HistAt w' g (hAdd hs xs) ∧ w.grownBy w' (some g) := by
  have hlen := hr.1
  have hm := chk_mem hc
  have HM := Lib.hid hm
  clear hm
  go_enter Tryz.func77, Tryz.ntmps77
  go_wp2_with (go_at_call 105; refine (C_hist_Check ok _ _ xs _ hr).mono ?_; rintro e w1 ⟨rfl, hb1⟩)
  go_loopw [6, 16] (fun x i wr => ∃ (k : Nat), k ≤ xs.length ∧ i = .int .i64 k ∧ HistAt wr g (hAdd hs (xs.take k)) ∧ w.grownBy wr (some g)) (fun _ i _ => xs.length - (intOf i).toNat)
  case atStart => exact ⟨0, Nat.zero_le _, rfl, H.below (by assumption), gb_below (World.grownBy.refl _ _) (by assumption)⟩
  case round =>
    obtain ⟨k, hk, rfl, HH, hg⟩ := hrel
    by_cases hlt : k < xs.length
    · have hr2 : Sl ok wr (A) xs := hr.keep (Keeps.of_grown hg (fun j hj _ e => hok j hj (by cases e; rfl)))
      obtain ⟨b, off, rfl, hob, hbl, h1, h2, hi, hu⟩ := hr2.bucket hlt
      have hx := HM.out _ (List.getElem_mem hlt)
      have hx1 : 0 ≤ xs[k].at_ := by omega
      have hx2 : xs[k].at_ < 7424 := hx.2.1
      have hne : b ≠ g := hok _ hob
      have hgl := HH.lt
      clear hx
      go_wp2_with fail
      have HW := HH.alloc (.cells #[.int .i64 xs[k].at_, .int .u64 xs[k].n] 120)
      have hx0 : (wr.alloc (.cells #[.int .i64 xs[k].at_, .int .u64 xs[k].n] 120)).cell? ⟨wr.heap.size, 0, none⟩ = some (.int .i64 xs[k].at_) := by simp
      have hx3 : (wr.alloc (.cells #[.int .i64 xs[k].at_, .int .u64 xs[k].n] 120)).cell? ⟨wr.heap.size, 1, none⟩ = some (.int .u64 xs[k].n) := by simp
      have hgW := gb_alloc hg (.cells #[.int .i64 xs[k].at_, .int .u64 xs[k].n] 120)
      generalize hWe : wr.alloc (.cells #[.int .i64 xs[k].at_, .int .u64 xs[k].n] 120) = W at HW hx0 hx3 hgW
      have hcl := HW.cell xs[k].at_.toNat (by omega)
      have hfr := HW.frozen xs[k].at_.toNat
      have hgU := HW.getU xs[k].at_.toNat
      have hset := fun v hv => HW.set xs[k].at_.toNat v hv
      generalize hv : (hAdd hs (xs.take k)).getD xs[k].at_.toNat 0 = v at hcl hgU
      have HS := Lib.hid hset
      have HV := Lib.hid hv
      have HWe := Lib.hid hWe
      clear hv hset hWe HW h1 h2 HH hr2 hr
      refine wp_region_still_tail 16 (by kernel_rfl) (by kernel_rfl) ?_
      simp only [List.take_succ_cons, List.take_zero, List.drop_succ_cons, List.drop_zero]
      change wpStill _ _ W.drew _ _ _
      repeat still_step
      still_call ((C_wide_Add _ _ _ hgU hu).mono fun e w' h => ⟨h.1, h.2.symm⟩)
      repeat still_step
      refine wpStill_nil ?_
      change wpList _ _ _ _ _ W.drew
      go_wp2
      go_roundw
      case rel =>
        refine ⟨k + 1, by omega, by go_num, ?_, gb_drew (gb_set hgW _)⟩
        rw [hAdd_take hs xs hlt, hAdd1, HV.out]
        exact (HS.out _ (satAdd_U64 hgU hu)).drew
      case measure => simp [intOf]; omega
    · have hkk : k = xs.length := by omega
      rw [hkk, List.take_length] at HH
      go_wp2
      go_ret
      exact ⟨rfl, HH, hg⟩

theorem C_hist_From (ok : Nat → Prop) (A : Option Addr) (cap : Nat) (xs : List Bucket) (w : World) (hr : Sl ok w A xs) (hok : ∀ k, ok k → k < w.heap.size) (hc : chk (-1) xs = true) :
    Calls Tryz.prog 44 #[.slice A xs.length cap] w fun e w' => ∃ g, e = .returned (.tuple #[.pointer (some ⟨g, 0, none⟩), .int .i64 0]) ∧ HistAt w' g (hAdd h0 xs) ∧ w.heap.size ≤ g ∧ Below w.heap.size w w' := by
  go_enter Tryz.func44, Tryz.ntmps44
  go_wp2_with fail
  refine (C_hist_New _).mono ?_
  rintro e w1 ⟨rfl, hH, hb⟩
  go_wp2_with fail
  refine (C_hist_Merge ok _ h0 _ _ xs _ (hr.below hb) (fun k hk e => by have := hok k hk; omega) hH hc).mono ?_
  rintro e w2 ⟨rfl, hH2, hg2⟩
  go_wp2_with fail
  go_ret2
  exact ⟨_, rfl, hH2, Nat.le_refl _, gb_to_below hb hg2 (Nat.le_refl _)⟩

/-- The sum of the first places. -/
def hUp (h : List Int) (n : Nat) : Int := (h.take n).foldl satAdd 0
theorem hUp_succ (h : List Int) {n : Nat} (hn : n < h.length) : hUp h (n + 1) = satAdd (hUp h n) h[n] := by
  unfold hUp
  rw [List.take_succ_eq_append_getElem hn, List.foldl_append]; rfl
theorem foldl_sat_U64 : ∀ {l : List Int} {a : Int}, U64 a → (∀ x ∈ l, U64 x) → U64 (l.foldl satAdd a)
  | [], _, ha, _ => ha
  | x :: l, a, ha, h => foldl_sat_U64 (l := l) (satAdd_U64 ha (h x (by simp))) (fun y hy => h y (by simp [hy]))
theorem hUp_U64 {h : List Int} (hw : ∀ x ∈ h, U64 x) (n : Nat) : U64 (hUp h n) := foldl_sat_U64 (by unfold U64; omega) (fun x hx => hw x (List.mem_of_mem_take hx))

theorem C_hist_upto (g : Nat) (h : List Int) (n : Nat) (w : World) (H : HistAt w g h) (hn : n < 7424) :
    Calls Tryz.prog 80 #[.pointer (some ⟨g, 0, none⟩), .int .i64 n] w fun e w' => e = .returned (.int .u64 (hUp h (n + 1))) ∧ w = w' := by
  have HU := Lib.hid (hUp_U64 H.2.1)
  have hn0 : (0 : Int) ≤ (n : Int) + 1 := by omega
  have hn1 : (n : Int) + 1 ≤ 7424 := by omega
  go_enter Tryz.func80, Tryz.ntmps80
  go_wp2_with fail
  go_loop [5, 17] (fun sum i => ∃ (k : Nat), k ≤ n + 1 ∧ i = .int .i64 k ∧ sum = .int .u64 (hUp h k)) (fun _ i => n + 1 - (intOf i).toNat)
  case atStart => exact ⟨0, Nat.zero_le _, rfl, rfl⟩
  case round =>
    obtain ⟨k, hk, rfl, rfl⟩ := hrel
    by_cases hlt : k < n + 1
    · have hc := H.cell k (by omega)
      have hkl : k < h.length := by rw [H.1]; omega
      have hgd : h.getD k 0 = h[k] := by simp [hkl]
      rw [hgd] at hc
      have hs := hUp_succ h hkl
      have HS := Lib.hid hs
      have hu1 := HU.out k
      have hu2 := H.2.1 h[k] (List.getElem_mem hkl)
      clear hs hgd
      go_wp2_with (go_at_call 106; refine (C_wide_Add _ _ _ (by assumption) (by assumption)).mono ?_; rintro e w' ⟨rfl, rfl⟩)
      go_round
      case rel => exact ⟨k + 1, by omega, by go_num, by rw [HS.out]⟩
      case measure => simp [intOf]; omega
    · have hkk : k = n + 1 := by omega
      subst hkk
      go_wp2
      go_ret
      exact ⟨rfl, rfl⟩

def satErr (v : Int) : Int := if v = 18446744073709551615 then 11 else 0
theorem C_hist_Count (g : Nat) (h : List Int) (w : World) (H : HistAt w g h) :
    Calls Tryz.prog 47 #[.pointer (some ⟨g, 0, none⟩)] w fun e w' => e = .returned (.tuple #[.int .u64 (hUp h 7424), .int .i64 (satErr (hUp h 7424))]) ∧ w = w' := by
  generalize hv : hUp h 7424 = v
  have HV := Lib.hid hv
  clear hv
  by_cases hm : v = 18446744073709551615
  · have hb : (v == 18446744073709551615) = true := by simp [hm]
    have HM := Lib.hid hm
    clear hm
    go_enter Tryz.func47, Tryz.ntmps47
    go_wp2_with (go_at_call 80; refine (C_hist_upto g h 7423 _ H (by omega)).mono ?_; rw [HV.out]; rintro e w' ⟨rfl, rfl⟩)
    go_ret2
    exact ⟨by rw [satErr, if_pos HM.out, HM.out]; rfl, rfl⟩
  · have hb : (v == 18446744073709551615) = false := by simp [hm]
    have HM := Lib.hid hm
    clear hm
    go_enter Tryz.func47, Tryz.ntmps47
    go_wp2_with (go_at_call 80; refine (C_hist_upto g h 7423 _ H (by omega)).mono ?_; rw [HV.out]; rintro e w' ⟨rfl, rfl⟩)
    go_ret2
    exact ⟨by rw [satErr, if_neg HM.out]; rfl, rfl⟩
end Go.Proofs.YtbefkiebdokbdaaGreat.V
end

section
/- Contracts of package hist: Buckets. -/
namespace Go.Proofs.YtbefkiebdokbdaaGreat.V
open Go.RowKit
set_option linter.unusedVariables false
set_option maxRecDepth 100000

theorem run_index_hist (h : List Int) (hl : h.length = 7424) (k : Nat) (hk : k < 7424) (w : World) :
    (Instr.index 128 (.agg (h.map (Value.int .u64)).toArray) (.int .i64 k)).run Tryz.prog w = .ok (.int .u64 (h.getD k 0)) w := by
  have hi : (h.map (Value.int .u64))[k]? = some (.int .u64 (h.getD k 0)) := by
    have : k < h.length := by omega
    simp [this]
  generalize h.map (Value.int .u64) = L at hi
  unfold Instr.index
  simp only [asIntOf, Sem.run_bind, Sem.run_pure, Result.andThen, run_underlying Tryz.underlying128]
  rw [if_pos (by omega)]
  simp only [Sem.run_bind, Tryz.sizeOf29, Result.andThen, Nat.mul_one, Int.toNat_natCast]
  unfold part
  simp [hi, Tryz.isAgg29, Result.andThen]

theorem el_Bucket : ElemOf Tryz.prog 39 120 (Rep.sz Bucket) 16 := ElemOf.mk' (z := .agg #[.int .i64 0, .int .u64 0]) Tryz.underlying39 (by kernel_rfl) rfl

/-- The buckets of the first k places in which something was seen. -/
def hBk (h : List Int) : Nat → List Bucket
  | 0 => []
  | k + 1 => if 0 < h.getD k 0 then hBk h k ++ [⟨k, h.getD k 0⟩] else hBk h k
theorem hBk_len (h : List Int) : ∀ k, (hBk h k).length ≤ k
  | 0 => by simp [hBk]
  | k + 1 => by
    have := hBk_len h k
    rw [hBk]; split
    · simp; omega
    · omega

set_option maxHeartbeats 1000000 in
theorem C_hist_Buckets (g : Nat) (h : List Int) (w : World) (H : HistAt w g h) :
    Calls Tryz.prog 122 #[.pointer (some ⟨g, 0, none⟩)] w fun e w' => ∃ v, e = .returned v ∧ Own w' w.heap.size 120 v (hBk h 7424) ∧ Below w.heap.size w w' := by
  have hsz : (Tryz.prog.info? 128).map (·.size) = some (h.map (Value.int .u64)).toArray.size := by
    rw [List.size_toArray, List.length_map, H.1]; kernel_rfl
  have hix := run_index_hist h H.1
  have hb := H.2.2
  have hgU := fun k => H.getU k
  generalize ha : (h.map (Value.int .u64)).toArray = arr at hsz hix hb
  have HX := Lib.hid hix
  have HG := Lib.hid hgU
  clear hix ha hgU H
  go_enter Tryz.func122, Tryz.ntmps122
  go_wp2_with (refine wpList_load_row (o := ⟨some 12, _, _, _, _, _⟩) rfl 128 _ rfl g rfl 130 arr (0, 0) _ hb Tryz.underlying128 rfl hsz ?_)
  go_loopw [3, 4, 5, 13] (fun v a n i wr => ∃ (k : Nat), k ≤ 7424 ∧ i = .int .i64 k ∧ Own wr w.heap.size 120 v (hBk h k) ∧ Below w.heap.size w wr) (fun _ _ _ i _ => 7424 - (intOf i).toNat)
  case atStart => exact ⟨0, Nat.zero_le _, rfl, Own.nil _ _ _, Below.refl _ _⟩
  case round =>
    obtain ⟨k, hk, rfl, ho, hbl⟩ := hrel
    by_cases hlt : k < 7424
    · have hx := HX.out k hlt
      have hu := HG.out k
      have hl := hBk_len h k
      have hkk : hBk h (k + 1) = if 0 < h.getD k 0 then hBk h k ++ [⟨k, h.getD k 0⟩] else hBk h k := rfl
      generalize h.getD k 0 = n at hx hu hkk
      have HK := Lib.hid hkk
      clear hkk
      have hki : I64 (k : Int) := by unfold I64; omega
      by_cases hp : 0 < n
      · have e1 : hBk h (k + 1) = hBk h k ++ [⟨k, n⟩] := by rw [HK.out, if_pos hp]
        have E1 := Lib.hid e1
        clear e1
        go_wp2_with (at_builtin; go_loud (refine wpOwn_append1 [.int .i64 k, .int .u64 n] (⟨k, n⟩ : Bucket) rfl _ _ 39 120 120 16 w.heap.size rfl rfl el_Bucket rfl ho rfl ⟨rfl, ⟨hki, hu⟩⟩ (by omega) (by omega) hbl.size ?_))
        intro v' w1 ho1 hg1 hat
        go_wp2
        go_roundw
        case rel => exact ⟨k + 1, by omega, by go_num, by rw [E1.out]; exact ho1, hbl.grown hg1 hbl.size (fun j hj => by obtain ⟨cs, _, ho'⟩ := ho; exact (ho'.lt j hj).1)⟩
        case measure => simp [intOf]; omega
      · have e1 : hBk h (k + 1) = hBk h k := by rw [HK.out, if_neg hp]
        have E1 := Lib.hid e1
        clear e1
        go_wp2
        go_roundw
        case rel => exact ⟨k + 1, by omega, by go_num, by rw [E1.out]; exact ho, hbl⟩
        case measure => simp [intOf]; omega
    · have hkk : k = 7424 := by omega
      rw [hkk] at ho
      go_wp2
      go_ret
      exact ⟨_, rfl, ho, hbl⟩
end Go.Proofs.YtbefkiebdokbdaaGreat.V
end
