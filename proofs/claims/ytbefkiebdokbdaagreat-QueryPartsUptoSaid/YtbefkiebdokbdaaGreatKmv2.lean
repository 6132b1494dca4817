/- Contracts of package kmv: Check, greatest. -/
import Derived.Test.YtbefkiebdokbdaaGreatKmv
namespace Go.Proofs.YtbefkiebdokbdaaGreat.V
open Go.RowKit Go.Maps Go.WideElems
set_option linter.unusedVariables false
set_option maxRecDepth 100000

instance (l : List Int) : Decidable (Rising l) := by unfold Rising; infer_instance
def kchk (l : List Int) : Bool := decide (l.length ≤ 1024 ∧ Rising l)
theorem rising_of_next {l : List Int} (h : ∀ j, (hj : j + 1 < l.length) → l[j] < l[j + 1]) : Rising l := by
  unfold Rising
  rw [List.pairwise_iff_getElem]
  intro i j hi hj hij
  induction j with
  | zero => omega
  | succ j ih =>
    have h1 := h j hj
    by_cases e : i = j
    · subst e; exact h1
    · have := ih (by omega) (by omega); omega

theorem C_kmv_Check (ok : Nat → Prop) (A : Option Addr) (cap : Nat) (xs : List Int) (w : World) (hr : Sl ok w A xs) :
    Calls Tryz.prog 45 #[.slice A xs.length cap] w fun e w' => e = .returned (.bool (kchk xs)) ∧ Below w.heap.size w w' := by
  have hlen := hr.1
  go_enter Tryz.func45, Tryz.ntmps45
  go_wp2
  go_loopw [3] (fun i wr => ∃ (k : Nat), k ≤ 1024 ∧ i = .int .i64 ((k : Int) + 1) ∧ (∀ j, (hj : j + 1 < xs.length) → j < k → xs[j] < xs[j + 1]) ∧ Below w.heap.size w wr) (fun i _ => 1025 - (intOf i).toNat)
  case atStart => exact ⟨0, by omega, rfl, fun j hj h => by omega, Below.refl _ _⟩
  case round =>
    obtain ⟨k, hk2, rfl, hpre, hb⟩ := hrel
    have HP := Lib.hid hpre
    clear hpre
    by_cases hlt : k + 1 < xs.length
    · by_cases hle : k + 1 ≤ 1024
      · obtain ⟨b, off, rfl, _, hbl, h1, hu1⟩ := (hr.below hb).num hlt
        obtain ⟨b', off', e, _, hbl', h2, hu2⟩ := (hr.below hb).num (k := k) (by omega)
        cases e
        have e1 : ((k : Int) + 1).toNat = k + 1 := by omega
        generalize ha : xs[k + 1] = a at h1 hu1
        generalize hc : xs[k] = c at h2 hu2
        have HA := Lib.hid ha
        have HC := Lib.hid hc
        clear ha hc
        by_cases hac : a ≤ c
        · go_wp2_with fail
          go_region
          all_goals (go_wp2; go_ret)
          all_goals refine ⟨ret_b ?_, by (repeat (first | exact Below.refl _ _ | assumption | refine Below.drew ?_ | refine Below.alloc ?_ (by simp <;> omega) _ | refine Below.setCell ?_ (by simp <;> omega) _))⟩
          all_goals
            symm
            rw [kchk, decide_eq_false_iff_not]
            rintro ⟨_, hR⟩
            have := List.pairwise_iff_getElem.1 hR k (k + 1) (by omega) hlt (by omega)
            rw [HA.out, HC.out] at this
            omega
        · go_wp2_with fail
          go_region
          all_goals go_wp2
          all_goals go_roundw
          case rel => exact ⟨k + 1, by omega, by go_num, fun j hj h => by
            by_cases e : j = k
            · subst e; rw [HA.out, HC.out]; omega
            · exact HP.out j hj (by omega), by (repeat (first | exact Below.refl _ _ | assumption | refine Below.drew ?_ | refine Below.alloc ?_ (by simp <;> omega) _ | refine Below.setCell ?_ (by simp <;> omega) _))⟩
          case measure => simp [intOf]; omega
      · go_wp2
        go_ret
        refine ⟨ret_b ?_, by (repeat (first | exact Below.refl _ _ | assumption | refine Below.drew ?_ | refine Below.alloc ?_ (by simp <;> omega) _ | refine Below.setCell ?_ (by simp <;> omega) _))⟩
        rw [kchk]
        have h1 : decide (xs.length ≤ 1024 ∧ Rising xs) = false := by rw [decide_eq_false_iff_not]; omega
        rw [h1]; simp; omega
    · go_wp2
      go_ret
      refine ⟨ret_b ?_, by (repeat (first | exact Below.refl _ _ | assumption | refine Below.drew ?_ | refine Below.alloc ?_ (by simp <;> omega) _ | refine Below.setCell ?_ (by simp <;> omega) _))⟩
      rw [kchk]
      have hR := rising_of_next (l := xs) (fun j hj => HP.out j hj (by omega))
      simp [hR]; omega

theorem zeroI (w : World) : (zeroValue 3).run Tryz.prog w = .ok (.int .i64 0) w := by kernel_rfl
theorem has_of_left {w : World} {m r n : Nat} {D : DataW Unit} {left : Lit → Bool} {cnt : Nat} (h : w.ranges Tryz.prog 29 (plainElem Tryz.prog 3) m r n D left cnt) {y : Int} (hl : left (lit y) = true) : Maps.has D (lit y) = true := by
  obtain ⟨es, clock, since, seen, c0, _, _, _, rfl, _, _, _, _, hk, _⟩ := h
  obtain ⟨x, hx, ex⟩ := hk _ hl
  rw [has_eq, List.any_eq_true]
  exact ⟨rg Tryz.prog 29 (plainElem Tryz.prog 3) x, by rw [mem_sorted]; exact List.mem_map_of_mem hx, by
    rw [ex]; simp [lit, Lit.sameKey]⟩

set_option maxHeartbeats 1000000 in
theorem C_kmv_greatest (g m n : Nat) (top : Value) (D : DataW Unit) (ks : List Int) (w : World) (hb : w.cell? ⟨g, 0, none⟩ = some (.map (some m))) (ho : w.ownsMap Tryz.prog 29 (plainElem Tryz.prog 3) m n D) (hD : KD D ks) (hu : ∀ x ∈ ks, U64 x) (h0 : ks ≠ []) :
    Calls Tryz.prog 136 #[.pointer (some ⟨g, 0, none⟩)] w fun e w' => ∃ v, e = .returned (.int .u64 v) ∧ v ∈ ks ∧ (∀ x ∈ ks, x ≤ v) ∧ Below w.heap.size w w' := by
  go_enter Tryz.func136, Tryz.ntmps136
  go_wp2
  go_step3
  go_wp2
  go_step3
  go_wp2_with (at_range; refine wpList_range_own _ rfl _ 169 rfl 29 3 kk Tryz.underlying169 _ m n _ rfl ho ?_; intro w0 hrg0 hg0 hs0)
  go_frame
  go_loopw [3, 4] (fun v _ wr => ∃ (left : Lit → Bool) (cnt : Nat) (y : Int), v = .int .u64 y ∧ U64 y ∧ wr.ranges Tryz.prog 29 (plainElem Tryz.prog 3) m w.heap.size n D left cnt ∧ (∀ x ∈ ks, left (lit x) = false → x ≤ y) ∧ (y ∈ ks ∨ y = 0) ∧ Below w.heap.size w wr)
    (fun _ _ wr => wr.rangeLeft m w.heap.size)
  case atStart => exact ⟨_, _, 0, rfl, by unfold U64; omega, hrg0, fun x hx hl => by rw [hD.has] at hl; simp [hx] at hl, .inr rfl, (Below.refl _ _).grown hg0 (Nat.le_refl _) (fun j hj => by cases hj)⟩
  case round =>
    obtain ⟨left, cnt, y, rfl, hy, hrg, hall, hin, hbl⟩ := hrel
    have HA := Lib.hid hall
    clear hall
    go_wp2_with (at_next; refine wpList_next_ranges_ii _ rfl _ rfl 29 3 .u64 .i64 kk Tryz.underlying29 Tryz.underlying3 m w.heap.size n _ _ _ rfl hrg ?_ ?_)
    · intro hc0 hl0
      go_wp2
      rw [Exit.noGoto_ret]
      go_ret
      refine ⟨y, rfl, ?_, fun x hx => HA.out x hx (hl0 _), hbl⟩
      rcases hin with h | h
      · exact h
      · obtain ⟨x, hx⟩ := List.exists_mem_of_ne_nil ks h0
        have h1 := HA.out x hx (hl0 _)
        have h2 := (hu x hx).1
        have : x = y := by omega
        exact this ▸ hx
    · intro x c w1 cnt1 hwx hwc hlx hat hrg1 hlt hg1 hs1 hen
      have hxk : x ∈ ks := by
        have := has_of_left hrg hlx
        rw [hD.has] at this
        simpa using this
      have hb1 : Below w.heap.size w w1 := hbl.grown hg1 hbl.size (fun j hj => by cases hj; exact Nat.le_refl _)
      have hst : ∀ z, (left z && !z.sameKey (lit x)) = false → left z = false ∨ z.sameKey (lit x) = true := by
        intro z; cases left z <;> cases z.sameKey (lit x) <;> simp
      by_cases hxy : x ≤ y
      · go_wp2
        go_roundw
        case rel => exact ⟨_, cnt1, y, rfl, hy, hrg1, fun z hz hl => by
          rcases hst _ hl with h | h
          · exact HA.out z hz h
          · have : z = x := by simpa [lit, Lit.sameKey] using h
            omega, hin, hb1⟩
        case measure => rw [hrg1.left_eq, hrg.left_eq]; exact hlt
      · go_wp2
        go_roundw
        case rel => exact ⟨_, cnt1, x, rfl, hu x hxk, hrg1, fun z hz hl => by
          rcases hst _ hl with h | h
          · have := HA.out z hz h; omega
          · have : z = x := by simpa [lit, Lit.sameKey] using h
            omega, .inl hxk, hb1⟩
        case measure => rw [hrg1.left_eq, hrg.left_eq]; exact hlt
end Go.Proofs.YtbefkiebdokbdaaGreat.V
