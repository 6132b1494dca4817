/- Part 11 of the proof: Kmv, Kmv2. -/
import Derived.Maps.OwnSet
import Derived.Maps.RangeWalk
import Derived.Maps.Ext
import Derived.Deep.QuietTactic
import Derived.BigQuiet
import Derived.Test.YtbefkiebdokbdaaGreatB1
import Derived.Test.YtbefkiebdokbdaaGreatB3

section
/- The least hashes as a sorted list; the block of a Kmv; contracts of package kmv: Check, New, greatest. -/
namespace Go.Proofs.YtbefkiebdokbdaaGreat.V
open Go.RowKit Go.Maps
set_option linter.unusedVariables false
set_option maxRecDepth 100000

/-! ### Frames: all blocks but those of S are as they were -/
structure Frm (S : Nat → Prop) (w w' : World) : Prop where
  os : w'.os = w.os
  tape : w'.tape = w.tape
  output : w'.output = w.output
  size : w.heap.size ≤ w'.heap.size
  block : ∀ k, k < w.heap.size → ¬ S k → w'.heap[k]? = w.heap[k]?
section
variable {S S' : Nat → Prop} {w w' w'' : World}
theorem Frm.refl (S : Nat → Prop) (w : World) : Frm S w w := ⟨rfl, rfl, rfl, Nat.le_refl _, fun _ _ _ => rfl⟩
theorem Frm.trans (h : Frm S w w') (k : Frm S w' w'') : Frm S w w'' :=
  ⟨k.os.trans h.os, k.tape.trans h.tape, k.output.trans h.output, Nat.le_trans h.size k.size, fun i hi hn => (k.block i (Nat.lt_of_lt_of_le hi h.size) hn).trans (h.block i hi hn)⟩
theorem Frm.mono (h : Frm S w w') (hs : ∀ k, k < w.heap.size → S k → S' k) : Frm S' w w' := ⟨h.os, h.tape, h.output, h.size, fun i hi hn => h.block i hi (fun c => hn (hs i hi c))⟩
theorem Frm.of_below (h : Below w.heap.size w w') : Frm S w w' := ⟨h.os, h.tape, h.output, h.size, fun i hi _ => h.block i hi⟩
theorem Frm.of_grown {g : Nat} (h : w.grownBy w' (some g)) (hs : S g) : Frm S w w' := ⟨h.os, h.tape, h.output, h.size, fun i hi hn => h.block i hi (fun e => hn (by cases e; exact hs))⟩
theorem Frm.of_grown0 (h : w.grownBy w' none) : Frm S w w' := ⟨h.os, h.tape, h.output, h.size, fun i hi hn => h.block i hi (fun e => by cases e)⟩
theorem Frm.alloc (h : Frm S w w') (o : Obj) : Frm S w (w'.alloc o) := h.trans (.of_below ((Below.refl _ _).alloc (Nat.le_refl _) o))
theorem Frm.drew (h : Frm S w w') : Frm S w w'.drew := ⟨h.os, h.tape, h.output, h.size, h.block⟩
theorem Frm.set (h : Frm S w w') {p : Addr} (hp : w.heap.size ≤ p.block ∨ S p.block) (u : Value) : Frm S w (w'.setCell p u) := by
  refine ⟨h.os, h.tape, h.output, Nat.le_trans h.size (by simp [World.setCell]), fun i hi hn => (Below.heap_setCell _ _ _ _ ?_).trans (h.block i hi hn)⟩
  intro e
  subst e
  rcases hp with hp | hp
  · omega
  · exact hn hp
theorem Frm.below {B : Nat} (h : Frm S w w') (hB : B ≤ w.heap.size) (hs : ∀ k, k < w.heap.size → S k → B ≤ k) : Below B w w' :=
  ⟨h.os, h.tape, h.output, h.size, fun k hk => h.block k (by omega) (fun c => by have := hs k (by omega) c; omega)⟩
/-- Where the blocks written were made since. -/
theorem Frm.to_below {w0 : World} (hb : Below w0.heap.size w0 w) (h : Frm S w w') (hs : ∀ k, k < w.heap.size → S k → w0.heap.size ≤ k) : Below w0.heap.size w0 w' := hb.trans (h.below hb.size hs)
theorem Frm.keeps {ok : Nat → Prop} (h : Frm S w w') (hn : ∀ k, k < w.heap.size → ok k → ¬ S k) : Keeps ok w w' := ⟨h.size, fun k hk hl => h.block k hl (hn k hl hk)⟩
theorem Frm.cell (h : Frm S w w') {p : Addr} (hp : p.block < w.heap.size) (hn : ¬ S p.block) : w'.cell? p = w.cell? p := World.cell?_of_block (h.block p.block hp hn)
theorem Frm.frozen (h : Frm S w w') {p : Addr} (hp : p.block < w.heap.size) (hn : ¬ S p.block) : w'.frozen? p = w.frozen? p := World.frozen?_of_block (h.block p.block hp hn)
end
theorem HistAt.frm {S : Nat → Prop} {w w' : World} {g : Nat} {h : List Int} (H : HistAt w g h) (hf : Frm S w w') (hn : ¬ S g) : HistAt w' g h := ⟨H.1, H.2.1, by rw [hf.block g H.lt hn]; exact H.2.2⟩

/-! ### Sorted lists of hashes -/
def Rising : List Int → Prop := List.Pairwise (· < ·)
/-- Put in, in order, once. -/
def kPut (h : Int) : List Int → List Int
  | [] => [h]
  | x :: l => if h < x then h :: x :: l else if h = x then x :: l else x :: kPut h l
theorem kPut_mem (h : Int) : ∀ (l : List Int) (y : Int), y ∈ kPut h l ↔ y = h ∨ y ∈ l
  | [], y => by simp [kPut]
  | x :: l, y => by
    rw [kPut]
    split
    · simp
    · split
      · subst_vars; simp
      · simp only [List.mem_cons, kPut_mem h l y]
        constructor
        · rintro (rfl | rfl | hy) <;> simp_all
        · rintro (rfl | rfl | hy) <;> simp_all
theorem kPut_rising {h : Int} : ∀ {l : List Int}, Rising l → Rising (kPut h l)
  | [], _ => by simp [kPut, Rising]
  | x :: l, hl => by
    obtain ⟨h1, h2⟩ := List.pairwise_cons.1 hl
    rw [kPut]
    split
    · exact List.pairwise_cons.2 ⟨fun y hy => by rcases List.mem_cons.1 hy with rfl | hy; · omega
                                                 · have := h1 y hy; omega, hl⟩
    · split
      · exact hl
      · refine List.pairwise_cons.2 ⟨fun y hy => ?_, kPut_rising h2⟩
        rcases (kPut_mem h l y).1 hy with rfl | hy
        · omega
        · exact h1 y hy
theorem kPut_in {h : Int} : ∀ {l : List Int}, Rising l → h ∈ l → kPut h l = l
  | [], _, hm => by cases hm
  | x :: l, hl, hm => by
    obtain ⟨h1, h2⟩ := List.pairwise_cons.1 hl
    rw [kPut]
    rcases List.mem_cons.1 hm with rfl | hm
    · simp
    · have := h1 h hm
      rw [if_neg (by omega), if_neg (by omega), kPut_in h2 hm]
theorem kPut_len {h : Int} : ∀ {l : List Int}, h ∉ l → (kPut h l).length = l.length + 1
  | [], _ => rfl
  | x :: l, hm => by
    rw [kPut]
    have hx : h ≠ x := fun e => hm (by simp [e])
    split
    · rfl
    · rw [List.length_cons, kPut_len (fun c => hm (by simp [c])), List.length_cons]
theorem kPut_far {h : Int} : ∀ {l : List Int}, (∀ x ∈ l, x < h) → kPut h l = l ++ [h]
  | [], _ => rfl
  | x :: l, hm => by
    have := hm x (by simp)
    rw [kPut, if_neg (by omega), if_neg (by omega), kPut_far (fun y hy => hm y (by simp [hy]))]; rfl
/-- One hash more among the least ones. -/
def kIns (ks : List Int) (h : Int) : List Int := (kPut h ks).take 1024
def kAll (ks l : List Int) : List Int := l.foldl kIns ks
theorem kIns_rising {ks : List Int} {h : Int} (hr : Rising ks) : Rising (kIns ks h) := (kPut_rising hr).sublist (List.take_sublist _ _)
theorem kIns_len (ks : List Int) (h : Int) : (kIns ks h).length ≤ 1024 := by unfold kIns; rw [List.length_take]; omega
theorem kIns_U64 {ks : List Int} {h : Int} (hu : ∀ x ∈ ks, U64 x) (hh : U64 h) : ∀ x ∈ kIns ks h, U64 x := fun x hx => by
  rcases (kPut_mem h ks x).1 (List.mem_of_mem_take hx) with rfl | hx
  · exact hh
  · exact hu x hx

/-! ### The map -/
theorem kk : Keyed Tryz.prog 29 := int_keyed Tryz.underlying29
def lit (x : Int) : Lit := .int .u64 x
theorem key_of {x : Int} (hx : U64 x) : keyOf Tryz.prog 29 (.int .u64 x) = some (lit x) := keyOf_int_mk Tryz.underlying29 (by unfold U64 at hx; simp [Lit.wf, IntKind.min, IntKind.max, IntKind.signed, IntKind.bits]; omega)
def one_ : DataW Unit := .lit (.int .i64 1)
/-- What a map that holds just these keys, each with 1, reads as. -/
structure KD (D : DataW Unit) (ks : List Int) : Prop where
  has : ∀ x, Maps.has D (lit x) = decide (x ∈ ks)
  at_ : ∀ x ∈ ks, ∀ z, D.atKey (lit x) z = one_
  size : Maps.size D = ks.length
theorem KD.nil : KD (.map []) [] := ⟨fun x => by simp [Maps.has], fun x hx => (by cases hx), rfl⟩
theorem lit_ne {x y : Int} (h : x ≠ y) : lit x ≠ lit y := fun e => h (by unfold lit at e; injection e)
theorem isKey (x : Int) : WideAt.IsKeyLit (lit x) := trivial
theorem KD.put {D : DataW Unit} {ks ks' : List Int} {h : Int} (H : KD D ks) (hT : Tidy D) (hm : h ∉ ks) (hm' : ∀ y, y ∈ ks' ↔ y = h ∨ y ∈ ks) (hl : ks'.length = ks.length + 1) : KD (D.put (lit h) one_) ks' := by
  refine ⟨fun x => ?_, fun x hx z => ?_, ?_⟩
  · by_cases e : x = h
    · subst e; rw [has_put_same hT.isMap (isKey _)]; symm; simp [hm']
    · rw [has_put_other (lit_ne e), H.has]; simp [hm', e]
  · by_cases e : x = h
    · subst e; exact atKey_put_same hT.isMap (isKey _) _ _
    · rw [atKey_put_other (lit_ne e)]; exact H.at_ x (((hm' x).1 hx).resolve_left e) z
  · rw [size_put hT, H.has, H.size, hl]; simp [hm]
theorem KD.del {D : DataW Unit} {ks ks' : List Int} {h : Int} (H : KD D ks) (hT : Tidy D) (hm : h ∈ ks) (hm' : ∀ y, y ∈ ks' ↔ y ≠ h ∧ y ∈ ks) (hl : ks'.length + 1 = ks.length) : KD (D.del (lit h)) ks' := by
  refine ⟨fun x => ?_, fun x hx z => ?_, ?_⟩
  · by_cases e : x = h
    · subst e; rw [has_del_same]; symm; simp [hm']
    · rw [has_del_other (lit_ne e), H.has]; simp [hm', e]
  · have := (hm' x).1 hx
    rw [atKey_del_other (lit_ne this.1)]; exact H.at_ x this.2 z
  · have hs := size_del (k := lit h) hT
    rw [H.has, H.size] at hs; simp [hm] at hs; omega

def KmvAt (w : World) (g m : Nat) (ks : List Int) : Prop :=
  ∃ n top D, g ≠ m ∧ w.heap[g]? = some (.cells #[.map (some m), .int .u64 top] 171 (0, 0)) ∧ w.ownsMap Tryz.prog 29 (plainElem Tryz.prog 3) m n D ∧ n ≤ 1024 ∧ KD D ks ∧ Rising ks ∧ (∀ x ∈ ks, U64 x) ∧ ks.length ≤ 1024 ∧
    U64 top ∧ (ks.length = 1024 → (∀ x ∈ ks, x ≤ top) ∧ top ∈ ks)
/-- The bound on entries is no more than they are. -/
theorem tight {H : Type} {P : Program} {k : TypeId} {R : Value → Option (DataW H × List MemPlace)} {w : World} {b n : Nat} {D : DataW H} (h : w.ownsMap P k R b n D) : w.ownsMap P k R b (Maps.size D) D := by
  obtain ⟨es, clock, h1, h2, h3, rfl⟩ := h
  exact ⟨es, clock, h1, h2, by rw [Maps.size_eq, length_sorted]; simp, rfl⟩
theorem KmvAt.frm {S : Nat → Prop} {w w' : World} {g m : Nat} {ks : List Int} (h : KmvAt w g m ks) (hf : Frm S w w') (hg : ¬ S g) (hm : ¬ S m) : KmvAt w' g m ks := by
  obtain ⟨n, top, D, hne, hb, ho, r⟩ := h
  refine ⟨n, top, D, hne, ?_, ?_, r⟩
  · rw [hf.block g (Array.getElem?_eq_some_iff.1 hb).1 hg]; exact hb
  · obtain ⟨es, clock, h1, h2⟩ := ho
    exact ⟨es, clock, by rw [hf.block m (Array.getElem?_eq_some_iff.1 h1).1 hm]; exact h1, h2⟩
theorem KmvAt.below {w w' : World} {g m : Nat} {ks : List Int} (h : KmvAt w g m ks) (hb : Below w.heap.size w w') : KmvAt w' g m ks := h.frm (S := fun _ => False) (.of_below hb) (fun h => h) (fun h => h)
theorem KmvAt.lt {w : World} {g m : Nat} {ks : List Int} (h : KmvAt w g m ks) : g < w.heap.size ∧ m < w.heap.size := by
  obtain ⟨n, top, D, hne, hb, ho, r⟩ := h
  exact ⟨(Array.getElem?_eq_some_iff.1 hb).1, ho.lt⟩

theorem C_kmv_New (w : World) :
    Calls Tryz.prog 119 #[] w fun e w' => e = .returned (.pointer (some ⟨w.heap.size + 1, 0, none⟩)) ∧ KmvAt w' (w.heap.size + 1) w.heap.size [] ∧ Below w.heap.size w w' := by
  have hmm := @run_makeMap Tryz.prog
  go_enter Tryz.func119, Tryz.ntmps119
  go_wp2
  go_ret
  refine ⟨rfl, ?_, ?_⟩
  · refine ⟨0, 0, .map [], by omega, ?_, ?_, by omega, KD.nil, List.Pairwise.nil, fun x hx => (by cases hx), by simp, by unfold U64; omega, fun h => by simp at h⟩
    · have := heap_alloc_new (w.alloc (.map #[] 0)) (.cells #[.map (some w.heap.size), .int .u64 0] 171)
      rwa [World.size_alloc] at this
    · exact (World.ownsMap_made _ _ _ _).alloc _
  · (repeat (first | exact Below.refl _ _ | assumption | refine Below.drew ?_ | refine Below.alloc ?_ (by simp <;> omega) _ | refine Below.setCell ?_ (by simp <;> omega) _))

theorem Sl.num {ok : Nat → Prop} {w : World} {A : Option Addr} {xs : List Int} (h : Sl ok w A xs) {k : Nat} (hk : k < xs.length) :
    ∃ b off, A = some ⟨b, off, none⟩ ∧ ok b ∧ b < w.heap.size ∧ w.cell? ⟨b, off + k, none⟩ = some (.int .u64 xs[k]) ∧ U64 xs[k] := by
  obtain ⟨b, off, vs, e, ⟨rfl, hwf⟩, hc⟩ := h.at_ hk
  have h0 := hc.c0
  rw [show (Rep.sz Int) = 1 from rfl, Nat.mul_one] at h0
  exact ⟨b, off, e, hc.1, hc.2.1, h0, hwf⟩
end Go.Proofs.YtbefkiebdokbdaaGreat.V
end

section
/- Contracts of package kmv: Check, greatest. -/
namespace Go.Proofs.YtbefkiebdokbdaaGreat.V
open Go.RowKit Go.Maps Go.WideElems
set_option linter.unusedVariables false
set_option maxRecDepth 100000

instance (l : List Int) : Decidable (Rising l) := by unfold Rising; infer_instance
def kchk (l : List Int) : Bool := decide (l.length ≤ 1024 ∧ Rising l)
theorem rising_of_next {l : List Int} (h : ∀ j, (hj : j + 1 < l.length) → l[j] < l[j + 1]) : Rising l := by
  unfold Rising
  rw [List.pairwise_iff_getElem]
  intro i j hi hj hij
  induction j with
  | zero => omega
  | succ j ih =>
    have h1 := h j hj
    by_cases e : i = j
    · subst e; exact h1
    · have := ih (by omega) (by omega); omega

theorem C_kmv_Check (ok : Nat → Prop) (A : Option Addr) (cap : Nat) (xs : List Int) (w : World) (hr : Sl ok w A xs) :
    Calls Tryz.prog 45 #[.slice A xs.length cap] w fun e w' => e = .returned (.bool (kchk xs)) ∧ Below w.heap.size w w' := by
  have hlen := hr.1
  go_enter Tryz.func45, Tryz.ntmps45
  go_wp2
  go_loopw [3] (fun i wr => ∃ (k : Nat), k ≤ 1024 ∧ i = .int .i64 ((k : Int) + 1) ∧ (∀ j, (hj : j + 1 < xs.length) → j < k → xs[j] < xs[j + 1]) ∧ Below w.heap.size w wr) (fun i _ => 1025 - (intOf i).toNat)
  case atStart => exact ⟨0, by omega, rfl, fun j hj h => by omega, Below.refl _ _⟩
  case round =>
    obtain ⟨k, hk2, rfl, hpre, hb⟩ := hrel
    have HP := Lib.hid hpre
    clear hpre
    by_cases hlt : k + 1 < xs.length
    · by_cases hle : k + 1 ≤ 1024
      · obtain ⟨b, off, rfl, _, hbl, h1, hu1⟩ := (hr.below hb).num hlt
        obtain ⟨b', off', e, _, hbl', h2, hu2⟩ := (hr.below hb).num (k := k) (by omega)
        cases e
        have e1 : ((k : Int) + 1).toNat = k + 1 := by omega
        generalize ha : xs[k + 1] = a at h1 hu1
        generalize hc : xs[k] = c at h2 hu2
        have HA := Lib.hid ha
        have HC := Lib.hid hc
        clear ha hc
        by_cases hac : a ≤ c
        · go_wp2_with fail
          go_region
          all_goals (go_wp2; go_ret)
          all_goals refine ⟨ret_b ?_, by (repeat (first | exact Below.refl _ _ | assumption | refine Below.drew ?_ | refine Below.alloc ?_ (by simp <;> omega) _ | refine Below.setCell ?_ (by simp <;> omega) _))⟩
          all_goals
            symm
            rw [kchk, decide_eq_false_iff_not]
            rintro ⟨_, hR⟩
            have := List.pairwise_iff_getElem.1 hR k (k + 1) (by omega) hlt (by omega)
            rw [HA.out, HC.out] at this
            omega
        · go_wp2_with fail
          go_region
          all_goals go_wp2
          all_goals go_roundw
          case rel => exact ⟨k + 1, by omega, by go_num, fun j hj h => by
            by_cases e : j = k
            · subst e; rw [HA.out, HC.out]; omega
            · exact HP.out j hj (by omega), by (repeat (first | exact Below.refl _ _ | assumption | refine Below.drew ?_ | refine Below.alloc ?_ (by simp <;> omega) _ | refine Below.setCell ?_ (by simp <;> omega) _))⟩
          case measure => simp [intOf]; omega
      · go_wp2
        go_ret
        refine ⟨ret_b ?_, by (repeat (first | exact Below.refl _ _ | assumption | refine Below.drew ?_ | refine Below.alloc ?_ (by simp <;> omega) _ | refine Below.setCell ?_ (by simp <;> omega) _))⟩
        rw [kchk]
        have h1 : decide (xs.length ≤ 1024 ∧ Rising xs) = false := by rw [decide_eq_false_iff_not]; omega
        rw [h1]; simp; omega
    · go_wp2
      go_ret
      refine ⟨ret_b ?_, by (repeat (first | exact Below.refl _ _ | assumption | refine Below.drew ?_ | refine Below.alloc ?_ (by simp <;> omega) _ | refine Below.setCell ?_ (by simp <;> omega) _))⟩
      rw [kchk]
      have hR := rising_of_next (l := xs) (fun j hj => HP.out j hj (by omega))
      simp [hR]; omega

theorem zeroI (w : World) : (zeroValue 3).run Tryz.prog w = .ok (.int .i64 0) w := by kernel_rfl
theorem has_of_left {w : World} {m r n : Nat} {D : DataW Unit} {left : Lit → Bool} {cnt : Nat} (h : w.ranges Tryz.prog 29 (plainElem Tryz.prog 3) m r n D left cnt) {y : Int} (hl : left (lit y) = true) : Maps.has D (lit y) = true := by
  obtain ⟨es, clock, since, seen, c0, _, _, _, rfl, _, _, _, _, hk, _⟩ := h
  obtain ⟨x, hx, ex⟩ := hk _ hl
  rw [has_eq, List.any_eq_true]
  exact ⟨rg Tryz.prog 29 (plainElem Tryz.prog 3) x, by rw [mem_sorted]; exact List.mem_map_of_mem hx, by
    rw [ex]; simp [lit, Lit.sameKey]⟩

set_option maxHeartbeats 1000000 in
theorem C_kmv_greatest (g m n : Nat) (top : Value) (D : DataW Unit) (ks : List Int) (w : World) (hb : w.cell? ⟨g, 0, none⟩ = some (.map (some m))) (ho : w.ownsMap Tryz.prog 29 (plainElem Tryz.prog 3) m n D) (hD : KD D ks) (hu : ∀ x ∈ ks, U64 x) (h0 : ks ≠ []) :
    Calls Tryz.prog 136 #[.pointer (some ⟨g, 0, none⟩)] w fun e w' => ∃ v, e = .returned (.int .u64 v) ∧ v ∈ ks ∧ (∀ x ∈ ks, x ≤ v) ∧ Below w.heap.size w w' := by
  go_enter Tryz.func136, Tryz.ntmps136
  go_wp2
  go_step3
  go_wp2
  go_step3
  go_wp2_with (at_range; refine wpList_range_own _ rfl _ 169 rfl 29 3 kk Tryz.underlying169 _ m n _ rfl ho ?_; intro w0 hrg0 hg0 hs0)
  go_frame
  go_loopw [3, 4] (fun v _ wr => ∃ (left : Lit → Bool) (cnt : Nat) (y : Int), v = .int .u64 y ∧ U64 y ∧ wr.ranges Tryz.prog 29 (plainElem Tryz.prog 3) m w.heap.size n D left cnt ∧ (∀ x ∈ ks, left (lit x) = false → x ≤ y) ∧ (y ∈ ks ∨ y = 0) ∧ Below w.heap.size w wr)
    (fun _ _ wr => wr.rangeLeft m w.heap.size)
  case atStart => exact ⟨_, _, 0, rfl, by unfold U64; omega, hrg0, fun x hx hl => by rw [hD.has] at hl; simp [hx] at hl, .inr rfl, (Below.refl _ _).grown hg0 (Nat.le_refl _) (fun j hj => by cases hj)⟩
  case round =>
    obtain ⟨left, cnt, y, rfl, hy, hrg, hall, hin, hbl⟩ := hrel
    have HA := Lib.hid hall
    clear hall
    go_wp2_with (at_next; refine wpList_next_ranges_ii _ rfl _ rfl 29 3 .u64 .i64 kk Tryz.underlying29 Tryz.underlying3 m w.heap.size n _ _ _ rfl hrg ?_ ?_)
    · intro hc0 hl0
      go_wp2
      rw [Exit.noGoto_ret]
      go_ret
      refine ⟨y, rfl, ?_, fun x hx => HA.out x hx (hl0 _), hbl⟩
      rcases hin with h | h
      · exact h
      · obtain ⟨x, hx⟩ := List.exists_mem_of_ne_nil ks h0
        have h1 := HA.out x hx (hl0 _)
        have h2 := (hu x hx).1
        have : x = y := by omega
        exact this ▸ hx
    · intro x c w1 cnt1 hwx hwc hlx hat hrg1 hlt hg1 hs1 hen
      have hxk : x ∈ ks := by
        have := has_of_left hrg hlx
        rw [hD.has] at this
        simpa using this
      have hb1 : Below w.heap.size w w1 := hbl.grown hg1 hbl.size (fun j hj => by cases hj; exact Nat.le_refl _)
      have hst : ∀ z, (left z && !z.sameKey (lit x)) = false → left z = false ∨ z.sameKey (lit x) = true := by
        intro z; cases left z <;> cases z.sameKey (lit x) <;> simp
      by_cases hxy : x ≤ y
      · go_wp2
        go_roundw
        case rel => exact ⟨_, cnt1, y, rfl, hy, hrg1, fun z hz hl => by
          rcases hst _ hl with h | h
          · exact HA.out z hz h
          · have : z = x := by simpa [lit, Lit.sameKey] using h
            omega, hin, hb1⟩
        case measure => rw [hrg1.left_eq, hrg.left_eq]; exact hlt
      · go_wp2
        go_roundw
        case rel => exact ⟨_, cnt1, x, rfl, hu x hxk, hrg1, fun z hz hl => by
          rcases hst _ hl with h | h
          · have := HA.out z hz h; omega
          · have : z = x := by simpa [lit, Lit.sameKey] using h
            omega, .inl hxk, hb1⟩
        case measure => rw [hrg1.left_eq, hrg.left_eq]; exact hlt
end Go.Proofs.YtbefkiebdokbdaaGreat.V
end
