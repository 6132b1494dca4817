/- Part 20 of the proof: Ans1, Ans2, Ans3. -/
import Derived.Deep.RegionHeld3
import Derived.Test.YtbefkiebdokbdaaGreatB18
import Derived.Test.YtbefkiebdokbdaaGreatB19

section
/- query.Answers$1 at one window, told by varvelaw23.told$1. -/
namespace Go.Proofs.YtbefkiebdokbdaaGreat.V
open Go.RowKit Go.Shelf
attribute [local go_sem] Oper.semAt_some
set_option linter.unusedVariables false
set_option maxRecDepth 100000

/-- An answer's cells. -/
def AnsAt (w : World) (g o : Nat) (a : Answer) : Prop :=
  w.cell? ⟨g, o, none⟩ = some (.int .i64 a.frm) ∧ w.cell? ⟨g, o + 1, none⟩ = some (.bool a.has) ∧ w.cell? ⟨g, o + 2, none⟩ = some (.int .u64 a.value) ∧ w.cell? ⟨g, o + 3, none⟩ = some (.int .i64 a.err)
/-- The list that told makes, with its one answer. -/
def Told (w0 w : World) (bl : Nat) (a : Answer) : Prop :=
  ∃ g o c, w0.heap.size ≤ g ∧ w.cell? ⟨bl, 0, none⟩ = some (.slice (some ⟨g, o, none⟩) 1 c) ∧ AnsAt w g o a
theorem Told.of_sl {w0 w : World} {bl c tl : Nat} {B : Option Addr} {a : Answer} (hb : Blk w bl [.slice B 1 c] tl) (h : Sl (fun k => w0.heap.size ≤ k) w B [a]) : Told w0 w bl a := by
  obtain ⟨b, off, vs, rfl, hv, hc⟩ := h.at_ (k := 0) (by simp)
  obtain ⟨rfl, _⟩ := hv
  simp only [Nat.zero_mul, Nat.add_zero] at hc
  exact ⟨b, off, c, hc.1, hb.c 0 rfl, hc.c0, hc.c1, hc.cj 2 _ rfl, hc.cj 3 _ rfl⟩
/-- What a count answers. -/
def cntA (v : Int) : Answer := ⟨0, satErr v == 0, if satErr v = 0 then v else 0, satErr v⟩

section
variable {A B : World} {row : Option Nat}
theorem Blk.turn {b t : Nat} {vs : List Value} (h : Blk A b vs t) (hg : A.grownBy B row) (hr : ∀ r, row = some r → ∃ o : Obj, A.heap[r]? = some o ∧ o.isCells = false) : Blk B b vs t := by
  unfold Blk at *
  rw [hg.block b (Array.getElem?_eq_some_iff.1 h).1 (fun e => by
    obtain ⟨o, ho, hc⟩ := hr b e.symm
    rw [h] at ho; cases ho; cases hc)]
  exact h
theorem Frm.turn {S : Nat → Prop} {w : World} (h : Frm S w A) (hg : A.grownBy B row) (hr : ∀ r, row = some r → w.heap.size ≤ r) : Frm S w B :=
  ⟨hg.os.trans h.os, hg.tape.trans h.tape, hg.output.trans h.output, Nat.le_trans h.size hg.size, fun k hk hn => by
    rw [hg.block k (Nat.lt_of_lt_of_le hk h.size) (fun e => by have := hr k e.symm; omega)]; exact h.block k hk hn⟩
theorem Told.turn {w : World} {bl : Nat} {a : Answer} (h : Told w A bl a) (hg : A.grownBy B row) (hr : ∀ r, row = some r → ∃ o : Obj, A.heap[r]? = some o ∧ o.isCells = false) : Told w B bl a := by
  obtain ⟨g, o, c, h0, h1, h2, h3, h4, h5⟩ := h
  exact ⟨g, o, c, h0, cell_kept h1 hg hr, cell_kept h2 hg hr, cell_kept h3 hg hr, cell_kept h4 hg hr, cell_kept h5 hg hr⟩
end
/-- The loop's invariant. -/
def AnsI (w : World) (bl bm : Nat) (a : Answer) (pre : List Unit) (W : World) : Prop :=
  Frm (fun k => k = bl) w W ∧ Blk W w.heap.size [.func (.func 62) #[] #[.pointer (some ⟨bl, 0, none⟩), .pointer (some ⟨bm, 0, none⟩)]] 101 ∧ (pre = [] → Blk W bl [.slice none 0 0] 58) ∧ (pre = [()] → Told w W bl a)
theorem AnsI.turn {w A B : World} {row : Option Nat} {bl bm : Nat} {a : Answer} {pre : List Unit} (h : AnsI w bl bm a pre A) (hg : A.grownBy B row) (hr : ∀ r, row = some r → w.heap.size ≤ r ∧ ∃ o : Obj, A.heap[r]? = some o ∧ o.isCells = false) : AnsI w bl bm a pre B :=
  ⟨h.1.turn hg (fun r e => (hr r e).1), h.2.1.turn hg (fun r e => (hr r e).2), fun e => (h.2.2.1 e).turn hg (fun r e => (hr r e).2), fun e => (h.2.2.2 e).turn hg (fun r e => (hr r e).2)⟩

theorem satErr_I64 (v : Int) : I64 (satErr v) := by unfold satErr I64; split <;> omega
theorem cntA_wf {v : Int} (h : U64 v) : (cntA v).wf := by
  refine ⟨⟨by simp [cntA], by simp [cntA]⟩, ?_, satErr_I64 v⟩
  show U64 (if satErr v = 0 then v else 0)
  split
  · exact h
  · unfold U64; omega
set_option maxHeartbeats 4000000 in
theorem C_Answers1 (bl bm ba bi : Nat) (A : Option Addr) (cap : Nat) (xs : List Row) (step m : Int) (w : World) (h1 : 1 ≤ step) (h2 : step ≤ 1099511627776) (hm1 : 1 < m)
    (hask : Blk w ba (askL 0 step 1) 31) (hin : w.cell? ⟨bi, 0, none⟩ = some (.slice A xs.length cap)) (hbl : Blk w bl [.slice none 0 0] 58) (hbm : w.cell? ⟨bm, 0, none⟩ = some (.int .i64 m))
    (n1 : ba ≠ bl) (n2 : bi ≠ bl) (n3 : bm ≠ bl) (hr : Sl (fun k => k < w.heap.size ∧ k ≠ bl) w A xs) (hl : xs.length ≤ 1048576)
    (hc : ∀ r ∈ xs, pCheck r.s = true) (hg : ∀ r ∈ xs, r.s.gauge.wf) (hb : ∀ r ∈ xs, HistOk r.s) :
    Calls Tryz.prog 59 #[.func (.func 62) #[] #[.pointer (some ⟨bl, 0, none⟩), .pointer (some ⟨bm, 0, none⟩)], .pointer (some ⟨ba, 0, none⟩), .pointer (some ⟨bi, 0, none⟩)] w fun e w' =>
      (∃ v, e = .returned v) ∧ Told w w' bl (cntA (cntS (winS 0 step xs))) ∧ Frm (fun k => k = bl) w w' := by
  have hwin : ∀ W : World, Sl (fun k => k < W.heap.size) W A xs → Calls Tryz.prog 61 #[.agg (askL 0 step 1).toArray, .slice A xs.length cap, .int .i64 0, .int .i64 step] W fun e w' => e = .returned (.agg (encAnswer (cntA (cntS (winS 0 step xs)))).toArray) ∧ Below W.heap.size W w' :=
    fun W hs => (C_Window_count A cap xs 0 step 1 0 step W hs hl hc hg hb (fun l h1 h2 h3 => pCheck_sum h1 h2 h3)).mono fun e w' h => ⟨h.1, h.2⟩
  have hwf : (cntA (cntS (winS 0 step xs))).wf := cntA_wf (cntS_U64 (fun s hs b h => by
      obtain ⟨r, hr', rfl⟩ := List.mem_map.1 hs
      exact (hb r (List.mem_filter.1 hr').1 b h).1))
  generalize cntA (cntS (winS 0 step xs)) = ans at *
  clear hc hg hb
  have htold : ∀ W : World, Blk W bl [.slice none 0 0] 58 → W.cell? ⟨bm, 0, none⟩ = some (.int .i64 m) → Calls Tryz.prog 62 #[.agg #[.int .i64 ans.frm, .bool ans.has, .int .u64 ans.value, .int .i64 ans.err], .pointer (some ⟨bl, 0, none⟩), .pointer (some ⟨bm, 0, none⟩)] W fun e w' => e = .returned (.bool true) ∧
      (Told W w' bl ans ∧ Frm (fun k => k = bl) W w') :=
    fun W q1 q2 => (C_told1 bl bm ans m 58 W hwf q1 q2 (fun e => n3 e.symm) hm1).mono fun e w' ⟨h, B, c, p1, p2, p3⟩ => ⟨h, Told.of_sl p1 p2, p3⟩
  have HWIN := Lib.hid hwin
  have HTOLD := Lib.hid htold
  clear hwin htold
  refine (callsIn_wide (n := 9)).1 ?_
  refine callsIn_of_wp_marks Tryz.func59 rfl trivial ?_ rfl
  simp only [Tryz.ntmps59, List.size_toArray, List.length_cons, List.length_nil, Nat.reduceAdd, Nat.reduceSub, Array.replicate_succ, Array.replicate_zero, List.push_toArray, List.append_toArray, List.nil_append, List.cons_append]
  have x5 := hask.c 5 rfl
  have x6 := hask.c 6 rfl
  have x7 := hask.c 7 rfl
  have hal := hask.lt
  have nea : ba ≠ w.heap.size := by omega
  have neb : w.heap.size ≠ ba := by omega
  gi_wp2
  refine wpIn_wide.2 (wp_scope_straight ((wpIn_wide (n := 9)).1 ?_))
  gi_wp2
  refine wpIn_label ?_
  gi_wp2_with (refine ⟨trivial, ?_⟩; gi_at_call 60; refine (callsIn_wide.2 (C_Windows 0 step 1 _)).mono ?_; rintro e w1 ⟨rfl, hs0, hs1, hs2, hb1, hz1⟩)
  have hsz : (w.alloc (.cells #[.func (.func 62) #[] #[.pointer (some ⟨bl, 0, none⟩), .pointer (some ⟨bm, 0, none⟩)]] 101)).heap.size = w.heap.size + 1 := by simp
  have hbox := (Blk.new w [.func (.func 62) #[] #[.pointer (some ⟨bl, 0, none⟩), .pointer (some ⟨bm, 0, none⟩)]] 101).below hb1
  have hF1 : Frm (fun k => k = bl) w w1 := ((Frm.refl _ w).alloc _).trans (.of_below hb1)
  rw [hsz] at hs0 hs1 hs2 hz1
  have hbl1 := hbl.below (((Below.refl _ w).alloc (Nat.le_refl _) (.cells #[.func (.func 62) #[] #[.pointer (some ⟨bl, 0, none⟩), .pointer (some ⟨bm, 0, none⟩)]] 101)).trans (hb1.mono (by omega)))
  refine wpIn_rangeFunc_ownF rfl (by omega) (gf := 95) (lb := #[.pointer (some ⟨w.heap.size + 1 + 1, 0, none⟩), .pointer (some ⟨w.heap.size + 1 + 2, 0, none⟩), .pointer (some ⟨w.heap.size + 1, 0, none⟩)]) rfl trivial (enters_of Tryz.func95 (by kernel_rfl) rfl)
    (Win1_stops Fence.wide (9 - 1) trivial rfl (by omega) (w.heap.size + 1) (w.heap.size + 1 + 1) (w.heap.size + 1 + 2) step h1 h2 w1 hs0 hs1 hs2) (fun _ _ => trivial) (fun _ _ _ _ _ _ _ _ => trivial) (Below.refl _ _) (fun _ => rfl)
    (AnsI w bl bm ans) (fun _ _ _ => False)
    (fun s A B row hs hg hr => hs.turn hg (fun r e => ⟨by have := (hr r e).1; omega, (hr r e).2⟩)) (fun _ _ _ _ _ hs _ _ => hs) ⟨hF1, hbox, fun _ => hbl1, fun h => by cases h⟩
    (fun _ => { tmps := #[.func (.func 62) #[] #[.pointer (some ⟨bl, 0, none⟩), .pointer (some ⟨bm, 0, none⟩)], .pointer (some ⟨ba, 0, none⟩), .pointer (some ⟨bi, 0, none⟩), .pointer (some ⟨w.heap.size, 0, none⟩), .int .i64 0, .int .i64 step, .pointer (some ⟨ba, 5, none⟩), .int .i64 0, .pointer (some ⟨ba, 6, none⟩), .int .i64 step, .pointer (some ⟨ba, 7, none⟩), .int .i64 1,
      .func (.func 95) #[] #[.pointer (some ⟨w.heap.size + 1 + 1, 0, none⟩), .pointer (some ⟨w.heap.size + 1 + 2, 0, none⟩), .pointer (some ⟨w.heap.size + 1, 0, none⟩)], .int .i64 0, .int .i64 step, undef, undef, undef, undef, undef, undef, undef, undef], defers := [] }) ?assign ?body ?done ?stop
  case assign =>
    intro l x W K hK
    gi_wp2
    exact hK
  case body =>
    rintro l pre x W ⟨hf, hy, hn, _⟩ hlen
    obtain rfl : pre = [] := List.eq_nil_of_length_eq_zero (by omega)
    have hA := hask.frm hf n1
    have a0 := hA.c 0 rfl
    have a1 := hA.c 1 rfl
    have a2 := hA.c 2 rfl
    have a3 := hA.c 3 rfl
    have a4 := hA.c 4 rfl
    have a5 := hA.c 5 rfl
    have a6 := hA.c 6 rfl
    have a7 := hA.c 7 rfl
    have a8 := hA.c 8 rfl
    have a9 := hA.c 9 rfl
    have a10 := hA.c 10 rfl
    have hcI := fcell hf n2 hin
    have hcm := fcell hf n3 hbm
    have hy0 := hy.c 0 rfl
    have hL := hn rfl
    have hrW : Sl (fun k => k < w.heap.size ∧ k ≠ bl) W A xs := hr.keep (hf.keeps (fun k _ h => h.2))
    have hrW2 : Sl (fun k => k < W.drew.heap.size) W.drew A xs := (hrW.keep (w' := W.drew) (Keeps.of_below ⟨rfl, rfl, rfl, Nat.le_refl _, fun _ _ => rfl⟩)).mono (fun k hk _ => hk)
    have hL2 : Blk W.drew bl [.slice none 0 0] 58 := hL
    have hY2 : Blk W.drew w.heap.size [.func (.func 62) #[] #[.pointer (some ⟨bl, 0, none⟩), .pointer (some ⟨bm, 0, none⟩)]] 101 := hy
    have hf2 : Frm (fun k => k = bl) w W.drew := hf.drew
    have hcm2 : W.drew.cell? ⟨bm, 0, none⟩ = some (.int .i64 m) := hcm
    clear hn hA
    have hw61 : Fence.wide.fn 61 := trivial
    have hw62 : Fence.wide.fn 62 := trivial
    have hmx : Tryz.prog.follows .mixedOrders = true := by kernel_rfl
    gi_wp2
    refine region_bridge (S := (fun w' : World => w'.cell? ⟨w.heap.size, 0, none⟩ = some (.func (.func 62) #[] #[.pointer (some ⟨bl, 0, none⟩), .pointer (some ⟨bm, 0, none⟩)]) ∧ w'.cell? ⟨ba, 0, none⟩ = some (.int .i64 0) ∧ w'.cell? ⟨ba, 1, none⟩ = some (.string ⟨#[]⟩) ∧ w'.cell? ⟨ba, 2, none⟩ = some (.string ⟨#[]⟩) ∧ w'.cell? ⟨ba, 3, none⟩ = some (.slice none 0 0) ∧ w'.cell? ⟨ba, 4, none⟩ = some (.slice none 0 0) ∧ w'.cell? ⟨ba, 5, none⟩ = some (.int .i64 0) ∧ w'.cell? ⟨ba, 6, none⟩ = some (.int .i64 step) ∧ w'.cell? ⟨ba, 7, none⟩ = some (.int .i64 1) ∧ w'.cell? ⟨ba, 8, none⟩ = some (.int .i64 1) ∧ w'.cell? ⟨ba, 9, none⟩ = some (.int .u64 0) ∧ w'.cell? ⟨ba, 10, none⟩ = some (.int .u64 0) ∧ w'.cell? ⟨bi, 0, none⟩ = some (.slice A xs.length cap))) hmx ?_ ?_ ⟨hy0, a0, a1, a2, a3, a4, a5, a6, a7, a8, a9, a10, hcI⟩ (fun hHeld => ?_)
    · intro j o c hj
      rcases j with _ | _ | _ | _ | _ | _ | _ | _ | j
      all_goals first | (cases hj; intro h; cases h) | (simp at hj)
    · rintro ⟨a', w', h⟩
      exact h
    refine wpAnyH_take (i := 0) (v := ?_) rfl (by kernel_rfl) (by kernel_rfl) (by kernel_rfl) (fun _ _ _ h => h) (Or.inl ⟨by rfl, ?_⟩) hHeld ?_
    rotate_left
    · intro w9 hSw
      try dsimp only at hSw
      go_simp
      try with_reducible rfl
    try simp only [Act.put, List.setIfInBounds_toArray, List.set_cons_zero, List.set_cons_succ]
    refine wpAnyH_take (i := 1) (v := ?_) rfl (by kernel_rfl) (by kernel_rfl) (by kernel_rfl) (fun _ _ _ h => h) (Or.inl ⟨by rfl, ?_⟩) hHeld ?_
    rotate_left
    · intro w9 hSw
      try dsimp only at hSw
      go_simp
      try with_reducible rfl
    try simp only [Act.put, List.setIfInBounds_toArray, List.set_cons_zero, List.set_cons_succ]
    refine wpAnyH_take (i := 2) (v := ?_) rfl (by kernel_rfl) (by kernel_rfl) (by kernel_rfl) (fun _ _ _ h => h) (Or.inl ⟨by rfl, ?_⟩) hHeld ?_
    rotate_left
    · intro w9 hSw
      try dsimp only at hSw
      go_simp
      try with_reducible rfl
    try simp only [Act.put, List.setIfInBounds_toArray, List.set_cons_zero, List.set_cons_succ]
    refine wpAnyH_take (i := 3) (v := ?_) rfl (by kernel_rfl) (by kernel_rfl) (by kernel_rfl) (fun _ _ _ h => h) (Or.inl ⟨by rfl, ?_⟩) hHeld ?_
    rotate_left
    · intro w9 hSw
      try dsimp only at hSw
      go_simp
      try with_reducible rfl
    try simp only [Act.put, List.setIfInBounds_toArray, List.set_cons_zero, List.set_cons_succ]
    refine wpAnyH_take (i := 4) (v := ?_) rfl (by kernel_rfl) (by kernel_rfl) (by kernel_rfl) (fun _ _ _ h => h) (Or.inl ⟨by rfl, ?_⟩) hHeld ?_
    rotate_left
    · intro w9 hSw
      try dsimp only at hSw
      go_simp
      try with_reducible rfl
    try simp only [Act.put, List.setIfInBounds_toArray, List.set_cons_zero, List.set_cons_succ]
    refine wpAnyH_ready (rs := [5]) (by kernel_rfl) (by simp) (AllReadyH.cons rfl (fun K hK => ?_) AllReadyH.nil)
    go_simp
    refine (HWIN.out _ hrW2).mono ?_
    rintro e w5 ⟨rfl, hb5⟩
    go_simp
    refine hK.out _ _ ⟨bcell hb5 hy0, bcell hb5 a0, bcell hb5 a1, bcell hb5 a2, bcell hb5 a3, bcell hb5 a4, bcell hb5 a5, bcell hb5 a6, bcell hb5 a7, bcell hb5 a8, bcell hb5 a9, bcell hb5 a10, bcell hb5 hcI⟩ (fun hHeld5 => ?_)
    clear hK K
    try simp only [Act.put, List.setIfInBounds_toArray, List.set_cons_zero, List.set_cons_succ]
    refine wpAnyH_ready (rs := [6]) (by kernel_rfl) (by simp) (AllReadyH.cons rfl (fun K hK => ?_) AllReadyH.nil)
    go_simp
    refine (HTOLD.out w5 (hL2.below hb5) (bcell hb5 hcm2)).mono ?_
    rintro e w6 ⟨rfl, hto, hf6⟩
    go_simp
    have hbl6 : w.heap.size ≠ bl := by have := hbl.lt; omega
    refine hK.out _ _ ⟨fcell hf6 hbl6 (bcell hb5 hy0), fcell hf6 n1 (bcell hb5 a0), fcell hf6 n1 (bcell hb5 a1), fcell hf6 n1 (bcell hb5 a2), fcell hf6 n1 (bcell hb5 a3), fcell hf6 n1 (bcell hb5 a4), fcell hf6 n1 (bcell hb5 a5), fcell hf6 n1 (bcell hb5 a6), fcell hf6 n1 (bcell hb5 a7), fcell hf6 n1 (bcell hb5 a8), fcell hf6 n1 (bcell hb5 a9), fcell hf6 n1 (bcell hb5 a10), fcell hf6 n2 (bcell hb5 hcI)⟩ (fun hHeld6 => ?_)
    clear hK K
    try simp only [Act.put, List.setIfInBounds_toArray, List.set_cons_zero, List.set_cons_succ]
    refine wpAnyH_take (i := 7) (v := ?_) rfl (by kernel_rfl) (by kernel_rfl) (by kernel_rfl) (fun _ _ _ h => h) (Or.inl ⟨by rfl, ?_⟩) hHeld6 ?_
    rotate_left
    · intro w9 hSw
      try dsimp only at hSw
      go_simp
      try with_reducible rfl
    try simp only [Act.put, List.setIfInBounds_toArray, List.set_cons_zero, List.set_cons_succ]
    refine wpAnyH_done (by kernel_rfl) ?_ _
    have hko : KeepsOthers W w6 := ⟨Nat.le_trans hb5.size hf6.size, fun k o hk ho => by
      have hkl : k < W.heap.size := (Array.getElem?_eq_some_iff.1 hk).1
      have h5 := hb5.block k hkl
      rw [hf6.block k (Nat.lt_of_lt_of_le hkl hb5.size) (fun e => by
        subst e
        unfold Blk at hL
        rw [hL] at hk; cases hk; cases ho), h5]
      exact hk⟩
    have htold6 : Told w w6 bl ans := by
      obtain ⟨g, o, c, q0, q1, q2⟩ := hto
      exact ⟨g, o, c, Nat.le_trans (hf2.trans (@Frm.of_below (fun k => k = bl) _ _ hb5)).size q0, q1, q2⟩
    have hfin : AnsI w bl bm ans [()] w6 := ⟨(hf2.trans (.of_below hb5)).trans hf6, (hY2.below hb5).frm hf6 hbl6, (fun e => by cases e), fun _ => htold6⟩
    gi_wp2
    exact ⟨hko, trivial, hfin⟩
  case done =>
    rintro D ys W hD rfl hI hK
    gi_wp2
    refine ⟨by simp, .inl ⟨_, _, rfl, run_takeDeferred hK, ?_⟩⟩
    have hI2 := hI.turn (grownBy_putObj' W D (.deferred none)) (fun r e => by cases e; exact ⟨by omega, _, hK, rfl⟩)
    exact ⟨_, results_none rfl _ _ _, ⟨_, rfl⟩, hI2.2.2.2 rfl, hI2.1⟩
  case stop =>
    rintro D c pre W _ _ h _
    exact h.elim
end Go.Proofs.YtbefkiebdokbdaaGreat.V
end

section
/- query.Answers at a count, the zero matcher. -/
namespace Go.Proofs.YtbefkiebdokbdaaGreat.V
open Go.RowKit
set_option linter.unusedVariables false
set_option maxRecDepth 100000

set_option maxHeartbeats 2000000 in
theorem C_Answers (A : Option Addr) (cap : Nat) (xs : List Row) (step : Int) (w : World) (hr : Sl (fun k => k < w.heap.size) w A xs) (hl : xs.length ≤ 1048576) (hs : ∀ r ∈ xs, r.small) :
    Calls Tryz.prog 23 #[.agg (askL 0 step 1).toArray, .slice A xs.length cap] w fun e w' => ∃ ba bi B c, e = .returned (.func (.func 59) #[] #[.pointer (some ⟨ba, 0, none⟩), .pointer (some ⟨bi, 0, none⟩)]) ∧
      Blk w' ba (askL 0 step 1) 31 ∧ w'.cell? ⟨bi, 0, none⟩ = some (.slice B (xs.filter mayB).length c) ∧ bi < w'.heap.size ∧ Sl (fun k => k < w'.heap.size) w' B (xs.filter mayB) ∧ Below w.heap.size w w' := by
  go_enter Tryz.func23, Tryz.ntmps23
  go_wp2_with fail
  obtain ⟨W, hW⟩ : ∃ W, W = w.alloc (.cells (askL 0 step 1).toArray 31) := ⟨_, rfl⟩
  have hbW : Below w.heap.size w W := hW ▸ (Below.refl _ _).alloc (Nat.le_refl _) _
  have hB : Blk W w.heap.size (askL 0 step 1) 31 := hW ▸ Blk.new _ _ _
  show Calls _ _ _ (w.alloc (.cells (askL 0 step 1).toArray 31)) _
  rw [← hW]
  clear hW
  refine (C_Meant_z A cap xs W (Sl.up hr hbW) hl).mono ?_
  rintro e w1 ⟨v, rfl, ho1, hb1⟩
  have hz1 := hbW.size
  obtain ⟨B1, c1, rfl, hsl1⟩ := ho1.sl hb1.size
  have hbw1 := hbW.trans (hb1.mono hz1)
  have hfl : (xs.filter mayB).length ≤ xs.length := List.length_filter_le _ _
  have hsm : ∀ r ∈ xs.filter mayB, r.small := fun r h => hs r (List.mem_filter.1 h).1
  obtain ⟨ys, hys⟩ : ∃ ys, ys = xs.filter mayB := ⟨_, rfl⟩
  rw [← hys] at hsl1 hfl hsm ho1 ⊢
  have HY := Lib.hid hys
  clear hys
  go_wp2_with fail
  refine (C_rows_Own B1 c1 ys w1 hsl1 (by omega) hsm).mono ?_
  rintro e w2 ⟨v, rfl, ho2, hb2⟩
  obtain ⟨B2, c2, rfl, hsl2⟩ := ho2.sl hb2.size
  have hB2 := (hB.below hb1).below hb2
  have hbw2 := hbw1.trans (hb2.mono hbw1.size)
  go_wp2
  go_ret
  have ha : Below w2.heap.size w2 (w2.alloc (.cells #[.slice B2 ys.length c2] 51)) := (Below.refl _ _).alloc (Nat.le_refl _) _
  rw [← HY.out]
  exact ⟨_, _, B2, c2, rfl, hB2.below ha, by simp, by simp, Sl.up hsl2 ha, hbw2.trans (ha.mono hbw2.size)⟩
end Go.Proofs.YtbefkiebdokbdaaGreat.V
end

section
/- varvelaw23.told of query.Answers. -/
namespace Go.Proofs.YtbefkiebdokbdaaGreat.V
open Go.RowKit
set_option linter.unusedVariables false
set_option maxRecDepth 100000

set_option maxHeartbeats 2000000 in
theorem C_told (ba bi : Nat) (A : Option Addr) (cap : Nat) (xs : List Row) (step m : Int) (w : World) (h1 : 1 ≤ step) (h2 : step ≤ 1099511627776) (hm1 : 1 < m) (hm2 : m < 1000)
    (hask : Blk w ba (askL 0 step 1) 31) (hin : w.cell? ⟨bi, 0, none⟩ = some (.slice A xs.length cap)) (hbi : bi < w.heap.size) (hr : Sl (fun k => k < w.heap.size) w A xs) (hl : xs.length ≤ 1048576)
    (hc : ∀ r ∈ xs, pCheck r.s = true) (hg : ∀ r ∈ xs, r.s.gauge.wf) (hb : ∀ r ∈ xs, HistOk r.s) :
    Calls Tryz.prog 26 #[.func (.func 59) #[] #[.pointer (some ⟨ba, 0, none⟩), .pointer (some ⟨bi, 0, none⟩)], .int .i64 m] w fun e w' =>
      ∃ g o c, e = .returned (.slice (some ⟨g, o, none⟩) 1 c) ∧ AnsAt w' g o (cntA (cntS (winS 0 step xs))) ∧ w.heap.size ≤ g ∧ Below w.heap.size w w' := by
  have hal := hask.lt
  have hnil : ∀ w : World, (binOp BinOp.eql 54 (.func (.func 59) #[] #[.pointer (some ⟨ba, 0, none⟩), .pointer (some ⟨bi, 0, none⟩)]) Value.nilFunc).run Tryz.prog w = .ok (.bool false) w := fun w => by kernel_rfl
  go_enter Tryz.func26, Tryz.ntmps26
  go_wp2_with fail
  obtain ⟨W, hW⟩ : ∃ W, W = (w.alloc (.cells #[.int .i64 m] 3)).alloc (.cells #[.slice none 0 0] 58) := ⟨_, rfl⟩
  have hsz : (w.alloc (.cells #[.int .i64 m] 3)).heap.size = w.heap.size + 1 := by simp
  have hbW : Below w.heap.size w W := hW ▸ ((Below.refl _ _).alloc (Nat.le_refl _) _).alloc (by omega) _
  have hL : Blk W (w.heap.size + 1) [.slice none 0 0] 58 := by
    have := Blk.new (w.alloc (.cells #[.int .i64 m] 3)) [.slice none 0 0] 58
    rw [hsz] at this
    rw [hW]; exact this
  have hM : Blk W w.heap.size [.int .i64 m] 3 := by
    rw [hW]; exact (Blk.new w [.int .i64 m] 3).below ((Below.refl _ _).alloc (Nat.le_refl _) _)
  rw [← hW]
  clear hW hnil
  refine (C_Answers1 (w.heap.size + 1) w.heap.size ba bi A cap xs step m W h1 h2 hm1 (hask.below hbW) (bcell hbW hin) hL (hM.c 0 rfl) (by omega) (by omega) (by omega) ((hr.below hbW).mono (fun k hk h => ⟨hk, by omega⟩)) hl hc hg hb).mono ?_
  rintro e w1 ⟨⟨v, rfl⟩, ⟨g, o, c, q0, q1, q2⟩, hf⟩
  have hz := hbW.size
  have hfin : Below w.heap.size w w1 := hf.to_below hbW (fun k _ e => by omega)
  go_wp2
  go_ret
  exact ⟨g, o, c, rfl, q2, by omega, hfin⟩
end Go.Proofs.YtbefkiebdokbdaaGreat.V
end
