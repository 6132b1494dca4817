/- query.Window at a count. -/
import Derived.Test.YtbefkiebdokbdaaGreatOne0
namespace Go.Proofs.YtbefkiebdokbdaaGreat.V
open Go.RowKit
set_option linter.unusedVariables false
set_option maxRecDepth 100000

theorem el_Sketch : ElemOf Tryz.prog 141 44 (Rep.sz Sketch) 80 := ElemOf.mk' (z := .agg #[.slice none 0 0, .slice none 0 0, .int .u64 0, .int .u64 0, .int .u64 0, .int .u64 0]) Tryz.underlying141 (by kernel_rfl) rfl
def inW (frm to : Int) (r : Row) : Bool := decide (frm ≤ r.at_) && decide (r.at_ < to)
/-- The sketches of a window. -/
def winS (frm to : Int) (l : List Row) : List Sketch := (l.filter (inW frm to)).map (·.s)
/-- The sum of sketches, as a sketch. -/
def sumS (l : List Sketch) : Sketch := ⟨hBk (sumH l) 7424, sumK l, sumG l⟩
/-- A sketch's buckets stand. -/
def HistOk (s : Sketch) : Prop := ∀ b ∈ s.hist, U64 b.n ∧ 0 ≤ b.at_ ∧ b.at_ < 7424
/-- What a window counts. -/
def cntS (l : List Sketch) : Int := hUp (hAdd h0 (hBk (sumH l) 7424)) 7424
def RWin (w : World) (frm v : Int) (e : Ending) (w' : World) : Prop :=
  e = .returned (.agg (ansL frm (satErr v == 0) (if satErr v = 0 then v else 0) (satErr v)).toArray) ∧ Below w.heap.size w w'

structure WI (w X : World) (ask : List Value) : Prop where
  ask : Blk X w.heap.size ask 31
  res : Blk X (w.heap.size + 1) (ansL 0 false 0 0) 47
  below : Below w.heap.size w X
theorem WI.step {w X X' : World} {ask : List Value} (h : WI w X ask) (hb : Below X.heap.size X X') : WI w X' ask := ⟨h.ask.below hb, h.res.below hb, h.below.trans (hb.mono h.below.size)⟩
theorem WI.frm {w X X' : World} {ask : List Value} (h : WI w X ask) (hf : Frm (fun k => w.heap.size + 2 ≤ k) X X') : WI w X' ask :=
  ⟨h.ask.frm hf (by omega), h.res.frm hf (by omega), hf.to_below h.below (fun k _ e => by omega)⟩
theorem WI.new (w : World) (ask : List Value) : WI w ((w.alloc (.cells ask.toArray 31)).alloc (.cells (ansL 0 false 0 0).toArray 47)) ask := by
  have hs : (w.alloc (.cells ask.toArray 31)).heap.size = w.heap.size + 1 := by simp
  have hr := Blk.new (w.alloc (.cells ask.toArray 31)) (ansL 0 false 0 0) 47
  rw [hs] at hr
  exact ⟨(Blk.new w ask _).below ((Below.refl _ _).alloc (Nat.le_refl _) _), hr, ((Below.refl _ _).alloc (Nat.le_refl _) _).alloc (by omega) _⟩

set_option maxHeartbeats 4000000 in
theorem C_Window_count (A : Option Addr) (cap : Nat) (xs : List Row) (start step n frm to : Int) (w : World) (hr : Sl (fun k => k < w.heap.size) w A xs) (hl : xs.length ≤ 1048576)
    (hc : ∀ r ∈ xs, pCheck r.s = true) (hg : ∀ r ∈ xs, r.s.gauge.wf) (hb : ∀ r ∈ xs, HistOk r.s) (hp : ∀ l : List Sketch, (∀ s ∈ l, HistOk s) → (∀ s ∈ l, s.gauge.wf) → (∀ s ∈ l, pCheck s = true) → pCheck (sumS l) = true ∧ (sumG l).wf) :
    Calls Tryz.prog 61 #[.agg (askL start step n).toArray, .slice A xs.length cap, .int .i64 frm, .int .i64 to] w (RWin w frm (cntS (winS frm to xs))) := by
  have hlen := hr.1
  have hP : pCheck (sumS (winS frm to xs)) = true ∧ (sumG (winS frm to xs)).wf := hp _ (fun s hs => by
    obtain ⟨r, hr, rfl⟩ := List.mem_map.1 hs
    exact hb r (List.mem_filter.1 hr).1) (fun s hs => by
    obtain ⟨r, hr, rfl⟩ := List.mem_map.1 hs
    exact hg r (List.mem_filter.1 hr).1) (fun s hs => by
    obtain ⟨r, hr, rfl⟩ := List.mem_map.1 hs
    exact hc r (List.mem_filter.1 hr).1)
  have hQ : ∀ s ∈ winS frm to xs, pCheck s = true := fun s hs => by
    obtain ⟨r, hr, rfl⟩ := List.mem_map.1 hs
    exact hc r (List.mem_filter.1 hr).1
  have HP := Lib.hid hP
  have HQ := Lib.hid hQ
  clear hP hQ hp hc hg hb
  go_enter Tryz.func61, Tryz.ntmps61
  go_wp2_with fail
  obtain ⟨W, hW⟩ : ∃ W, W = (w.alloc (.cells (askL start step n).toArray 31)).alloc (.cells (ansL 0 false 0 0).toArray 47) := ⟨_, rfl⟩
  have hI : WI w W (askL start step n) := hW ▸ WI.new w _
  have hWs : W.heap.size = w.heap.size + 2 := by rw [hW]; simp
  show Code.wp _ _ _ _ ((w.alloc (.cells (askL start step n).toArray 31)).alloc (.cells (ansL 0 false 0 0).toArray 47))
  rw [← hW]
  clear hW
  go_loopw [9, 11, 17] (fun v _ i wr => ∃ (k : Nat), k ≤ xs.length ∧ i = .int .i64 k ∧ Own wr (w.heap.size + 2) 44 v (winS frm to (xs.take k)) ∧ WI w wr (askL start step n)) (fun _ _ i _ => xs.length - (intOf i).toNat)
  case atStart => exact ⟨0, Nat.zero_le _, rfl, Own.nil _ _ _, hI⟩
  case round =>
    clear hI
    obtain ⟨k, hk, rfl, hown, hI⟩ := hrel
    by_cases hlt : k < xs.length
    · obtain ⟨b, off, A0, c0, A1, c1, A2, c2, rfl, hob, hlb, y0, y1, y2, y3, y4, y5, y6, y7, s0, hi, s1, s2, hgw, m0, m1, m2⟩ := (hr.below hI.below).row hlt
      have htk : xs.take (k + 1) = xs.take k ++ [xs[k]] := List.take_succ_eq_append_getElem hlt
      have hle : (winS frm to (xs.take k)).length ≤ k := by
        unfold winS; rw [List.length_map]
        have := List.length_filter_le (inW frm to) (xs.take k); simp at this; omega
      have hfl : winS frm to (xs.take (k + 1)) = winS frm to (xs.take k) ++ (if inW frm to xs[k] = true then [xs[k].s] else []) := by
        unfold winS
        rw [htk, List.filter_append, List.map_append]; simp only [List.filter_cons, List.filter_nil]
        split <;> rfl
      have HT := Lib.hid hfl
      clear htk hfl
      generalize winS frm to (xs.take k) = pre at *
      generalize xs[k] = r at *
      obtain ⟨W2, hW2⟩ : ∃ W2, W2 = wr.alloc (.cells (rowL A0 c0 A1 c1 A2 c2 r).toArray 67) := ⟨_, rfl⟩
      have hbW : Below wr.heap.size wr W2 := hW2 ▸ (Below.refl _ _).alloc (Nat.le_refl _) _
      have hI2 := hI.step hbW
      have hown2 := hown.below hbW
      have hBW : Blk W2 wr.heap.size (rowL A0 c0 A1 c1 A2 c2 r) 67 := hW2 ▸ Blk.new _ _ _
      by_cases ha : frm ≤ r.at_
      · by_cases hb : r.at_ < to
        · have e : inW frm to r = true := by unfold inW; simp [ha, hb]
          have HE := Lib.hid e
          clear e
          have hub : ∀ j, u9.ownBlock = some j → w.heap.size + 2 ≤ j ∧ j < wr.heap.size := fun j hj => by obtain ⟨cs, _, ho'⟩ := hown; exact ho'.lt j hj
          have hws := hI.below.size
          have hwz := hbW.size
          have hrw := hI.res.lt
          have hrow1 : Rep.rep (fun k => k < W2.heap.size ∧ some k ≠ u9.ownBlock) W2 (sketchL A1 c1 A2 c2 r.s) r.s := by
            have hf : ∀ k, k < W2.heap.size → k < w.heap.size → (k < W2.heap.size ∧ some k ≠ u9.ownBlock) := fun k h1 h2 => ⟨h1, fun e => by have := (hub k e.symm).1; omega⟩
            exact ⟨A1, c1, A2, c2, rfl, (s1.below hbW).mono hf, (s2.below hbW).mono hf, hgw, m1, m2⟩
          have hA1 : pre.length + 1 ≤ 9223372036854775807 := by omega
          have hA2 : (pre.length + 1) * 80 ≤ 140737488355328 := by omega
          have hA3 : w.heap.size + 2 ≤ W2.heap.size := by omega
          clear s0 s1 s2 hbW hBW hown hI
          have hWz : W2.heap.size = wr.heap.size + 1 := by rw [hW2]; simp
          go_wp2_with (at_builtin; rw [← hW2]; refine wpOwn_append1 (sketchL A1 c1 A2 c2 r.s) r.s rfl _ _ 141 44 44 80 (w.heap.size + 2) rfl rfl el_Sketch rfl hown2 (by rw [hWz]; rfl) hrow1 hA1 hA2 hA3 ?_)
          intro v' w3 ho2 hg2 hat2
          rw [← hW2] at hg2
          go_wp2
          go_roundw
          case rel => exact ⟨k + 1, by omega, by go_num, by rw [HT.out, HE.out]; simpa using ho2, hI2.frm ((Frm.of_grown' hg2).mono (fun k _ e => (hub _ e).1))⟩
          case measure => simp [intOf]; omega
        · have e : inW frm to r = false := by unfold inW; simp [hb]
          have HE := Lib.hid e
          clear e
          go_wp2
          rw [← hW2]
          go_roundw
          case rel => exact ⟨k + 1, by omega, by go_num, by rw [HT.out, HE.out]; simpa using hown2, hI2⟩
          case measure => simp [intOf]; omega
      · have e : inW frm to r = false := by unfold inW; simp [ha]
        have HE := Lib.hid e
        clear e
        go_wp2
        rw [← hW2]
        go_roundw
        case rel => exact ⟨k + 1, by omega, by go_num, by rw [HT.out, HE.out]; simpa using hown2, hI2⟩
        case measure => simp [intOf]; omega
    · have hkk : k = xs.length := by omega
      rw [hkk, List.take_length] at hown
      have hrw := hI.res.lt
      obtain ⟨B, c, rfl, hsl⟩ := hown.sl (by omega)
      have hq := HQ.out
      have hsumn : cntS (winS frm to xs) = hUp (hAdd h0 (sumS (winS frm to xs)).hist) 7424 := rfl
      have HCN := Lib.hid hsumn
      clear hsumn
      have hp2 := HP.out
      generalize winS frm to xs = l at *
      have HP2 := Lib.hid hp2
      have HQ2 := Lib.hid hq
      clear hp2 hq hown
      go_wp2_with fail
      refine (C_pair_Sum B c l wr hsl HQ2.out).mono ?_
      rintro e w1 ⟨A1, c1, A2, c2, v1, v2, rfl, rfl, rfl, z1, z2, m1, m2, hb1⟩
      have hI1 := hI.step hb1
      clear hI hsl
      have a0 := hI1.ask.c 0 rfl
      have a1 := hI1.ask.c 1 rfl
      have a2 := hI1.ask.c 2 rfl
      have a3 := hI1.ask.c 3 rfl
      have a4 := hI1.ask.c 4 rfl
      have a5 := hI1.ask.c 5 rfl
      have a6 := hI1.ask.c 6 rfl
      have a7 := hI1.ask.c 7 rfl
      have a8 := hI1.ask.c 8 rfl
      have a9 := hI1.ask.c 9 rfl
      have a10 := hI1.ask.c 10 rfl
      have hz1 := hb1.size
      have nea : w.heap.size ≠ w1.heap.size := by omega
      have neb : w1.heap.size ≠ w.heap.size := by omega
      have nec : w.heap.size < w1.heap.size := by omega
      go_wp2_with fail
      obtain ⟨Z, hZ⟩ : ∃ Z, Z = w1.alloc (.cells (sketchL A1 c1 A2 c2 (sumS l)).toArray 44) := ⟨_, rfl⟩
      have hbZ : Below w1.heap.size w1 Z := hZ ▸ (Below.refl _ _).alloc (Nat.le_refl _) _
      have hI2 := hI1.step hbZ
      show Calls _ _ _ (w1.alloc (.cells (sketchL A1 c1 A2 c2 (sumS l)).toArray 44)) _
      rw [← hZ]
      refine (C_One_count A1 c1 A2 c2 (sumS l) start step n Z (Sl.up z1 hbZ) (Sl.up z2 hbZ) HP2.out.2 HP2.out.1).mono ?_
      rintro e w2 ⟨rfl, hb2⟩
      rw [← HCN.out]
      have hI3 := hI2.step hb2
      have hzz := hbZ.size
      have hz2 := hb2.size
      generalize cntS l = v at *
      clear hI1 hI2 hZ hbZ z1 z2 a0 a1 a2 a3 a4 a5 a6 a7 a8 a9 a10
      obtain ⟨hs, hhs⟩ : ∃ x, x = (satErr v == 0) := ⟨_, rfl⟩
      obtain ⟨vv, hvv⟩ : ∃ x, x = (if satErr v = 0 then v else 0) := ⟨_, rfl⟩
      obtain ⟨er, her⟩ : ∃ x, x = satErr v := ⟨_, rfl⟩
      have fin : ∀ X, Below w.heap.size w X → RWin w frm v (.returned (.agg (ansL frm hs vv er).toArray)) X := fun X hb => ⟨by rw [hhs, hvv, her], hb⟩
      have FIN := Lib.hid fin
      rw [← hhs, ← hvv, ← her]
      clear fin hhs hvv her
      have r0 := hI3.res.c 0 rfl
      have r1 := hI3.res.c 1 rfl
      have r2 := hI3.res.c 2 rfl
      have r3 := hI3.res.c 3 rfl
      have f0 := hI3.res.f 0
      have f1 := hI3.res.f 1
      have f2 := hI3.res.f 2
      have f3 := hI3.res.f 3
      have ne1 : w.heap.size + 1 ≠ w2.heap.size := by omega
      have ne2 : w2.heap.size ≠ w.heap.size + 1 := by omega
      have ne3 : w.heap.size + 1 < w2.heap.size := by omega
      go_wp2_with fail
      have q1 := (((hI3.res.set 0 (.int .i64 frm)).set 1 (.bool hs)).set 2 (.int .u64 vv)).set 3 (.int .i64 er)
      have q2 := ((((Frm.refl (fun k => k = w.heap.size + 1) w2).one rfl 0 (.int .i64 frm)).one rfl 1 (.bool hs)).one rfl 2 (.int .u64 vv)).one rfl 3 (.int .i64 er)
      have q3 := q2.to_below hI3.below (fun k _ e => by omega)
      revert q1 q3
      clear q2 r0 r1 r2 r3 f0 f1 f2 f3
      generalize (World.setCell _ ⟨w.heap.size + 1, 3, none⟩ (.int .i64 er)) = Y
      intro q1 q3
      have q4 := q1.below ((Below.refl _ _).alloc (Nat.le_refl _) (.cells #[.int .i64 frm, .bool hs, .int .u64 vv, .int .i64 er] 47))
      have q5 := q3.alloc q3.size (.cells #[.int .i64 frm, .bool hs, .int .u64 vv, .int .i64 er] 47)
      clear q1 q3
      generalize Y.alloc (.cells #[.int .i64 frm, .bool hs, .int .u64 vv, .int .i64 er] 47) = X at *
      have k0 := q4.c 0 rfl
      have k1 := q4.c 1 rfl
      have k2 := q4.c 2 rfl
      have k3 := q4.c 3 rfl
      exact bodyPost_ret (v := .agg (ansL frm hs vv er).toArray) (by simp [results, Tryz.results61, go_sem, k0, k1, k2, k3]) rfl (FIN.out _ q5)
end Go.Proofs.YtbefkiebdokbdaaGreat.V
