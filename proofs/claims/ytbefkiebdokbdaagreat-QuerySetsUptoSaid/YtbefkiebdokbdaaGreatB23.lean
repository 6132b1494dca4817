/- Part 23 of the proof: WinG. -/
import Derived.Test.YtbefkiebdokbdaaGreatB16

section
/- query.Window, whatever query.One answers. -/
namespace Go.Proofs.YtbefkiebdokbdaaGreat.V
open Go.RowKit
set_option linter.unusedVariables false
set_option maxRecDepth 100000

set_option maxHeartbeats 4000000 in
theorem C_WinG (a0 a1 a2 a3 a4 a5 a6 a7 a8 a9 a10 : Value) (A : Option Addr) (cap : Nat) (xs : List Row) (frm to : Int) (an : Answer) (w : World) (hr : Sl (fun k => k < w.heap.size) w A xs) (hl : xs.length ≤ 1048576) (hc : ∀ r ∈ xs, pCheck r.s = true)
    (ho : ∀ (W : World) (A1 : Option Addr) (c1 : Nat) (A2 : Option Addr) (c2 : Nat), Sl (fun k => k < W.heap.size) W A1 (sumS (winS frm to xs)).hist → Sl (fun k => k < W.heap.size) W A2 (sumS (winS frm to xs)).hashes → Below w.heap.size w W →
      Calls Tryz.prog 18 #[.agg #[a0, a1, a2, a3, a4, a5, a6, a7, a8, a9, a10], .agg (sketchL A1 c1 A2 c2 (sumS (winS frm to xs))).toArray] W fun e w' => e = .returned (.agg (ansL an.frm an.has an.value an.err).toArray) ∧ Below W.heap.size W w') :
    Calls Tryz.prog 61 #[.agg #[a0, a1, a2, a3, a4, a5, a6, a7, a8, a9, a10], .slice A xs.length cap, .int .i64 frm, .int .i64 to] w fun e w' => e = .returned (.agg (ansL frm an.has an.value an.err).toArray) ∧ Below w.heap.size w w' := by
  have hlen := hr.1
  have hQ : ∀ s ∈ winS frm to xs, pCheck s = true := fun s hs => by
    obtain ⟨r, hr, rfl⟩ := List.mem_map.1 hs
    exact hc r (List.mem_filter.1 hr).1
  have HQ := Lib.hid hQ
  have HO0 := Lib.hid ho
  obtain ⟨af, hs, vv, er⟩ := an
  dsimp only at HO0 ⊢
  clear hQ hc ho
  go_enter Tryz.func61, Tryz.ntmps61
  go_wp2_with fail
  obtain ⟨W, hW⟩ : ∃ W, W = (w.alloc (.cells (#[a0, a1, a2, a3, a4, a5, a6, a7, a8, a9, a10] : Array Value) 31)).alloc (.cells (ansL 0 false 0 0).toArray 47) := ⟨_, rfl⟩
  have hI : WI w W [a0, a1, a2, a3, a4, a5, a6, a7, a8, a9, a10] := hW ▸ WI.new w _
  have hWs : W.heap.size = w.heap.size + 2 := by rw [hW]; simp
  show Code.wp _ _ _ _ ((w.alloc (.cells (#[a0, a1, a2, a3, a4, a5, a6, a7, a8, a9, a10] : Array Value) 31)).alloc (.cells (ansL 0 false 0 0).toArray 47))
  rw [← hW]
  clear hW
  go_loopw [9, 11, 17] (fun v _ i wr => ∃ (k : Nat), k ≤ xs.length ∧ i = .int .i64 k ∧ Own wr (w.heap.size + 2) 44 v (winS frm to (xs.take k)) ∧ WI w wr [a0, a1, a2, a3, a4, a5, a6, a7, a8, a9, a10]) (fun _ _ i _ => xs.length - (intOf i).toNat)
  case atStart => exact ⟨0, Nat.zero_le _, rfl, Own.nil _ _ _, hI⟩
  case round =>
    clear hI
    obtain ⟨k, hk, rfl, hown, hI⟩ := hrel
    by_cases hlt : k < xs.length
    · obtain ⟨b, off, A0, c0, A1, c1, A2, c2, rfl, hob, hlb, y0, y1, y2, y3, y4, y5, y6, y7, s0, hi, s1, s2, hgw, m0, m1, m2⟩ := (hr.below hI.below).row hlt
      have htk : xs.take (k + 1) = xs.take k ++ [xs[k]] := List.take_succ_eq_append_getElem hlt
      have hle : (winS frm to (xs.take k)).length ≤ k := by
        unfold winS; rw [List.length_map]
        have := List.length_filter_le (inW frm to) (xs.take k); simp at this; omega
      have hfl : winS frm to (xs.take (k + 1)) = winS frm to (xs.take k) ++ (if inW frm to xs[k] = true then [xs[k].s] else []) := by
        unfold winS
        rw [htk, List.filter_append, List.map_append]; simp only [List.filter_cons, List.filter_nil]
        split <;> rfl
      have HT := Lib.hid hfl
      clear htk hfl
      generalize winS frm to (xs.take k) = pre at *
      generalize xs[k] = r at *
      obtain ⟨W2, hW2⟩ : ∃ W2, W2 = wr.alloc (.cells (rowL A0 c0 A1 c1 A2 c2 r).toArray 67) := ⟨_, rfl⟩
      have hbW : Below wr.heap.size wr W2 := hW2 ▸ (Below.refl _ _).alloc (Nat.le_refl _) _
      have hI2 := hI.step hbW
      have hown2 := hown.below hbW
      have hBW : Blk W2 wr.heap.size (rowL A0 c0 A1 c1 A2 c2 r) 67 := hW2 ▸ Blk.new _ _ _
      by_cases ha : frm ≤ r.at_
      · by_cases hb : r.at_ < to
        · have e : inW frm to r = true := by unfold inW; simp [ha, hb]
          have HE := Lib.hid e
          clear e
          have hub : ∀ j, u9.ownBlock = some j → w.heap.size + 2 ≤ j ∧ j < wr.heap.size := fun j hj => by obtain ⟨cs, _, ho'⟩ := hown; exact ho'.lt j hj
          have hws := hI.below.size
          have hwz := hbW.size
          have hrw := hI.res.lt
          have hrow1 : Rep.rep (fun k => k < W2.heap.size ∧ some k ≠ u9.ownBlock) W2 (sketchL A1 c1 A2 c2 r.s) r.s := by
            have hf : ∀ k, k < W2.heap.size → k < w.heap.size → (k < W2.heap.size ∧ some k ≠ u9.ownBlock) := fun k h1 h2 => ⟨h1, fun e => by have := (hub k e.symm).1; omega⟩
            exact ⟨A1, c1, A2, c2, rfl, (s1.below hbW).mono hf, (s2.below hbW).mono hf, hgw, m1, m2⟩
          have hA1 : pre.length + 1 ≤ 9223372036854775807 := by omega
          have hA2 : (pre.length + 1) * 80 ≤ 140737488355328 := by omega
          have hA3 : w.heap.size + 2 ≤ W2.heap.size := by omega
          clear s0 s1 s2 hbW hBW hown hI
          have hWz : W2.heap.size = wr.heap.size + 1 := by rw [hW2]; simp
          go_wp2_with (at_builtin; rw [← hW2]; refine wpOwn_append1 (sketchL A1 c1 A2 c2 r.s) r.s rfl _ _ 141 44 44 80 (w.heap.size + 2) rfl rfl el_Sketch rfl hown2 (by rw [hWz]; rfl) hrow1 hA1 hA2 hA3 ?_)
          intro v' w3 ho2 hg2 hat2
          rw [← hW2] at hg2
          go_wp2
          go_roundw
          case rel => exact ⟨k + 1, by omega, by go_num, by rw [HT.out, HE.out]; simpa using ho2, hI2.frm ((Frm.of_grown' hg2).mono (fun k _ e => (hub _ e).1))⟩
          case measure => simp [intOf]; omega
        · have e : inW frm to r = false := by unfold inW; simp [hb]
          have HE := Lib.hid e
          clear e
          go_wp2
          rw [← hW2]
          go_roundw
          case rel => exact ⟨k + 1, by omega, by go_num, by rw [HT.out, HE.out]; simpa using hown2, hI2⟩
          case measure => simp [intOf]; omega
      · have e : inW frm to r = false := by unfold inW; simp [ha]
        have HE := Lib.hid e
        clear e
        go_wp2
        rw [← hW2]
        go_roundw
        case rel => exact ⟨k + 1, by omega, by go_num, by rw [HT.out, HE.out]; simpa using hown2, hI2⟩
        case measure => simp [intOf]; omega
    · have hkk : k = xs.length := by omega
      rw [hkk, List.take_length] at hown
      have hrw := hI.res.lt
      obtain ⟨B, c, rfl, hsl⟩ := hown.sl (by omega)
      have hq := HQ.out
      have ho := HO0.out
      generalize winS frm to xs = l at *
      have HO := Lib.hid ho
      have HQ2 := Lib.hid hq
      clear ho hq hown HO0
      go_wp2_with fail
      refine (C_pair_Sum B c l wr hsl HQ2.out).mono ?_
      rintro e w1 ⟨A1, c1, A2, c2, v1, v2, rfl, rfl, rfl, z1, z2, m1, m2, hb1⟩
      have hI1 := hI.step hb1
      clear hI hsl
      have ya0 := hI1.ask.c 0 rfl
      have ya1 := hI1.ask.c 1 rfl
      have ya2 := hI1.ask.c 2 rfl
      have ya3 := hI1.ask.c 3 rfl
      have ya4 := hI1.ask.c 4 rfl
      have ya5 := hI1.ask.c 5 rfl
      have ya6 := hI1.ask.c 6 rfl
      have ya7 := hI1.ask.c 7 rfl
      have ya8 := hI1.ask.c 8 rfl
      have ya9 := hI1.ask.c 9 rfl
      have ya10 := hI1.ask.c 10 rfl
      have hz1 := hb1.size
      have nea : w.heap.size ≠ w1.heap.size := by omega
      have neb : w1.heap.size ≠ w.heap.size := by omega
      have nec : w.heap.size < w1.heap.size := by omega
      go_wp2_with fail
      obtain ⟨Z, hZ⟩ : ∃ Z, Z = w1.alloc (.cells (sketchL A1 c1 A2 c2 (sumS l)).toArray 44) := ⟨_, rfl⟩
      have hbZ : Below w1.heap.size w1 Z := hZ ▸ (Below.refl _ _).alloc (Nat.le_refl _) _
      have hI2 := hI1.step hbZ
      show Calls _ _ _ (w1.alloc (.cells (sketchL A1 c1 A2 c2 (sumS l)).toArray 44)) _
      rw [← hZ]
      refine (HO.out Z A1 c1 A2 c2 (Sl.up z1 hbZ) (Sl.up z2 hbZ) hI2.below).mono ?_
      rintro e w2 ⟨rfl, hb2⟩
      have hI3 := hI2.step hb2
      have hzz := hbZ.size
      have hz2 := hb2.size
      clear hI1 hI2 hZ hbZ z1 z2 ya0 ya1 ya2 ya3 ya4 ya5 ya6 ya7 ya8 ya9 ya10
      have r0 := hI3.res.c 0 rfl
      have r1 := hI3.res.c 1 rfl
      have r2 := hI3.res.c 2 rfl
      have r3 := hI3.res.c 3 rfl
      have f0 := hI3.res.f 0
      have f1 := hI3.res.f 1
      have f2 := hI3.res.f 2
      have f3 := hI3.res.f 3
      have ne1 : w.heap.size + 1 ≠ w2.heap.size := by omega
      have ne2 : w2.heap.size ≠ w.heap.size + 1 := by omega
      have ne3 : w.heap.size + 1 < w2.heap.size := by omega
      go_wp2_with fail
      have q1 := (((hI3.res.set 0 (.int .i64 frm)).set 1 (.bool hs)).set 2 (.int .u64 vv)).set 3 (.int .i64 er)
      have q2 := ((((Frm.refl (fun k => k = w.heap.size + 1) w2).one rfl 0 (.int .i64 frm)).one rfl 1 (.bool hs)).one rfl 2 (.int .u64 vv)).one rfl 3 (.int .i64 er)
      have q3 := q2.to_below hI3.below (fun k _ e => by omega)
      revert q1 q3
      clear q2 r0 r1 r2 r3 f0 f1 f2 f3
      generalize (World.setCell _ ⟨w.heap.size + 1, 3, none⟩ (.int .i64 er)) = Y
      intro q1 q3
      have q4 := q1.below ((Below.refl _ _).alloc (Nat.le_refl _) (.cells #[.int .i64 frm, .bool hs, .int .u64 vv, .int .i64 er] 47))
      have q5 := q3.alloc q3.size (.cells #[.int .i64 frm, .bool hs, .int .u64 vv, .int .i64 er] 47)
      clear q1 q3
      generalize Y.alloc (.cells #[.int .i64 frm, .bool hs, .int .u64 vv, .int .i64 er] 47) = X at *
      have k0 := q4.c 0 rfl
      have k1 := q4.c 1 rfl
      have k2 := q4.c 2 rfl
      have k3 := q4.c 3 rfl
      exact bodyPost_ret (v := .agg (ansL frm hs vv er).toArray) (by simp [results, Tryz.results61, go_sem, k0, k1, k2, k3]) rfl ⟨rfl, q5⟩
end Go.Proofs.YtbefkiebdokbdaaGreat.V
end
