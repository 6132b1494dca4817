/- Part 18 of the proof: Win1, Bridge. -/
import Derived.RangeFuncNested
import Derived.RangeFuncBound
import Derived.RangeFuncCalls
import Derived.RangeFuncLeaves
import Derived.Shelf.Abstract
import Derived.Shelf.RegionOpen
import Derived.WalkKit
import Derived.OwnWalkIn
import Derived.TacticsInMore
import Derived.LoopNIn
import Derived.LoopIn
import Derived.Sort.QuietTacIn
import Derived.OrdersIn
import Derived.OrdersHeld
import Derived.Test.YtbefkiebdokbdaaGreatB16

section
/- cal.Windows$1 at one window from 0 on: its contract as an iterator. -/
namespace Go.Proofs.YtbefkiebdokbdaaGreat.V
open Go.RowKit Go.Shelf
attribute [local go_sem] Oper.semAt_some
set_option linter.unusedVariables false
set_option maxRecDepth 100000

set_option maxHeartbeats 2000000 in
theorem Win1_stops (F : Fence) (n : Nat) (hf : F.fn 95) (hro : F.round = none) (hn : 1 ≤ n) (bs bt bn : Nat) (step : Int) (h1 : 1 ≤ step) (h2 : step ≤ 1099511627776) (w : World)
    (x0 : Blk w bs [.int .i64 0] 3) (x1 : Blk w bt [.int .i64 step] 3) (x2 : Blk w bn [.int .i64 1] 3) :
    SeqStopsK F n Tryz.prog 95 #[.pointer (some ⟨bt, 0, none⟩), .pointer (some ⟨bn, 0, none⟩), .pointer (some ⟨bs, 0, none⟩)] (fun (_ : Unit) => #[.int .i64 0, .int .i64 step]) (fun _ _ => True) (fun xs => xs = [()]) (fun pre => pre = [()]) 1 w := fun l J Jx W hW hJ hJx hY h0 => by
  have y0 := (x0.below hW).c 0 rfl
  have y1 := (x1.below hW).c 0 rfl
  have y2 := (x2.below hW).c 0 rfl
  have d1 : decide (step < 1) = false := by simp; omega
  have hq : 1 ≤ Int.tdiv 1099511627776 step := by
    rw [Int.tdiv_eq_ediv_of_nonneg (by omega)]
    exact (Int.le_ediv_iff_mul_le (by omega)).2 (by omega)
  have hq2 : Int.tdiv 1099511627776 step ≤ 1099511627776 := by
    rw [Int.tdiv_eq_ediv_of_nonneg (by omega)]
    exact Int.ediv_le_self _ (by omega)
  have hw : IntKind.i64.wrap (Int.tdiv 1099511627776 step) = Int.tdiv 1099511627776 step := IntWalk.i64_in _ (by omega)
  have d2 : decide (Int.tdiv 1099511627776 step < 1) = false := by rw [decide_eq_false_iff_not]; omega
  have hs0 : (step == 0) = false := by simp; omega
  have hs1 : step ≠ 0 := by omega
  refine callsIn_of_wp Tryz.func95 rfl hf ?_ hro
  simp only [Tryz.ntmps95, List.size_toArray, List.length_cons, List.length_nil, Nat.reduceAdd, Nat.reduceSub, Array.replicate_succ, Array.replicate_zero, List.push_toArray, List.append_toArray, List.nil_append, List.cons_append]
  gi_wp2
  refine wpIn_region_quiet_lit hro (by kernel_rfl) (by kernel_rfl) ?_
  repeat (quiet_step_in (fail))
  refine wpQuietIn_nil ?_
  rintro _ ⟨nq, rfl⟩
  have hJW : J [] (W.drewN nq) := hJ [] W _ none h0 ⟨rfl, rfl, rfl, Nat.le_refl _, fun _ _ _ => rfl⟩ (fun r e => by cases e)
  have hw0 : IntKind.i64.wrap 1099511627776 = 1099511627776 := by decide
  simp only [hw0, hw, d2]
  have hsm : IntKind.i64.wrap (0 * step) = 0 := by rw [Int.zero_mul]; decide
  have hsa : IntKind.i64.wrap (0 + step) = step := by rw [Int.zero_add]; exact IntWalk.i64_in _ (by omega)
  clear hw d2 hq hq2 hw0
  obtain ⟨f1, t1, a1, b1, hy1, hR1⟩ := hY [] () (W.drewN nq) hJW (by simp)
  try dsimp only at hy1
  gi_wp2
  refine wpIn_loop_rounds 2 ?_
  rw [roundsIn_succ]
  gi_wp2
  refine hR1.mono ?_
  rintro e W1 (⟨rfl, hJ1, _⟩ | ⟨rfl, hx1⟩)
  · gi_wp2
    rw [roundsIn_succ]
    gi_wp2
    go_end0
    exact ⟨⟨_, rfl⟩, .inl ⟨_, rfl, hJ1⟩⟩
  · gi_wp2
    refine bodyPost_ret (results_none rfl _ _ _) rfl ?_
    exact ⟨⟨_, rfl⟩, .inr ⟨_, rfl, hx1⟩⟩
end Go.Proofs.YtbefkiebdokbdaaGreat.V
end

section
/- A region that draws its order in a round, at the wide fence: the plain calculus serves. -/
namespace Go.Proofs.YtbefkiebdokbdaaGreat.V
open Go.RowKit Go.Shelf
set_option linter.unusedVariables false
section
variable {P : Program} {ops : Array Oper} {Q : Exit → Act → World → Prop} {md : Region.Mode} {l n : Nat}

theorem bridge_op {o : Oper} {a : Act} {w : World} {K : Act → World → Prop} (hnd : ∀ c, o.op ≠ .defer c) (h : o.wp P a w K Q) : o.wpIn (Fence.wide.inRound l) n P a w K Q := by
  unfold Oper.wpIn
  refine ⟨fun _ _ => trivial, ?_⟩
  rw [Oper.semAt_eq _ _ _ hnd]
  unfold Oper.wp at h
  generalize (execOp a.eval o).run P w = r at *
  cases r with
  | ok x w' =>
    cases x <;> simp only [Oper.upon, Oper.uponIn] at h ⊢ <;>
      first
        | exact h
        | exact h.elim
        | exact ⟨fun h => absurd h (by decide), CallsIn.inRound l (callsIn_wide.2 h)⟩
        | (refine ⟨fun h => absurd h (by simp [Fence.inRound, Fence.wide]), ?_⟩; exact CallsIn.inRound l (callsIn_wide.2 h))
        | (refine ⟨fun h => absurd h (by simp [Fence.inRound, Fence.wide]), ?_⟩; exact fun c cs _ => let ⟨v, w', r, s⟩ := h c cs; ⟨v, w', r, stepsIn_wide.2 s⟩)
  | halt x w' => cases x <;> simp only [Oper.upon, Oper.uponIn] at h ⊢ <;> first | exact h | exact h.elim
theorem bridge_at {i : Nat} {a : Act} {w : World} {K : Act → World → Prop} (hnd : ∀ (j : Nat) (o : Oper) c, ops[j]? = some o → o.op ≠ .defer c) (hQ : ¬ LetsOut Q) (h : wpOp P ops Q i K a w) : wpOpIn (Fence.wide.inRound l) n P ops Q i K a w := by
  unfold wpOp at h
  unfold wpOpIn
  cases ho : ops[i]? with
  | none => simpa [ho] using h
  | some o =>
    simp only [ho] at h ⊢
    split
    · rename_i hw
      rw [if_pos hw] at h
      rcases h with h | h
      · exact bridge_op (fun c => hnd i o c ho) h
      · exact absurd h.2 hQ
    · rename_i hw
      rw [if_neg hw] at h
      exact ⟨fun _ _ => trivial, h⟩
theorem bridge_any (hnd : ∀ (j : Nat) (o : Oper) c, ops[j]? = some o → o.op ≠ .defer c) (hQ : ¬ LetsOut Q) : ∀ (fuel : Nat) (listed : Array Bool) (a : Act) (w : World), wpAny P md ops Q fuel listed a w → wpAnyIn (Fence.wide.inRound l) n P md ops Q fuel listed a w
  | 0, _, _, _, h => h
  | fuel + 1, _, _, _, h => ⟨h.1, fun i hi => bridge_at hnd hQ (wpOp_mono (fun a' w' h' => bridge_any hnd hQ fuel _ a' w' h') (h.2 i hi))⟩
/-- A region that draws its order, in a round at the wide fence: by the plain walk of all orders, loads first. -/
theorem region_bridge {S : World → Prop} {id : Nat} {a : Act} {w : World} (hm : P.follows .mixedOrders = true) (hnd : ∀ (j : Nat) (o : Oper) c, ops[j]? = some o → o.op ≠ .defer c) (hQ : ¬ LetsOut Q) (hS : S w.drew)
    (h : S w.drew → wpAnyH P .any ops Q S ops.size (Array.replicate ops.size false) a w.drew) : (Code.region id ops true).wpIn (Fence.wide.inRound l) n P Q a w :=
  wpIn_region_any hm (bridge_any hnd hQ _ _ _ _ (wpAny_of_held _ _ _ _ (h hS)))
end
end Go.Proofs.YtbefkiebdokbdaaGreat.V
end
