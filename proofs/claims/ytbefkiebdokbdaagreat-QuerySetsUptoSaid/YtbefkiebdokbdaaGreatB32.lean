/- Part 32 of the proof: Not. -/
import Derived.Test.YtbefkiebdokbdaaGreatB28
import Derived.Test.YtbefkiebdokbdaaGreatB31

section
/- The matcher that means what another does not, and the one that means all. -/
namespace Go.Proofs.YtbefkiebdokbdaaGreat.V
open Go.RowKit
set_option linter.unusedVariables false
set_option maxRecDepth 100000

def notM (m : Matcher) : Matcher := .mk 7 ⟨#[]⟩ ⟨#[]⟩ [] [m]
def zM : Matcher := .mk 0 ⟨#[]⟩ ⟨#[]⟩ [] []
@[reducible] def notL (b : Nat) : List Value := [.int .i64 7, .string ⟨#[]⟩, .string ⟨#[]⟩, .slice none 0 0, .slice (some ⟨b, 0, none⟩) 1 1]
theorem strOk_nil : StrOk ⟨#[]⟩ := by unfold StrOk; decide
theorem MRep.zM (ok : Nat → Prop) (w : World) : MRep ok w mz zM :=
  MRep.make (by unfold I64; omega) strOk_nil strOk_nil (Sl.nil _ _ none) (Sl.nil _ _ none) (fun _ => rfl) (fun _ => rfl)
theorem MRep.notM {w : World} {vs : List Value} {m : Matcher} (h : MRep (fun k => k < w.heap.size) w vs m) (t : Nat) :
    MRep (fun k => k < (w.alloc (.cells vs.toArray t)).heap.size) (w.alloc (.cells vs.toArray t)) (notL w.heap.size) (notM m) := by
  have hs := (Sl.new (α := Matcher) (ok := fun k => k < w.heap.size) (w := w) (x := m) h t).mono (ok' := fun k => k < (w.alloc (.cells vs.toArray t)).heap.size) (fun k hk _ => hk)
  exact MRep.make (by unfold I64; omega) strOk_nil strOk_nil (Sl.nil _ _ none) hs (fun _ => rfl) (fun e => by cases e)
theorem evalB_notM (m : Matcher) (l : List Label) : evalB (notM m) l = !evalB m l := by
  unfold notM
  rw [evalB]
  simp [evalK]
theorem meansB_zM (l : List Label) : meansB zM l = true := by
  unfold meansB zM holdsB
  rw [evalB]
  simp [mOk, mOkL, aloneB, mNodes, mNodesL, mBytes, mBytesL, vBytes]
  decide
theorem mayM_zM : mayM zM = mayB := by
  funext r; unfold mayM; rw [meansB_zM]; simp
theorem tot_parted (m : Matcher) (h1 : holdsB m 1 64 4096 = true) (h2 : holdsB (notM m) 1 64 4096 = true) (a c : Int) (xs : List Row) :
    tot (winS a c (xs.filter mayB)) = tot (winS a c (xs.filter (mayM m))) + tot (winS a c (xs.filter (mayM (notM m)))) := by
  induction xs with
  | nil => rfl
  | cons r xs ih =>
    have e1 : mayM m r = (mayB r && evalB m r.labels) := by unfold mayM meansB; rw [h1]; simp
    have e2 : mayM (notM m) r = (mayB r && !evalB m r.labels) := by unfold mayM meansB; rw [h2, evalB_notM]; simp
    have one : ∀ (p : Row → Bool), tot (winS a c ((r :: xs).filter p)) = (if p r = true ∧ inW a c r = true then (r.s.hist.map (·.n)).sum else 0) + tot (winS a c (xs.filter p)) := fun p => by
      rw [List.filter_cons]
      by_cases hp : p r = true
      · rw [if_pos hp]
        unfold winS
        rw [List.filter_cons]
        by_cases hw : inW a c r = true
        · rw [if_pos hw, if_pos ⟨hp, hw⟩, List.map_cons]; unfold tot; rw [List.map_cons, List.sum_cons]
        · rw [if_neg hw, if_neg (fun h => hw h.2)]; omega
      · rw [if_neg hp, if_neg (fun h => hp h.1)]; omega
    rw [one, one, one, ih, e1, e2]
    cases mayB r <;> cases evalB m r.labels <;> cases inW a c r <;> simp <;> omega
theorem rowsOk_may {ok : Nat → Prop} {w : World} {A : Option Addr} {xs : List Row} (h : Sl ok w A xs) (m : Matcher) : RowsOk (xs.filter (mayM m)) := fun r hr => by
  obtain ⟨h1, h2⟩ := List.mem_filter.1 hr
  exact mayB_ok h r (List.mem_filter.2 ⟨h1, by unfold mayM at h2; revert h2; simp; intro h _; exact h⟩)
theorem len_may (xs : List Row) (m : Matcher) (h : ¬ 30 < xs.length) : (xs.filter (mayM m)).length ≤ 1048576 := by have := List.length_filter_le (mayM m) xs; omega
/-- The one answer of a list. -/
theorem Sl.ans1 {ok : Nat → Prop} {w : World} {A : Option Addr} {a : Answer} (h : Sl ok w A [a]) : ∃ g o, A = some ⟨g, o, none⟩ ∧ AnsAt w g o a := by
  obtain ⟨b, off, vs, rfl, hv, hc⟩ := h.at_ (k := 0) (by simp)
  obtain ⟨rfl, _⟩ := hv
  simp only [Nat.zero_mul, Nat.add_zero] at hc
  exact ⟨b, off, rfl, hc.c0, hc.c1, hc.cj 2 _ rfl, hc.cj 3 _ rfl⟩
end Go.Proofs.YtbefkiebdokbdaaGreat.V
end
