/- varvelaw23.QuerySets returns true for every input, and its arguments read afterwards as they did: where what it reads is of bulk at most 1048576. -/
import Derived.Test.YtbefkiebdokbdaaGreatB31
import Derived.Test.YtbefkiebdokbdaaGreatB36
namespace Go.Proofs.YtbefkiebdokbdaaGreat
open Go.ChangeShapes Go.WideShapes Go.ChangeAt Go.RowKit Go.Proofs.YtbefkiebdokbdaaGreat.V
set_option linter.unusedVariables false
set_option maxRecDepth 100000

theorem sets_own : ownKnob Tryz.prog.godebug = none := by kernel_rfl
theorem sets_laid : laidOutB Tryz.prog = true := by kernel_rfl
theorem sets_params : ∀ t ∈ Tryz.f8.params.toList, Tryz.prog.readableRec t = true ∧ t < Tryz.prog.types.size := by
  rw [Tryz.params8]
  intro t ht
  simp only [List.mem_cons, List.not_mem_nil, or_false] at ht
  rcases ht with rfl | rfl | rfl | rfl
  all_goals exact ⟨by kernel_rfl, of_decide_eq_true (by kernel_rfl)⟩
theorem sets_contract (H : Type) (enc : TypeId × Value → H) (W : World) (base : Nat) (args : Array Value) (ds gs : List (DataW H)) (before : List MemPlace)
    (hval : ∀ (j : Nat) t v, Tryz.f8.params[j]? = some t → args[j]? = some v → Value.okWide Tryz.prog W .any base t v)
    (hW : DataW.Whole enc Tryz.prog Tryz.f8.params.toList Rows.querySetsSpec.vars false W args.toList ds gs before) (hk : Rows.uptoSmall H (ds ++ gs) = true) :
    Calls Tryz.prog 8 args W fun e W' => ∃ v, e = .returned v ∧ Rows.querySetsSpec.post enc Tryz.prog Tryz.f8 false true false false W args v W' := by
  have hW' := hW
  obtain ⟨p, q, hA0, hV, rfl, hfz, hnd⟩ := hW
  have hA : DataW.TrodAll enc Tryz.prog W 0 (fun _ => true) true Tryz.f8.params.toList args.toList ds p := hA0
  rw [Tryz.params8] at hA hval
  obtain ⟨v0, vs0, d0, ds0, p0, q0, hargs, rfl, rfl, h0, r0⟩ := trodAll_cons hA
  obtain ⟨v1, vs1, d1, ds1, p1, q1, rfl, rfl, rfl, h1, r1⟩ := trodAll_cons r0
  obtain ⟨v2, vs2, d2, ds2, p2, q2, rfl, rfl, rfl, h2, r2⟩ := trodAll_cons r1
  obtain ⟨v3, vs3, d3, ds3, p3, q3, rfl, rfl, rfl, h3, r3⟩ := trodAll_cons r2
  obtain ⟨rfl, rfl, rfl⟩ := trodAll_nil r3
  obtain rfl : args = #[v0, v1, v2, v3] := by cases args; simp_all
  obtain ⟨rfl, rfl⟩ := trodVars_none hV
  obtain ⟨a1, rfl, rfl, rfl, w1⟩ := open_int Tryz.underlying3 (hval 2 3 v2 rfl rfl) h2
  obtain ⟨a2, rfl, rfl, rfl, w2⟩ := open_int Tryz.underlying3 (hval 3 3 v3 rfl rfl) h3
  obtain ⟨cs0, rfl, _⟩ := okWide_struct Tryz.underlying28 (hval 0 28 v0 rfl rfl)
  obtain ⟨A, len, cap, rfl⟩ := okWide_slice Tryz.underlying51 (hval 1 51 v1 rfl rfl)
  obtain ⟨fuel0, hf0⟩ := h0
  obtain ⟨fuel1, hf1⟩ := h1
  obtain ⟨m, hm, hg⟩ := opens_Matcher _ _ _ _ _ _ _ _ _ hf0
  obtain ⟨A', xs, c', hcs, hsl, hnil, hgood, hc1, hc2⟩ := opens_slice goodRow_mono Tryz.underlying51 c_Row (opens_Row.b _) hf1
  obtain ⟨rfl, rfl, rfl⟩ : A = A' ∧ len = xs.length ∧ cap = c' := by
    simp only [Value.cells, List.cons.injEq, Value.slice.injEq, and_true] at hcs
    exact hcs
  have hbulk : Rows.uptoBulk d0 ≤ 1048576 ∧ Rows.uptoBulk d1 ≤ 1048576 := by
    have := of_decide_eq_true hk
    simp only [List.append_nil, Rows.uptoBulkAll] at this
    omega
  have hsm : ∀ r ∈ xs, r.small := fun r hr => by
    obtain ⟨g1, g2, g3⟩ := hgood.2 r hr
    have g0 := g1.1
    dsimp only at g0 g2 g3
    exact ⟨by omega, by omega, by omega⟩
  clear hA0
  have hcall := C_Sets m cs0.toList A cap xs a1 a2 W (hg.mono hbulk.1) hm hsl hsm (wf_I64 w1) (wf_I64 w2)
  have e0 : cs0.toList.toArray = cs0 := by simp
  rw [e0] at hcall
  refine hcall.mono fun e W' ⟨he, hb⟩ => ?_
  subst he
  exact ⟨_, rfl, law_post sets_laid sets_params (by kernel_rfl) Tryz.underlying4 rfl hW' rfl hb⟩

set_option maxRecDepth 100000 in
theorem sets_lifted (os : Os) (started : os.Started) (H : Type) (enc : TypeId × Value → H) (F : Stop.Interp) :
    ReturnsInHanded {} Tryz.checked os 8 .any ((Rows.OpenSpec.upto Rows.querySetsSpec).pre6 enc Tryz.prog Tryz.f8 Rows.querySetsUptoRow.domain false) (((Rows.OpenSpec.upto Rows.querySetsSpec).at F).post enc Tryz.prog Tryz.f8 false true false false) := by
  refine returnsInHanded_of_cond (C := Tryz.checked) (s := Rows.OpenSpec.upto Rows.querySetsSpec) (k := Rows.uptoSmall) rfl sets_own started (by kernel_rfl) Tryz.func8
    (OpenSpec.witness (enc := enc) (C := Tryz.checked) (s := Rows.OpenSpec.upto Rows.querySetsSpec) (k := Rows.uptoSmall) rfl false ⟨#[], #[.agg #[.int .i64 0, .string ⟨#[]⟩, .string ⟨#[]⟩, .slice none 0 0, .slice none 0 0], .slice none 0 0, .int .i64 0, .int .i64 0], []⟩ 8 (by kernel_rfl) (by kernel_rfl) (by kernel_rfl)
      (x := ([.agg [.lit (.int .i64 0), .lit (.string []), .lit (.string []), .nil, .nil], .nil, .lit (.int .i64 0), .lit (.int .i64 0)], [], [])) (by kernel_rfl) rfl (by kernel_rfl)) ?_
  intro W base args ds gs before hval hW _ hk _
  exact sets_contract H enc W base args ds gs before hval hW hk

theorem sets_over : Rows.querySetsUptoRow.holds Tryz.pinned (Rows.OpenSpec.upto Rows.querySetsSpec) :=
  OpenClaim.holds_of_cond 8 Tryz.f8 rfl rfl rfl rfl rfl rfl rfl ⟨rfl, rfl, rfl, rfl, rfl⟩ rfl rfl rfl rfl rfl (by kernel_rfl) Tryz.func8 (by kernel_rfl)
    (of_decide_eq_true (by kernel_rfl)) (by unfold Func.isWrapper; first | (rw [if_pos (by decide +kernel)]; kernel_rfl) | (rw [if_neg (by decide +kernel)]; exact ⟨rfl, rfl⟩))
    (fun os started H enc _ F => sets_lifted os started H enc F)

theorem sets_proved : Rows.QuerySetsUptoSaid := sets_over
#print axioms sets_proved
end Go.Proofs.YtbefkiebdokbdaaGreat
