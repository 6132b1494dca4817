/- varvelaw23.QueryParts returns true for every input, and its arguments read afterwards as they did: where what it reads is of bulk at most 1048576. -/
import Derived.Test.YtbefkiebdokbdaaGreatParts
import Derived.Test.YtbefkiebdokbdaaGreatOpen2
namespace Go.Proofs.YtbefkiebdokbdaaGreat
open Go.ChangeShapes Go.WideShapes Go.ChangeAt Go.RowKit Go.Proofs.YtbefkiebdokbdaaGreat.V
set_option linter.unusedVariables false
set_option maxRecDepth 100000

theorem parts_own : ownKnob Tryz.prog.godebug = none := by kernel_rfl
theorem parts_laid : laidOutB Tryz.prog = true := by kernel_rfl
theorem parts_params : ∀ t ∈ Tryz.f10.params.toList, Tryz.prog.readableRec t = true ∧ t < Tryz.prog.types.size := by
  rw [Tryz.params10]
  intro t ht
  simp only [List.mem_cons, List.not_mem_nil, or_false] at ht
  rcases ht with rfl | rfl | rfl
  all_goals exact ⟨by kernel_rfl, of_decide_eq_true (by kernel_rfl)⟩
theorem parts_contract (H : Type) (enc : TypeId × Value → H) (W : World) (base : Nat) (args : Array Value) (ds gs : List (DataW H)) (before : List MemPlace)
    (hval : ∀ (j : Nat) t v, Tryz.f10.params[j]? = some t → args[j]? = some v → Value.okWide Tryz.prog W .any base t v)
    (hW : DataW.Whole enc Tryz.prog Tryz.f10.params.toList Rows.queryPartsSpec.vars false W args.toList ds gs before) (hk : Rows.uptoSmall H (ds ++ gs) = true) :
    Calls Tryz.prog 10 args W fun e W' => ∃ v, e = .returned v ∧ Rows.queryPartsSpec.post enc Tryz.prog Tryz.f10 false true false false W args v W' := by
  have hW' := hW
  obtain ⟨p, q, hA0, hV, rfl, hfz, hnd⟩ := hW
  have hA : DataW.TrodAll enc Tryz.prog W 0 (fun _ => true) true Tryz.f10.params.toList args.toList ds p := hA0
  rw [Tryz.params10] at hA hval
  obtain ⟨v0, vs0, d0, ds0, p0, q0, hargs, rfl, rfl, h0, r0⟩ := trodAll_cons hA
  obtain ⟨v1, vs1, d1, ds1, p1, q1, rfl, rfl, rfl, h1, r1⟩ := trodAll_cons r0
  obtain ⟨v2, vs2, d2, ds2, p2, q2, rfl, rfl, rfl, h2, r2⟩ := trodAll_cons r1
  obtain ⟨rfl, rfl, rfl⟩ := trodAll_nil r2
  obtain rfl : args = #[v0, v1, v2] := by cases args; simp_all
  obtain ⟨rfl, rfl⟩ := trodVars_none hV
  obtain ⟨a1, rfl, rfl, rfl, w1⟩ := open_int Tryz.underlying3 (hval 1 3 v1 rfl rfl) h1
  obtain ⟨a2, rfl, rfl, rfl, w2⟩ := open_int Tryz.underlying3 (hval 2 3 v2 rfl rfl) h2
  obtain ⟨A, len, cap, rfl⟩ := okWide_slice Tryz.underlying51 (hval 0 51 v0 rfl rfl)
  obtain ⟨fuel, hf⟩ := h0
  obtain ⟨A', xs, c', hcs, hsl, hnil, hgood, hc1, hc2⟩ := opens_slice goodRow_mono Tryz.underlying51 c_Row (opens_Row.b _) hf
  obtain ⟨rfl, rfl, rfl⟩ : A = A' ∧ len = xs.length ∧ cap = c' := by
    simp only [Value.cells, List.cons.injEq, Value.slice.injEq, and_true] at hcs
    exact hcs
  have hbulk : Rows.uptoBulk d0 ≤ 1048576 := by
    have := of_decide_eq_true hk
    simp only [List.append_nil, Rows.uptoBulkAll] at this
    omega
  have hsm : ∀ r ∈ xs, r.small := fun r hr => by
    obtain ⟨g1, g2, g3⟩ := hgood.2 r hr
    have g0 := g1.1
    dsimp only at g0 g2 g3
    exact ⟨by omega, by omega, by omega⟩
  clear hA0
  refine (C_Parts A cap xs a1 a2 W hsl hnil hc1 hsm (wf_I64 w1) (wf_I64 w2)).mono fun e W' ⟨he, hb⟩ => ?_
  subst he
  exact ⟨_, rfl, law_post parts_laid parts_params (by kernel_rfl) Tryz.underlying4 rfl hW' rfl hb⟩

set_option maxRecDepth 100000 in
theorem parts_lifted (os : Os) (started : os.Started) (H : Type) (enc : TypeId × Value → H) (F : Stop.Interp) :
    ReturnsInHanded {} Tryz.checked os 10 .any ((Rows.OpenSpec.upto Rows.queryPartsSpec).pre6 enc Tryz.prog Tryz.f10 Rows.queryPartsUptoRow.domain false) (((Rows.OpenSpec.upto Rows.queryPartsSpec).at F).post enc Tryz.prog Tryz.f10 false true false false) := by
  refine returnsInHanded_of_cond (C := Tryz.checked) (s := Rows.OpenSpec.upto Rows.queryPartsSpec) (k := Rows.uptoSmall) rfl parts_own started (by kernel_rfl) Tryz.func10
    (OpenSpec.witness (enc := enc) (C := Tryz.checked) (s := Rows.OpenSpec.upto Rows.queryPartsSpec) (k := Rows.uptoSmall) rfl false ⟨#[], #[.slice none 0 0, .int .i64 0, .int .i64 0], []⟩ 8 (by kernel_rfl) (by kernel_rfl) (by kernel_rfl)
      (x := ([.nil, .lit (.int .i64 0), .lit (.int .i64 0)], [], [])) (by kernel_rfl) rfl (by kernel_rfl)) ?_
  intro W base args ds gs before hval hW _ hk _
  exact parts_contract H enc W base args ds gs before hval hW hk

theorem parts_over : Rows.queryPartsUptoRow.holds Tryz.pinned (Rows.OpenSpec.upto Rows.queryPartsSpec) :=
  OpenClaim.holds_of_cond 10 Tryz.f10 rfl rfl rfl rfl rfl rfl rfl ⟨rfl, rfl, rfl, rfl, rfl⟩ rfl rfl rfl rfl rfl (by kernel_rfl) Tryz.func10 (by kernel_rfl)
    (of_decide_eq_true (by kernel_rfl)) (by unfold Func.isWrapper; first | (rw [if_pos (by decide +kernel)]; kernel_rfl) | (rw [if_neg (by decide +kernel)]; exact ⟨rfl, rfl⟩))
    (fun os started H enc _ F => parts_lifted os started H enc F)

theorem parts_proved : Rows.QueryPartsUptoSaid := parts_over
#print axioms parts_proved
end Go.Proofs.YtbefkiebdokbdaaGreat
