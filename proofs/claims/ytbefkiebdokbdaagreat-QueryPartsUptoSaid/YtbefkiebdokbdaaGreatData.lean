/- The data of the program as Lean types, and how each lies in cells. -/
import Derived.Test.YtbefkiebdokbdaaGreatRep
namespace Go.Proofs.YtbefkiebdokbdaaGreat.V
open Go.RowKit
set_option linter.unusedVariables false

def I64 (x : Int) : Prop := -9223372036854775808 ≤ x ∧ x ≤ 9223372036854775807
def U64 (x : Int) : Prop := 0 ≤ x ∧ x ≤ 18446744073709551615
def StrOk (s : ByteArray) : Prop := s.size ≤ 9223372036854775807

structure Bucket where
  at_ : Int
  n : Int
  deriving DecidableEq, Inhabited
structure Label where
  name : ByteArray
  value : ByteArray
  deriving DecidableEq, Inhabited
structure Gauge where
  n : Int
  nans : Int
  lo : Int
  hi : Int
  deriving DecidableEq, Inhabited
structure Sketch where
  hist : List Bucket
  hashes : List Int
  gauge : Gauge
  deriving DecidableEq, Inhabited
structure Row where
  labels : List Label
  at_ : Int
  s : Sketch
  deriving DecidableEq, Inhabited
inductive Matcher where
  | mk (op : Int) (name value : ByteArray) (values : List ByteArray) (kids : List Matcher)
  deriving Inhabited
def Matcher.op : Matcher → Int | .mk o _ _ _ _ => o
def Matcher.name : Matcher → ByteArray | .mk _ n _ _ _ => n
def Matcher.value : Matcher → ByteArray | .mk _ _ v _ _ => v
def Matcher.values : Matcher → List ByteArray | .mk _ _ _ v _ => v
def Matcher.kids : Matcher → List Matcher | .mk _ _ _ _ k => k
structure Ask where
  m : Matcher
  start : Int
  step : Int
  n : Int
  kind : Int
  a : Int
  b : Int
  deriving Inhabited
structure Answer where
  frm : Int
  has : Bool
  value : Int
  err : Int
  deriving DecidableEq, Inhabited

/-- Data without addresses. -/
@[reducible] def Rep.flat {α : Type} (n : Nat) (hn : 0 < n) (enc : α → List Value) (wf : α → Prop) (hl : ∀ x, (enc x).length = n) (ho : ∀ x, ∀ v ∈ enc x, v.oneCell' = true) : Rep α where
  sz := n
  pos := hn
  rep _ _ vs x := vs = enc x ∧ wf x
  len := fun h => by rw [h.1]; exact hl _
  keep := fun h _ => h
  mono := fun h _ => h
  one := fun h => by rw [h.1]; exact ho _

instance : Rep Int := Rep.flat 1 (by decide) (fun x => [.int .u64 x]) U64 (fun _ => rfl) (fun x v hv => by simp at hv; subst hv; rfl)
instance : Rep ByteArray := Rep.flat 1 (by decide) (fun x => [.string x]) StrOk (fun _ => rfl) (fun x v hv => by simp at hv; subst hv; rfl)
def encBucket (x : Bucket) : List Value := [.int .i64 x.at_, .int .u64 x.n]
def Bucket.wf (x : Bucket) : Prop := I64 x.at_ ∧ U64 x.n
instance : Rep Bucket := Rep.flat 2 (by decide) encBucket Bucket.wf (fun _ => rfl) (fun x v hv => by simp [encBucket] at hv; rcases hv with rfl | rfl <;> rfl)
def encLabel (x : Label) : List Value := [.string x.name, .string x.value]
def Label.wf (x : Label) : Prop := StrOk x.name ∧ StrOk x.value
instance : Rep Label := Rep.flat 2 (by decide) encLabel Label.wf (fun _ => rfl) (fun x v hv => by simp [encLabel] at hv; rcases hv with rfl | rfl <;> rfl)
def encGauge (x : Gauge) : List Value := [.int .u64 x.n, .int .u64 x.nans, .int .u64 x.lo, .int .u64 x.hi]
def Gauge.wf (x : Gauge) : Prop := U64 x.n ∧ U64 x.nans ∧ U64 x.lo ∧ U64 x.hi
def encAnswer (x : Answer) : List Value := [.int .i64 x.frm, .bool x.has, .int .u64 x.value, .int .i64 x.err]
def Answer.wf (x : Answer) : Prop := I64 x.frm ∧ U64 x.value ∧ I64 x.err
instance : Rep Answer := Rep.flat 4 (by decide) encAnswer Answer.wf (fun _ => rfl) (fun x v hv => by simp [encAnswer] at hv; rcases hv with rfl | rfl | rfl | rfl <;> rfl)

/-- A sketch's cells. -/
def SketchRep (ok : Nat → Prop) (w : World) (vs : List Value) (x : Sketch) : Prop :=
  ∃ A1 c1 A2 c2, vs = [.slice A1 x.hist.length c1, .slice A2 x.hashes.length c2, .int .u64 x.gauge.n, .int .u64 x.gauge.nans, .int .u64 x.gauge.lo, .int .u64 x.gauge.hi] ∧ Sl ok w A1 x.hist ∧ Sl ok w A2 x.hashes ∧ x.gauge.wf ∧ (A1 = none → c1 = 0) ∧ (A2 = none → c2 = 0)
instance : Rep Sketch where
  sz := 6
  pos := by decide
  rep := SketchRep
  len := fun h => by obtain ⟨_, _, _, _, rfl, _⟩ := h; rfl
  keep := fun h hk => by obtain ⟨A1, c1, A2, c2, e, h1, h2, h3⟩ := h; exact ⟨A1, c1, A2, c2, e, h1.keep hk, h2.keep hk, h3⟩
  mono := fun h hi => by obtain ⟨A1, c1, A2, c2, e, h1, h2, h3⟩ := h; exact ⟨A1, c1, A2, c2, e, h1.mono hi, h2.mono hi, h3⟩
  one := fun h v hv => by obtain ⟨_, _, _, _, rfl, _⟩ := h; simp at hv; rcases hv with rfl | rfl | rfl | rfl | rfl | rfl <;> rfl

def RowRep (ok : Nat → Prop) (w : World) (vs : List Value) (x : Row) : Prop :=
  ∃ A0 c0 A1 c1 A2 c2, vs = [.slice A0 x.labels.length c0, .int .i64 x.at_, .slice A1 x.s.hist.length c1, .slice A2 x.s.hashes.length c2, .int .u64 x.s.gauge.n, .int .u64 x.s.gauge.nans, .int .u64 x.s.gauge.lo, .int .u64 x.s.gauge.hi] ∧
    Sl ok w A0 x.labels ∧ I64 x.at_ ∧ Sl ok w A1 x.s.hist ∧ Sl ok w A2 x.s.hashes ∧ x.s.gauge.wf ∧ (A0 = none → c0 = 0) ∧ (A1 = none → c1 = 0) ∧ (A2 = none → c2 = 0)
instance : Rep Row where
  sz := 8
  pos := by decide
  rep := RowRep
  len := fun h => by obtain ⟨_, _, _, _, _, _, rfl, _⟩ := h; rfl
  keep := fun h hk => by obtain ⟨A0, c0, A1, c1, A2, c2, e, h0, hi, h1, h2, h3⟩ := h; exact ⟨A0, c0, A1, c1, A2, c2, e, h0.keep hk, hi, h1.keep hk, h2.keep hk, h3⟩
  mono := fun h hm => by obtain ⟨A0, c0, A1, c1, A2, c2, e, h0, hi, h1, h2, h3⟩ := h; exact ⟨A0, c0, A1, c1, A2, c2, e, h0.mono hm, hi, h1.mono hm, h2.mono hm, h3⟩
  one := fun h v hv => by obtain ⟨_, _, _, _, _, _, rfl, _⟩ := h; simp at hv; rcases hv with rfl | rfl | rfl | rfl | rfl | rfl | rfl | rfl <;> rfl

/-- A matcher's cells: the kids' own cells by a function. -/
inductive MRep (ok : Nat → Prop) (w : World) : List Value → Matcher → Prop
  | mk {op : Int} {name value : ByteArray} {values : List ByteArray} {kids : List Matcher} {A1 A2 : Option Addr} {c1 c2 : Nat} (vss : Nat → List Value)
      (hop : I64 op) (hn : StrOk name) (hv : StrOk value) (hvs : Sl ok w A1 values) (hl : kids.length ≤ 9223372036854775807)
      (hk : ∀ i (h : i < kids.length), MRep ok w (vss i) (kids[i]'h))
      (ha : 0 < kids.length → ∃ b off, A2 = some ⟨b, off, none⟩ ∧ ∀ i, i < kids.length → Cells ok w b (off + i * 5) (vss i))
      (hA1 : A1 = none → c1 = 0) (hA2 : A2 = none → c2 = 0) :
      MRep ok w [.int .i64 op, .string name, .string value, .slice A1 values.length c1, .slice A2 kids.length c2] (.mk op name value values kids)
theorem MRep.keep {ok : Nat → Prop} {w w' : World} {vs : List Value} {m : Matcher} (h : MRep ok w vs m) (hk : Keeps ok w w') : MRep ok w' vs m := by
  induction h with
  | mk vss hop hn hv hvs hl _ ha h1 h2 ih =>
    exact .mk vss hop hn hv (hvs.keep hk) hl ih (fun h => by obtain ⟨b, off, e, hc⟩ := ha h; exact ⟨b, off, e, fun i hi => (hc i hi).keep hk⟩) h1 h2
theorem MRep.mono {ok ok' : Nat → Prop} {w : World} {vs : List Value} {m : Matcher} (h : MRep ok w vs m) (hm : ∀ k, k < w.heap.size → ok k → ok' k) : MRep ok' w vs m := by
  induction h with
  | mk vss hop hn hv hvs hl _ ha h1 h2 ih =>
    exact .mk vss hop hn hv (hvs.mono hm) hl ih (fun h => by obtain ⟨b, off, e, hc⟩ := ha h; exact ⟨b, off, e, fun i hi => (hc i hi).mono hm⟩) h1 h2
instance : Rep Matcher where
  sz := 5
  pos := by decide
  rep := MRep
  len := fun h => by cases h; rfl
  keep := MRep.keep
  mono := MRep.mono
  one := fun h v hv => by cases h; simp at hv; rcases hv with rfl | rfl | rfl | rfl | rfl <;> rfl

/-- Rows of elements out of a function. -/
theorem Reps.ofFn {α : Type} [Rep α] {ok : Nat → Prop} {w : World} (xs : List α) (vss : Nat → List Value) (h : ∀ i (hi : i < xs.length), Rep.rep ok w (vss i) (xs[i]'hi)) :
    ∃ cs, Reps ok w cs xs ∧ ∀ j v, cs[j]? = some v → ∃ i r, i < xs.length ∧ j = i * Rep.sz α + r ∧ (vss i)[r]? = some v := by
  induction xs generalizing vss with
  | nil => exact ⟨[], .nil, fun j v h => by simp at h⟩
  | cons x xs ih =>
    obtain ⟨cs, hr, hc⟩ := ih (fun i => vss (i + 1)) (fun i hi => h (i + 1) (by simpa using hi))
    have h0 := h 0 (by simp)
    refine ⟨vss 0 ++ cs, .cons h0 hr, fun j v hj => ?_⟩
    have hl := Rep.len h0
    by_cases hlt : j < (vss 0).length
    · exact ⟨0, j, by simp, by simp, by rwa [List.getElem?_append_left hlt] at hj⟩
    · rw [List.getElem?_append_right (by omega)] at hj
      obtain ⟨i, r, hi, e, hv⟩ := hc _ _ hj
      exact ⟨i + 1, r, by simp; omega, by rw [Nat.add_mul]; omega, hv⟩
theorem Sl.ofFn {α : Type} [Rep α] {ok : Nat → Prop} {w : World} {A : Option Addr} {xs : List α} (vss : Nat → List Value) (hl : xs.length ≤ 9223372036854775807) (h : ∀ i (hi : i < xs.length), Rep.rep ok w (vss i) (xs[i]'hi))
    (ha : 0 < xs.length → ∃ b off, A = some ⟨b, off, none⟩ ∧ ∀ i, i < xs.length → Cells ok w b (off + i * Rep.sz α) (vss i)) : Sl ok w A xs := by
  obtain ⟨cs, hr, hc⟩ := Reps.ofFn xs vss h
  refine ⟨hl, cs, hr, fun h0 => ?_⟩
  obtain ⟨b, off, e, hcc⟩ := ha h0
  refine ⟨b, off, e, (hcc 0 h0).1, (hcc 0 h0).2.1, fun j v hj => ?_⟩
  obtain ⟨i, r, hi, ej, hv⟩ := hc j v hj
  rw [ej, ← Nat.add_assoc]
  exact (hcc i hi).2.2 r v hv
/-- A matcher's cells, taken apart; the kids as a slice. -/
theorem MRep.open_ {ok : Nat → Prop} {w : World} {vs : List Value} {m : Matcher} (h : MRep ok w vs m) :
    ∃ A1 c1 A2 c2, vs = [.int .i64 m.op, .string m.name, .string m.value, .slice A1 m.values.length c1, .slice A2 m.kids.length c2] ∧ I64 m.op ∧ StrOk m.name ∧ StrOk m.value ∧ Sl ok w A1 m.values ∧ Sl ok w A2 m.kids ∧ (A1 = none → c1 = 0) ∧ (A2 = none → c2 = 0) := by
  cases h with
  | mk vss hop hn hv hvs hl hk ha h1 h2 => exact ⟨_, _, _, _, rfl, hop, hn, hv, hvs, Sl.ofFn vss hl hk ha, h1, h2⟩
theorem MRep.make {ok : Nat → Prop} {w : World} {op : Int} {name value : ByteArray} {values : List ByteArray} {kids : List Matcher} {A1 A2 : Option Addr} {c1 c2 : Nat} (hop : I64 op) (hn : StrOk name) (hv : StrOk value) (hvs : Sl ok w A1 values) (hk : Sl ok w A2 kids) (hA1 : A1 = none → c1 = 0) (hA2 : A2 = none → c2 = 0) :
    MRep ok w [.int .i64 op, .string name, .string value, .slice A1 values.length c1, .slice A2 kids.length c2] (.mk op name value values kids) := by
  rcases Nat.eq_zero_or_pos kids.length with h0 | h0
  · exact .mk (fun _ => []) hop hn hv hvs (by omega) (fun i h => by omega) (fun h => by omega) hA1 hA2
  · obtain ⟨b, off, e, hb, hc⟩ := hk.addr h0
    refine .mk (fun i => if h : i < kids.length then (hc i h).choose else []) hop hn hv hvs hk.1 (fun i h => ?_) (fun _ => ⟨b, off, e, fun i h => ?_⟩) hA1 hA2
    · simp only [dif_pos h]; exact (hc i h).choose_spec.1
    · simp only [dif_pos h]; exact (hc i h).choose_spec.2

end Go.Proofs.YtbefkiebdokbdaaGreat.V
