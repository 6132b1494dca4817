/- Part 30 of the proof: Open, Open2. -/
import Derived.Test.YtbefkiebdokbdaaGreatRows
import Derived.Deep.Slices
import Derived.ProofKit
import Derived.OpenShut
import Derived.JoinedCond
import Derived.Below
import Derived.ChangeSame
import Derived.Test.YtbefkiebdokbdaaGreatB0

section
/- Arguments opened: what a reading of Go data says of cells; and a law's last step. -/
namespace Go.Proofs.YtbefkiebdokbdaaGreat.V
open Go.RowKit Go.ChangeShapes Go.WideShapes Go.Deep
set_option linter.unusedVariables false

/-- Every reading at type t is one of α; 'good' bounds it by its bulk. -/
def Opens (t : TypeId) (α : Type) [Rep α] (good : Nat → α → Prop) : Prop :=
  ∀ (H : Type) (enc : TypeId × Value → H) (w : World) (base : Nat) (spare : Nat → Bool) (held : Bool) (fuel : Nat) (cs : List Value) (x : DataW H × List MemPlace), DataW.trod enc Tryz.prog w base spare held fuel t cs = some x →
    ∃ y : α, Rep.rep (fun k => k < w.heap.size) w cs y ∧ good (Rows.uptoBulk x.1) y

/-- The same, of readings of bulk below B. -/
def OpensB (B : Nat) (t : TypeId) (α : Type) [Rep α] (good : Nat → α → Prop) : Prop :=
  ∀ (H : Type) (enc : TypeId × Value → H) (w : World) (base : Nat) (spare : Nat → Bool) (held : Bool) (fuel : Nat) (cs : List Value) (x : DataW H × List MemPlace), DataW.trod enc Tryz.prog w base spare held fuel t cs = some x → Rows.uptoBulk x.1 < B →
    ∃ y : α, Rep.rep (fun k => k < w.heap.size) w cs y ∧ good (Rows.uptoBulk x.1) y
theorem Opens.b {t : TypeId} {α : Type} [Rep α] {good : Nat → α → Prop} (h : Opens t α good) (B : Nat) : OpensB B t α good := fun H enc w base spare held fuel cs x hx _ => h H enc w base spare held fuel cs x hx
theorem OpensB.all {t : TypeId} {α : Type} [Rep α] {good : Nat → α → Prop} (h : ∀ B, OpensB B t α good) : Opens t α good := fun H enc w base spare held fuel cs x hx => h _ H enc w base spare held fuel cs x hx (Nat.lt_succ_self _)

theorem bulk_one {H : Type} (d : DataW H) : 1 ≤ Rows.uptoBulk d := by
  cases d with
  | lit l => cases l <;> simp [Rows.uptoBulk]
  | nil => simp [Rows.uptoBulk]
  | ptr d => simp [Rows.uptoBulk]
  | slice elems spare => simp [Rows.uptoBulk]
  | agg parts => simp [Rows.uptoBulk]
  | iface t d => simp [Rows.uptoBulk]
  | map entries => simp [Rows.uptoBulk]
  | held h => simp [Rows.uptoBulk]
theorem bulk_part {H : Type} {d : DataW H} {l : List (DataW H)} (h : d ∈ l) : Rows.uptoBulk d ≤ Rows.uptoBulkAll l := by
  induction l with
  | nil => cases h
  | cons x r ih =>
    simp only [Rows.uptoBulkAll]
    cases List.mem_cons.1 h with
    | inl e => subst e; omega
    | inr e => have := ih e; omega
theorem bulk_len {H : Type} (l : List (DataW H)) : l.length ≤ Rows.uptoBulkAll l := by
  induction l with
  | nil => simp [Rows.uptoBulkAll]
  | cons x r ih => have := bulk_one x; simp only [Rows.uptoBulkAll, List.length_cons]; omega

/-- A list of bulk n at most: its length, and each of its elements. -/
def goodL {α : Type} (good : Nat → α → Prop) (n : Nat) (l : List α) : Prop := l.length ≤ n ∧ ∀ y ∈ l, good n y

/-- A slice's reading. -/
theorem opens_slice {t e : TypeId} {α : Type} [Rep α] {good : Nat → α → Prop} (hmono : ∀ a b y, a ≤ b → good a y → good b y) (ht : Tryz.prog.underlying t = some (.slice e)) (hC : Tryz.prog.cellsOf e = Rep.sz α) 
    {H : Type} {enc : TypeId × Value → H} {w : World} {base : Nat} {spare : Nat → Bool} {held : Bool} {fuel : Nat} {cs : List Value} {x : DataW H × List MemPlace} (he : OpensB (Rows.uptoBulk x.1) e α good) (h : DataW.trod enc Tryz.prog w base spare held fuel t cs = some x) :
    ∃ (A : Option Addr) (l : List α) (c : Nat), cs = [.slice A l.length c] ∧ Sl (fun k => k < w.heap.size) w A l ∧ (A = none → c = 0) ∧ goodL good (Rows.uptoBulk x.1) l ∧ l.length ≤ c ∧ c ≤ 9223372036854775807 := by
  rcases open_slice ht h with ⟨rfl, rfl⟩ | ⟨a, len, cap, m, n, D, Pl, rfl, hb, hl, hm, hmm, rfl, hi⟩
  · exact ⟨none, [], 0, rfl, Sl.nil _ _ _, fun _ => rfl, ⟨by simp, fun y h => by cases h⟩, by simp, by omega⟩
  · have hlm : len ≤ m := by rw [hmm]; split <;> omega
    have hD : ∀ i, i < len → ∃ z : List Value × α, w.cells? base (a.add (i * Tryz.prog.cellsOf e)) (Tryz.prog.cellsOf e) = some z.1 ∧ Rep.rep (fun k => k < w.heap.size) w z.1 z.2 ∧ good (Rows.uptoBulk (D i)) z.2 := fun i hil => by
      obtain ⟨cs', h1, h2⟩ := hi i (by omega)
      obtain ⟨y, h3, h4⟩ := he H enc w base spare held n cs' _ h2 (by
        have hm : D i ∈ (List.range len).map D := List.mem_map.2 ⟨i, List.mem_range.2 hil, rfl⟩
        have := bulk_part hm
        simp only [Rows.uptoBulk]
        omega)
      exact ⟨(cs', y), h1, h3, h4⟩
    have hexf : ∃ F : (i : Nat) → i < len → List Value × α, ∀ i hil, w.cells? base (a.add (i * Tryz.prog.cellsOf e)) (Tryz.prog.cellsOf e) = some (F i hil).1 ∧ Rep.rep (fun k => k < w.heap.size) w (F i hil).1 (F i hil).2 ∧ good (Rows.uptoBulk (D i)) (F i hil).2 :=
      ⟨fun i hil => (hD i hil).choose, fun i hil => (hD i hil).choose_spec⟩
    obtain ⟨F, hF⟩ := hexf
    refine ⟨some a, List.ofFn (fun i : Fin len => (F i.1 i.2).2), cap, by rw [List.length_ofFn], ?_, fun h => (by cases h), ?_, by rw [List.length_ofFn]; exact hl, by unfold maxLen at hm; exact hm⟩
    · refine Sl.ofFn (fun i => if h : i < len then (F i h).1 else []) (by rw [List.length_ofFn]; unfold maxLen at hm; omega) (fun i h => ?_) (fun h0 => ?_)
      · have hil : i < len := by simpa using h
        simp only [dif_pos hil, List.getElem_ofFn]
        exact (hF i hil).2.1
      · have h0l : 0 < len := by simpa using h0
        have hpos := Rep.pos (α := α)
        have hsp : ∀ i, (hil : i < len) → ∀ j v, (F i hil).1[j]? = some v → w.cell? (a.add (i * Rep.sz α + j)) = some v := fun i hil j v hv => by
          obtain ⟨_, hcl, hat⟩ := World.cells?_some (hF i hil).1
          have hjl := (List.getElem?_eq_some_iff.1 hv).1
          have := hat j (by omega)
          rw [hv, hC, add_add] at this
          exact this
        have hv0 : ∃ v, (F 0 h0l).1[0]? = some v := by
          have := Rep.len (hF 0 h0l).2.1
          exact ⟨_, List.getElem?_eq_getElem (by omega)⟩
        obtain ⟨v0, hv0⟩ := hv0
        have hc0 := hsp 0 h0l 0 v0 hv0
        have hspot : a.spot = none := by
          unfold World.cell? at hc0
          split at hc0
          · rename_i c t' fr hh
            cases hs : a.spot with
            | none => rfl
            | some s => simp [Addr.add, hs] at hc0
          · cases hc0
        obtain ⟨b, off, sp⟩ := a
        subst hspot
        have hb' : b < w.heap.size := by
          by_cases hlt : b < w.heap.size
          · exact hlt
          · have : w.heap[b]? = none := by rw [Array.getElem?_eq_none_iff]; omega
            simp [World.cell?, Addr.add, this] at hc0
        refine ⟨b, off, rfl, fun i h => ⟨hb', hb', fun j v hv => ?_⟩⟩
        have hil : i < len := by simpa using h
        simp only [dif_pos hil] at hv
        have := hsp i hil j v hv
        rw [show (⟨b, off, none⟩ : Addr).add (i * Rep.sz α + j) = ⟨b, off + i * Rep.sz α + j, none⟩ by unfold Addr.add; split <;> simp_all; omega] at this
        exact this
    · have hlen : len ≤ Rows.uptoBulkAll ((List.range len).map D) := by have := bulk_len ((List.range len).map D); simpa using this
      refine ⟨by rw [List.length_ofFn]; simp only [Rows.uptoBulk]; omega, fun y hy => ?_⟩
      obtain ⟨i, rfl⟩ := List.mem_ofFn.1 hy
      refine hmono _ _ _ ?_ (hF i.1 i.2).2.2
      have : D i.1 ∈ (List.range len).map D := List.mem_map.2 ⟨i.1, List.mem_range.2 i.2, rfl⟩
      have := bulk_part this
      simp only [Rows.uptoBulk]
      omega

theorem wf_I64 {n : Int} (h : (Lit.int .i64 n).wf = true) : I64 n := by
  have h' : -9223372036854775808 ≤ n ∧ n ≤ 9223372036854775807 := by simpa [Lit.wf, IntKind.min, IntKind.max, IntKind.signed, IntKind.bits] using h
  exact h'
theorem wf_U64 {n : Int} (h : (Lit.int .u64 n).wf = true) : U64 n := by
  have h' : 0 ≤ n ∧ n ≤ 18446744073709551615 := by simpa [Lit.wf, IntKind.min, IntKind.max, IntKind.signed, IntKind.bits] using h
  exact h'
def noBound {α : Type} (_ : Nat) (_ : α) : Prop := True
theorem opens_u64 : Opens 29 Int noBound := by
  intro H enc w base spare held fuel cs x h
  obtain ⟨n, rfl, rfl, hw⟩ := DataW.trod_int Tryz.underlying29 h
  exact ⟨n, ⟨rfl, wf_U64 hw⟩, trivial⟩
def goodS (n : Nat) (s : ByteArray) : Prop := s.size ≤ n
theorem opens_string : Opens 9 ByteArray goodS := by
  intro H enc w base spare held fuel cs x h
  obtain ⟨s, rfl, rfl, hw⟩ := DataW.trod_string Tryz.underlying9 h
  refine ⟨s, ⟨rfl, by unfold maxLen at hw; exact hw⟩, ?_⟩
  have e : s.data.toList.length = s.size := by rw [Array.length_toList]; rfl
  simp only [goodS, Rows.uptoBulk]; omega

section
variable {H : Type} {enc : TypeId × Value → H} {P : Program} {W W' : World} {sp : Nat → Bool}
theorem trodAll_stays (hl : laidOutB P = true) : ∀ {ts : List TypeId} {vs : List Value} {ds : List (DataW H)} {ps : List MemPlace}, DataW.TrodAll enc P W 0 (fun _ => true) true ts vs ds ps → (∀ t ∈ ts, P.readableRec t = true ∧ t < P.types.size) →
    (∀ p ∈ ps, W.sameAt W' p) → (∀ p ∈ ps, sp p.block = true) → DataW.TrodAll enc P W' 0 sp true ts vs ds ps
  | [], [], [], _, h, _, _, _ => h
  | t :: ts, v :: vs, d :: ds, _, ⟨p, q, h, hs, e⟩, ht, hw, hsp => by
    subst e
    refine ⟨p, q, WideElems.Trod_stays hl (ht t (by simp)).1 (ht t (by simp)).2 h (fun x hx => hw x (by simp [hx])) (fun x hx => hsp x (by simp [hx])), trodAll_stays hl hs (fun u hu => ht u (by simp [hu])) (fun x hx => hw x (by simp [hx])) (fun x hx => hsp x (by simp [hx])), rfl⟩
/-- A law's last step: it gave true, and nothing that was there has turned. -/
theorem law_post {f : Func} {s : ChangeSpec} {apart fresh handsOn again : Bool} {args : Array Value} {ds gs : List (DataW H)} {before : List MemPlace} {tb : TypeId}
    (hl : laidOutB P = true) (ht : ∀ t ∈ f.params.toList, P.readableRec t = true ∧ t < P.types.size) (hr : f.resultTypes = #[tb]) (htb : P.underlying tb = some .bool) (hv : s.vars = [])
    (hW : DataW.Whole enc P f.params.toList s.vars apart W args.toList ds gs before) (hfn : s.fn H ds = { results := [.lit (.bool true)], args := ds }) (hb : Below W.heap.size W W') :
    s.post enc P f apart fresh handsOn again W args (.bool true) W' := by
  have hlt : ∀ p ∈ before, p.block < W.heap.size := fun p hp => hW.lt p hp
  have hold : ∀ p ∈ before, (fun b => decide (b < W.heap.size)) p.block = true := fun p hp => by simpa using hlt p hp
  have hW' := hW
  obtain ⟨p, q, hA, hV, rfl, hz, hn⟩ := hW
  rw [hv] at hV
  cases gs with
  | cons g gs => exact hV.elim
  | nil =>
    obtain rfl : q = [] := hV
    have hargs : ∀ sp : Nat → Bool, (∀ x ∈ p ++ [], sp x.block = true) → DataW.TrodAll enc P W' 0 sp true f.params.toList args.toList (s.fn H (ds ++ [])).args p := fun sp hsp => by
      rw [List.append_nil, hfn]
      exact trodAll_stays hl hA ht (fun x hx => hb.same (hlt x (by simp [hx]))) (fun x hx => hsp x (by simp [hx]))
    have hres : ∀ (b : Nat) (sp : Nat → Bool) (hd : Bool), DataW.TrodAll enc P W' b sp hd f.resultTypes.toList ((Value.bool true).resultList f.resultTypes.size) (s.fn H (ds ++ [])).results [] := fun b sp hd => by
      rw [List.append_nil, hfn, hr]
      have ht1 : DataW.Trod enc P W' b sp hd tb (.bool true) (.lit (.bool true)) [] := ⟨1, by simp [DataW.trod, Value.cells, htb]⟩
      exact trodAll_cons_mk ht1 trodAll_mk0
    have hvars : ∀ sp : Nat → Bool, DataW.TrodVars enc P W' sp s.vars (s.fn H (ds ++ [])).vars [] := fun sp => by
      rw [List.append_nil, hfn, hv]; rfl
    refine ⟨ds, [], p ++ [], [], p, [], hW', hres _ _ _, hargs _ hold, hvars _, World.keptBut_mono (fun x hx => ⟨hx, Or.inr (by simpa using hx)⟩) (hb.frame (· ∈ p ++ [])), fun _ => ?_⟩
    refine ⟨ok_one hr rfl (okWide_bool_mk htb _), _, _, ([] ++ p) ++ [], ⟨[] ++ p, [], trodAll_append (hargs _ (fun _ _ => rfl)) (hres _ _ _), hvars _, rfl, ?_, ?_⟩, ?_⟩
    · intro b off hp
      have hin : MemPlace.cell b off ∈ p ++ [] := by simpa using hp
      rw [hb.frozen (hlt _ hin)]
      exact hz b off hin
    · intro ha
      simpa using hn ha
    · intro x hx _
      simpa using hx
end
end Go.Proofs.YtbefkiebdokbdaaGreat.V
end

section
/- Arguments opened: buckets, labels, sketches, rows, matchers. -/
namespace Go.Proofs.YtbefkiebdokbdaaGreat.V
open Go.RowKit Go.ChangeShapes Go.WideShapes Go.Deep
set_option linter.unusedVariables false

/-- A struct's reading, field by field. -/
theorem struct_at {t : TypeId} {fs : Array Field} (hs : Tryz.prog.underlying t = some (.struct fs)) {H : Type} {enc : TypeId × Value → H} {w : World} {base : Nat} {spare : Nat → Bool} {held : Bool} {fuel : Nat} {cs : List Value} {x : DataW H × List MemPlace}
    (h : DataW.trod enc Tryz.prog w base spare held fuel t cs = some x) :
    ∃ n, cs.length = Tryz.prog.cellsOf t ∧ ∀ (i : Nat) (f : Field), fs[i]? = some f → ∃ y : DataW H × List MemPlace, Rows.uptoBulk y.1 < Rows.uptoBulk x.1 ∧ DataW.trod enc Tryz.prog w base spare held n f.type ((cs.drop f.offset).take (Tryz.prog.cellsOf f.type)) = some y := by
  obtain ⟨xs, n, _, rfl, hl, hxl, hf⟩ := DataW.trod_struct hs h
  refine ⟨n, hl, fun i f hi => ?_⟩
  have hil : i < xs.length := by rw [hxl]; exact (Array.getElem?_eq_some_iff.1 hi).1
  refine ⟨xs[i], ?_, by rw [hf i f hi, List.getElem?_eq_getElem hil]⟩
  have hm : xs[i].1 ∈ xs.map (·.1) := List.mem_map.2 ⟨xs[i], List.getElem_mem hil, rfl⟩
  have := bulk_part hm
  simp only [Rows.uptoBulk]
  omega
theorem len2 {α : Type} {l : List α} (h : l.length = 2) : ∃ a b, l = [a, b] := by
  match l, h with
  | [a, b], _ => exact ⟨a, b, rfl⟩
theorem len5 {α : Type} {l : List α} (h : l.length = 5) : ∃ a b c d e, l = [a, b, c, d, e] := by
  match l, h with
  | [a, b, c, d, e], _ => exact ⟨a, b, c, d, e, rfl⟩
theorem len6 {α : Type} {l : List α} (h : l.length = 6) : ∃ a b c d e f, l = [a, b, c, d, e, f] := by
  match l, h with
  | [a, b, c, d, e, f], _ => exact ⟨a, b, c, d, e, f, rfl⟩
theorem len8 {α : Type} {l : List α} (h : l.length = 8) : ∃ a b c d e f g i, l = [a, b, c, d, e, f, g, i] := by
  match l, h with
  | [a, b, c, d, e, f, g, i], _ => exact ⟨a, b, c, d, e, f, g, i, rfl⟩
theorem c_u64 : Tryz.prog.cellsOf 29 = 1 := by kernel_rfl
theorem c_int : Tryz.prog.cellsOf 3 = 1 := by kernel_rfl
theorem c_string : Tryz.prog.cellsOf 9 = 1 := by kernel_rfl
theorem c_Label : Tryz.prog.cellsOf 111 = 2 := by kernel_rfl
theorem c_Bucket : Tryz.prog.cellsOf 120 = 2 := by kernel_rfl
theorem c_Gauge : Tryz.prog.cellsOf 42 = 4 := by kernel_rfl
theorem c_Sketch : Tryz.prog.cellsOf 44 = 6 := by kernel_rfl
theorem c_Row : Tryz.prog.cellsOf 67 = 8 := by kernel_rfl
theorem c_Matcher : Tryz.prog.cellsOf 28 = 5 := by kernel_rfl
theorem c_lLabel : Tryz.prog.cellsOf 65 = 1 := by kernel_rfl
theorem c_lBucket : Tryz.prog.cellsOf 39 = 1 := by kernel_rfl
theorem c_lU64 : Tryz.prog.cellsOf 40 = 1 := by kernel_rfl
theorem c_lString : Tryz.prog.cellsOf 25 = 1 := by kernel_rfl
theorem c_lMatcher : Tryz.prog.cellsOf 26 = 1 := by kernel_rfl

section
variable {H : Type} {enc : TypeId × Value → H} {w : World} {base : Nat} {spare : Nat → Bool} {held : Bool} {n : Nat} {cs : List Value} {y : DataW H × List MemPlace}
theorem at_int (h : DataW.trod enc Tryz.prog w base spare held n 3 cs = some y) : ∃ v, cs = [.int .i64 v] ∧ I64 v := by
  obtain ⟨v, rfl, _, hw⟩ := DataW.trod_int Tryz.underlying3 h
  exact ⟨v, rfl, wf_I64 hw⟩
theorem at_u64 (h : DataW.trod enc Tryz.prog w base spare held n 29 cs = some y) : ∃ v, cs = [.int .u64 v] ∧ U64 v := by
  obtain ⟨v, rfl, _, hw⟩ := DataW.trod_int Tryz.underlying29 h
  exact ⟨v, rfl, wf_U64 hw⟩
theorem at_string (h : DataW.trod enc Tryz.prog w base spare held n 9 cs = some y) : ∃ v : ByteArray, cs = [.string v] ∧ StrOk v ∧ v.size < Rows.uptoBulk y.1 := by
  obtain ⟨s, rfl, rfl, hw⟩ := DataW.trod_string Tryz.underlying9 h
  have e : s.data.toList.length = s.size := by rw [Array.length_toList]; rfl
  exact ⟨s, rfl, by unfold maxLen at hw; exact hw, by simp only [Rows.uptoBulk]; omega⟩
end

theorem opens_Bucket : Opens 120 Bucket noBound := by
  intro H enc w base spare held fuel cs x h
  obtain ⟨n, hl, hf⟩ := struct_at Tryz.underlying120 h
  rw [c_Bucket] at hl
  obtain ⟨c0, c1, rfl⟩ := len2 hl
  obtain ⟨y0, _, h0⟩ := hf 0 _ rfl
  obtain ⟨y1, _, h1⟩ := hf 1 _ rfl
  simp only [c_int, c_u64, List.getElem_toArray, List.getElem_cons_zero, List.getElem_cons_succ, List.drop_zero, List.drop_succ_cons, List.take_succ_cons, List.take_zero] at h0 h1
  obtain ⟨a, e0, w0⟩ := at_int h0
  obtain ⟨b, e1, w1⟩ := at_u64 h1
  cases e0; cases e1
  exact ⟨⟨a, b⟩, ⟨rfl, w0, w1⟩, trivial⟩
def goodLabel (n : Nat) (x : Label) : Prop := x.name.size ≤ n ∧ x.value.size ≤ n
theorem opens_Label : Opens 111 Label goodLabel := by
  intro H enc w base spare held fuel cs x h
  obtain ⟨n, hl, hf⟩ := struct_at Tryz.underlying111 h
  rw [c_Label] at hl
  obtain ⟨c0, c1, rfl⟩ := len2 hl
  obtain ⟨y0, b0, h0⟩ := hf 0 _ rfl
  obtain ⟨y1, b1, h1⟩ := hf 1 _ rfl
  simp only [c_string, List.getElem_toArray, List.getElem_cons_zero, List.getElem_cons_succ, List.drop_zero, List.drop_succ_cons, List.take_succ_cons, List.take_zero] at h0 h1
  obtain ⟨a, e0, w0, s0⟩ := at_string h0
  obtain ⟨b, e1, w1, s1⟩ := at_string h1
  cases e0; cases e1
  exact ⟨⟨a, b⟩, ⟨rfl, w0, w1⟩, (by show a.size ≤ _; omega), (by show b.size ≤ _; omega)⟩
theorem noBound_mono {α : Type} : ∀ (a b : Nat) (y : α), a ≤ b → noBound a y → noBound b y := fun _ _ _ _ _ => trivial
theorem goodLabel_mono : ∀ (a b : Nat) (y : Label), a ≤ b → goodLabel a y → goodLabel b y := fun _ _ _ h k => ⟨Nat.le_trans k.1 h, Nat.le_trans k.2 h⟩
theorem goodS_mono : ∀ (a b : Nat) (y : ByteArray), a ≤ b → goodS a y → goodS b y := fun _ _ _ h k => Nat.le_trans k h

def goodSketch (n : Nat) (s : Sketch) : Prop := s.hist.length ≤ n ∧ s.hashes.length ≤ n
theorem opens_Sketch : Opens 44 Sketch goodSketch := by
  intro H enc w base spare held fuel cs x h
  obtain ⟨n, hl, hf⟩ := struct_at Tryz.underlying44 h
  rw [c_Sketch] at hl
  obtain ⟨c0, c1, c2, c3, c4, c5, rfl⟩ := len6 hl
  obtain ⟨y0, b0, h0⟩ := hf 0 _ rfl
  obtain ⟨y1, b1, h1⟩ := hf 1 _ rfl
  obtain ⟨y2, b2, h2⟩ := hf 2 _ rfl
  simp only [c_lBucket, c_lU64, c_Gauge, List.getElem_toArray, List.getElem_cons_zero, List.getElem_cons_succ, List.drop_zero, List.drop_succ_cons, List.take_succ_cons, List.take_zero] at h0 h1 h2
  obtain ⟨A1, l1, d1, e1, s1, n1, g1, _⟩ := opens_slice noBound_mono Tryz.underlying39 c_Bucket (opens_Bucket.b _) h0
  obtain ⟨A2, l2, d2, e2, s2, n2, g2, _⟩ := opens_slice noBound_mono Tryz.underlying40 c_u64 (opens_u64.b _) h1
  obtain ⟨m, _, kf⟩ := struct_at Tryz.underlying42 h2
  obtain ⟨z0, _, k0⟩ := kf 0 _ rfl
  obtain ⟨z1, _, k1⟩ := kf 1 _ rfl
  obtain ⟨z2, _, k2⟩ := kf 2 _ rfl
  obtain ⟨z3, _, k3⟩ := kf 3 _ rfl
  simp only [c_u64, List.getElem_toArray, List.getElem_cons_zero, List.getElem_cons_succ, List.drop_zero, List.drop_succ_cons, List.take_succ_cons, List.take_zero] at k0 k1 k2 k3
  obtain ⟨g0, f0, v0⟩ := at_u64 k0
  obtain ⟨gn, f1, v1⟩ := at_u64 k1
  obtain ⟨gl, f2, v2⟩ := at_u64 k2
  obtain ⟨gh, f3, v3⟩ := at_u64 k3
  cases e1; cases e2; cases f0; cases f1; cases f2; cases f3
  have q1 := g1.1
  have q2 := g2.1
  exact ⟨⟨l1, l2, ⟨g0, gn, gl, gh⟩⟩, ⟨A1, d1, A2, d2, rfl, s1, s2, ⟨v0, v1, v2, v3⟩, n1, n2⟩, (by show l1.length ≤ _; omega), (by show l2.length ≤ _; omega)⟩
def goodRow (n : Nat) (r : Row) : Prop := goodL goodLabel n r.labels ∧ r.s.hist.length ≤ n ∧ r.s.hashes.length ≤ n
theorem goodL_mono {α : Type} {good : Nat → α → Prop} (hm : ∀ a b y, a ≤ b → good a y → good b y) : ∀ (a b : Nat) (y : List α), a ≤ b → goodL good a y → goodL good b y := fun _ _ _ h k => ⟨Nat.le_trans k.1 h, fun y hy => hm _ _ _ h (k.2 y hy)⟩
theorem goodRow_mono : ∀ (a b : Nat) (y : Row), a ≤ b → goodRow a y → goodRow b y := fun _ _ _ h k => ⟨goodL_mono goodLabel_mono _ _ _ h k.1, Nat.le_trans k.2.1 h, Nat.le_trans k.2.2 h⟩
theorem opens_Row : Opens 67 Row goodRow := by
  intro H enc w base spare held fuel cs x h
  obtain ⟨n, hl, hf⟩ := struct_at Tryz.underlying67 h
  rw [c_Row] at hl
  obtain ⟨c0, c1, c2, c3, c4, c5, c6, c7, rfl⟩ := len8 hl
  obtain ⟨y0, b0, h0⟩ := hf 0 _ rfl
  obtain ⟨y1, b1, h1⟩ := hf 1 _ rfl
  obtain ⟨y2, b2, h2⟩ := hf 2 _ rfl
  simp only [c_lLabel, c_int, c_Sketch, List.getElem_toArray, List.getElem_cons_zero, List.getElem_cons_succ, List.drop_zero, List.drop_succ_cons, List.take_succ_cons, List.take_zero] at h0 h1 h2
  obtain ⟨A0, l0, d0, e0, s0, n0, g0, _⟩ := opens_slice goodLabel_mono Tryz.underlying65 c_Label (opens_Label.b _) h0
  obtain ⟨a, e1, w1⟩ := at_int h1
  obtain ⟨s, ⟨A1, d1, A2, d2, e2, s1, s2, hg, n1, n2⟩, q1, q2⟩ := opens_Sketch _ _ _ _ _ _ _ _ _ h2
  cases e0; cases e1; cases e2
  exact ⟨⟨l0, a, s⟩, ⟨A0, d0, A1, d1, A2, d2, rfl, s0, w1, s1, s2, hg, n0, n1, n2⟩, goodL_mono goodLabel_mono _ _ _ (Nat.le_of_lt b0) g0, (by show s.hist.length ≤ _; omega), (by show s.hashes.length ≤ _; omega)⟩

/-- A matcher of bulk n at most. -/
inductive MGood (n : Nat) : Matcher → Prop
  | mk {op : Int} {name value : ByteArray} {values : List ByteArray} {kids : List Matcher} (h1 : name.size ≤ n) (h2 : value.size ≤ n) (h3 : goodL goodS n values) (h4 : kids.length ≤ n) (h5 : ∀ k ∈ kids, MGood n k) : MGood n (.mk op name value values kids)
theorem MGood.mono {a b : Nat} {m : Matcher} (h : MGood a m) (hab : a ≤ b) : MGood b m := by
  induction h with
  | mk h1 h2 h3 h4 _ ih => exact .mk (Nat.le_trans h1 hab) (Nat.le_trans h2 hab) (goodL_mono goodS_mono _ _ _ hab h3) (Nat.le_trans h4 hab) ih
theorem opens_Matcher : Opens 28 Matcher MGood := by
  refine OpensB.all fun B => ?_
  induction B with
  | zero => intro H enc w base spare held fuel cs x _ hx; omega
  | succ B ih =>
    intro H enc w base spare held fuel cs x h hxB
    obtain ⟨n, hl, hf⟩ := struct_at Tryz.underlying28 h
    rw [c_Matcher] at hl
    obtain ⟨c0, c1, c2, c3, c4, rfl⟩ := len5 hl
    obtain ⟨y0, b0, h0⟩ := hf 0 _ rfl
    obtain ⟨y1, b1, h1⟩ := hf 1 _ rfl
    obtain ⟨y2, b2, h2⟩ := hf 2 _ rfl
    obtain ⟨y3, b3, h3⟩ := hf 3 _ rfl
    obtain ⟨y4, b4, h4⟩ := hf 4 _ rfl
    simp only [c_int, c_string, c_lString, c_lMatcher, List.getElem_toArray, List.getElem_cons_zero, List.getElem_cons_succ, List.drop_zero, List.drop_succ_cons, List.take_succ_cons, List.take_zero] at h0 h1 h2 h3 h4
    obtain ⟨op, e0, w0⟩ := at_int h0
    obtain ⟨nm, e1, w1, q1⟩ := at_string h1
    obtain ⟨vl, e2, w2, q2⟩ := at_string h2
    obtain ⟨A3, l3, d3, e3, s3, n3, g3, _⟩ := opens_slice goodS_mono Tryz.underlying25 c_string (opens_string.b _) h3
    obtain ⟨A4, l4, d4, e4, s4, n4, g4, _⟩ := opens_slice (good := MGood) (fun _ _ _ hab k => MGood.mono k hab) Tryz.underlying26 c_Matcher (fun H enc w base spare held fuel cs x hx hlt => ih H enc w base spare held fuel cs x hx (by omega)) h4
    cases e0; cases e1; cases e2; cases e3; cases e4
    have p4 := g4.1
    exact ⟨.mk op nm vl l3 l4, MRep.make w0 w1 w2 s3 s4 n3 n4, .mk (by omega) (by omega) (goodL_mono goodS_mono _ _ _ (by omega) g3) (by omega) (fun k hk => (g4.2 k hk).mono (by omega))⟩
end Go.Proofs.YtbefkiebdokbdaaGreat.V
end
