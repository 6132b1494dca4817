/- Part 0 of the proof: Rep, Data. -/
import Derived.WalkKit
import Derived.Maps.AppendAt
import Derived.Laws.AppendOwnNone
import Derived.Deep.Draws

section
/- How Go data lie in memory: cells, rows of elements, slices that are read and slices that a call owns. Plain lemmas over worlds; nothing of the program. -/
namespace Go.Proofs.YtbefkiebdokbdaaGreat.V
open Go.RowKit
set_option linter.unusedVariables false

/-- The blocks that 'ok' names, as far as they are there, are as they were. -/
def Keeps (ok : Nat → Prop) (w w' : World) : Prop := w.heap.size ≤ w'.heap.size ∧ ∀ k, ok k → k < w.heap.size → w'.heap[k]? = w.heap[k]?

theorem Keeps.refl (ok : Nat → Prop) (w : World) : Keeps ok w w := ⟨Nat.le_refl _, fun _ _ _ => rfl⟩
theorem Keeps.of_below {ok : Nat → Prop} {w w' : World} (h : Below w.heap.size w w') : Keeps ok w w' := ⟨h.size, fun k _ hk => h.block k hk⟩
theorem Keeps.of_grown {ok : Nat → Prop} {w w' : World} {row : Option Nat} (h : w.grownBy w' row) (hne : ∀ k, ok k → k < w.heap.size → some k ≠ row) : Keeps ok w w' :=
  ⟨h.size, fun k hk hl => h.block k hl (hne k hk hl)⟩
theorem Keeps.mono {ok ok' : Nat → Prop} {w w' : World} (h : Keeps ok w w') (hi : ∀ k, ok' k → ok k) : Keeps ok' w w' := ⟨h.1, fun k hk hl => h.2 k (hi k hk) hl⟩
theorem Keeps.trans {ok : Nat → Prop} {a b c : World} (h : Keeps ok a b) (k : Keeps ok b c) : Keeps ok a c :=
  ⟨Nat.le_trans h.1 k.1, fun i hi hl => (k.2 i hi (Nat.lt_of_lt_of_le hl h.1)).trans (h.2 i hi hl)⟩

/-- The values lie in block b from place off on; the block is one of ok's. -/
def Cells (ok : Nat → Prop) (w : World) (b off : Nat) (vs : List Value) : Prop :=
  ok b ∧ b < w.heap.size ∧ ∀ j v, vs[j]? = some v → w.cell? ⟨b, off + j, none⟩ = some v

theorem Cells.keep {ok : Nat → Prop} {w w' : World} {b off : Nat} {vs : List Value} (h : Cells ok w b off vs) (hk : Keeps ok w w') : Cells ok w' b off vs :=
  ⟨h.1, Nat.lt_of_lt_of_le h.2.1 hk.1, fun j v hv => (World.cell?_of_block (hk.2 b h.1 h.2.1)).trans (h.2.2 j v hv)⟩
theorem Cells.mono {ok ok' : Nat → Prop} {w : World} {b off : Nat} {vs : List Value} (h : Cells ok w b off vs) (hi : ∀ k, k < w.heap.size → ok k → ok' k) : Cells ok' w b off vs := ⟨hi b h.2.1 h.1, h.2⟩
theorem Cells.sub {ok : Nat → Prop} {w : World} {b off : Nat} {vs us : List Value} (h : Cells ok w b off vs) (d : Nat) (hs : ∀ j v, us[j]? = some v → vs[d + j]? = some v) : Cells ok w b (off + d) us :=
  ⟨h.1, h.2.1, fun j v hv => by rw [Nat.add_assoc]; exact h.2.2 (d + j) v (hs j v hv)⟩
theorem Cells.c0 {ok : Nat → Prop} {w : World} {b off : Nat} {v : Value} {vs : List Value} (h : Cells ok w b off (v :: vs)) : w.cell? ⟨b, off, none⟩ = some v := h.2.2 0 v rfl
theorem Cells.c1 {ok : Nat → Prop} {w : World} {b off : Nat} {v0 v : Value} {vs : List Value} (h : Cells ok w b off (v0 :: v :: vs)) : w.cell? ⟨b, off + 1, none⟩ = some v := h.2.2 1 v rfl
theorem Cells.cj {ok : Nat → Prop} {w : World} {b off : Nat} {vs : List Value} (h : Cells ok w b off vs) (j : Nat) (v : Value) (hv : vs[j]? = some v) : w.cell? ⟨b, off + j, none⟩ = some v := h.2.2 j v hv

/-- How data of a Lean type lie in cells; what they lead to lies in blocks of ok. -/
class Rep (α : Type) where
  sz : Nat
  pos : 0 < sz
  rep : (Nat → Prop) → World → List Value → α → Prop
  len : ∀ {ok w vs x}, rep ok w vs x → vs.length = sz
  keep : ∀ {ok w w' vs x}, rep ok w vs x → Keeps ok w w' → rep ok w' vs x
  mono : ∀ {ok ok' w vs x}, rep ok w vs x → (∀ k, k < w.heap.size → ok k → ok' k) → rep ok' w vs x
  one : ∀ {ok w vs x}, rep ok w vs x → ∀ v ∈ vs, v.oneCell' = true
open Rep

inductive Reps {α : Type} [Rep α] (ok : Nat → Prop) (w : World) : List Value → List α → Prop
  | nil : Reps ok w [] []
  | cons {vs : List Value} {x : α} {cs : List Value} {xs : List α} : rep ok w vs x → Reps ok w cs xs → Reps ok w (vs ++ cs) (x :: xs)

section
variable {α : Type} [Rep α] {ok ok' : Nat → Prop} {w w' : World} {cs ds : List Value} {xs ys : List α}

theorem Reps.len (h : Reps ok w cs xs) : cs.length = xs.length * sz α := by
  induction h with
  | nil => simp
  | cons h _ ih => simp only [List.length_append, List.length_cons, ih, Rep.len h, Nat.add_mul, Nat.one_mul]; omega
theorem Reps.keep (h : Reps ok w cs xs) (hk : Keeps ok w w') : Reps ok w' cs xs := by
  induction h with
  | nil => exact .nil
  | cons h _ ih => exact .cons (Rep.keep h hk) ih
theorem Reps.mono (h : Reps ok w cs xs) (hi : ∀ k, k < w.heap.size → ok k → ok' k) : Reps ok' w cs xs := by
  induction h with
  | nil => exact .nil
  | cons h _ ih => exact .cons (Rep.mono h hi) ih
theorem Reps.oneCell (h : Reps ok w cs xs) : ∀ v ∈ cs, v.oneCell' = true := by
  induction h with
  | nil => intro v hv; cases hv
  | cons h _ ih =>
    intro v hv
    rcases List.mem_append.1 hv with hv | hv
    · exact Rep.one h v hv
    · exact ih v hv
theorem Reps.append (h : Reps ok w cs xs) (h' : Reps ok w ds ys) : Reps ok w (cs ++ ds) (xs ++ ys) := by
  induction h with
  | nil => exact h'
  | cons h _ ih => rw [List.append_assoc]; exact .cons h ih
theorem Reps.single {vs : List Value} {x : α} (h : rep ok w vs x) : Reps ok w vs [x] := by
  have := Reps.cons h (.nil (α := α) (ok := ok) (w := w)); simpa using this
theorem Reps.get (h : Reps ok w cs xs) : ∀ (k : Nat) (hk : k < xs.length), ∃ vs, rep ok w vs xs[k] ∧ ∀ (j : Nat) (v : Value), vs[j]? = some v → cs[k * sz α + j]? = some v := by
  induction h with
  | nil => intro k hk; exact absurd hk (by simp)
  | @cons vs x cs xs h _ ih =>
    intro k hk
    cases k with
    | zero => exact ⟨vs, h, fun j v hv => by
        have hj := (List.getElem?_eq_some_iff.1 hv).1
        rw [Nat.zero_mul, Nat.zero_add, List.getElem?_append_left hj]; exact hv⟩
    | succ k =>
      obtain ⟨us, hu, hc⟩ := ih k (by simpa using hk)
      refine ⟨us, hu, fun j v hv => ?_⟩
      rw [List.getElem?_append_right (by rw [Rep.len h, Nat.add_mul]; omega), Rep.len h]
      have : (k + 1) * sz α + j - sz α = k * sz α + j := by rw [Nat.add_mul]; omega
      rw [this]; exact hc j v hv
theorem Reps.split (n : Nat) (h : Reps ok w cs xs) : Reps ok w (cs.take (n * sz α)) (xs.take n) ∧ Reps ok w (cs.drop (n * sz α)) (xs.drop n) := by
  induction h generalizing n with
  | nil => simp; exact .nil
  | @cons vs x cs xs h t ih =>
    cases n with
    | zero => simp only [Nat.zero_mul, List.take_zero, List.drop_zero]; exact ⟨.nil, .cons h t⟩
    | succ n =>
      have hl := Rep.len h
      have e : (n + 1) * sz α = vs.length + n * sz α := by rw [hl, Nat.add_mul]; omega
      rw [e, List.take_length_add_append, List.drop_length_add_append]
      exact ⟨.cons h (ih n).1, (ih n).2⟩
theorem Reps.take (n : Nat) (h : Reps ok w cs xs) : Reps ok w (cs.take (n * sz α)) (xs.take n) := (h.split n).1
theorem Reps.drop (n : Nat) (h : Reps ok w cs xs) : Reps ok w (cs.drop (n * sz α)) (xs.drop n) := (h.split n).2
end

/-- A slice of address A that reads as the list. -/
def Sl {α : Type} [Rep α] (ok : Nat → Prop) (w : World) (A : Option Addr) (xs : List α) : Prop :=
  xs.length ≤ 9223372036854775807 ∧ ∃ cs, Reps ok w cs xs ∧ (0 < xs.length → ∃ b off, A = some ⟨b, off, none⟩ ∧ Cells ok w b off cs)

section
variable {α : Type} [Rep α] {ok ok' : Nat → Prop} {w w' : World} {A : Option Addr} {xs ys : List α}
theorem Sl.keep (h : Sl ok w A xs) (hk : Keeps ok w w') : Sl ok w' A xs := by
  obtain ⟨hl, cs, hr, hc⟩ := h
  exact ⟨hl, cs, hr.keep hk, fun h0 => by obtain ⟨b, off, e, c⟩ := hc h0; exact ⟨b, off, e, c.keep hk⟩⟩
theorem Sl.below (h : Sl ok w A xs) (hb : Below w.heap.size w w') : Sl ok w' A xs := h.keep (.of_below hb)
theorem Sl.mono (h : Sl ok w A xs) (hi : ∀ k, k < w.heap.size → ok k → ok' k) : Sl ok' w A xs := by
  obtain ⟨hl, cs, hr, hc⟩ := h
  exact ⟨hl, cs, hr.mono hi, fun h0 => by obtain ⟨b, off, e, c⟩ := hc h0; exact ⟨b, off, e, c.mono hi⟩⟩
theorem Sl.nil (ok : Nat → Prop) (w : World) (A : Option Addr) : Sl ok w A ([] : List α) := ⟨by simp, [], .nil, fun h => absurd h (by simp)⟩
theorem Sl.len_le (h : Sl ok w A xs) : xs.length ≤ 9223372036854775807 := h.1
theorem Sl.at_ (h : Sl ok w A xs) {k : Nat} (hk : k < xs.length) : ∃ b off vs, A = some ⟨b, off, none⟩ ∧ rep ok w vs xs[k] ∧ Cells ok w b (off + k * sz α) vs := by
  obtain ⟨hl, cs, hr, hc⟩ := h
  obtain ⟨b, off, e, c⟩ := hc (by omega)
  obtain ⟨vs, hv, hs⟩ := hr.get k hk
  exact ⟨b, off, vs, e, hv, c.sub _ hs⟩
/-- The same with the address fixed ahead. -/
theorem Sl.addr (h : Sl ok w A xs) (h0 : 0 < xs.length) : ∃ b off, A = some ⟨b, off, none⟩ ∧ b < w.heap.size ∧ ∀ k, (hk : k < xs.length) → ∃ vs, rep ok w vs xs[k] ∧ Cells ok w b (off + k * sz α) vs := by
  obtain ⟨hl, cs, hr, hc⟩ := h
  obtain ⟨b, off, e, c⟩ := hc (by omega)
  exact ⟨b, off, e, c.2.1, fun k hk => by obtain ⟨vs, hv, hs⟩ := hr.get k hk; exact ⟨vs, hv, c.sub _ hs⟩⟩
theorem Sl.take (h : Sl ok w A xs) (n : Nat) : Sl ok w A (xs.take n) := by
  obtain ⟨hl, cs, hr, hc⟩ := h
  refine ⟨by simp; omega, _, hr.take n, fun h0 => ?_⟩
  obtain ⟨b, off, e, c⟩ := hc (by simp at h0; omega)
  exact ⟨b, off, e, c.1, c.2.1, fun j v hv => c.2.2 j v (by rw [List.getElem?_take] at hv; split at hv <;> simp_all)⟩
theorem Sl.drop (h : Sl ok w A xs) (n : Nat) (hn : n < xs.length) : ∃ b off, A = some ⟨b, off, none⟩ ∧ Sl ok w (some ⟨b, off + n * sz α, none⟩) (xs.drop n) := by
  obtain ⟨hl, cs, hr, hc⟩ := h
  obtain ⟨b, off, e, c⟩ := hc (by omega)
  refine ⟨b, off, e, by simp; omega, _, hr.drop n, fun h0 => ⟨b, off + n * sz α, rfl, c.sub _ (fun j v hv => by rw [List.getElem?_drop] at hv; exact hv)⟩⟩
end

/-- A slice value that the call owns (its row lies in a block from base on) and that reads as the list. What its elements lead to lies in other blocks. -/
def Own {α : Type} [Rep α] (w : World) (base e : Nat) (v : Value) (xs : List α) : Prop :=
  ∃ cs, Reps (fun k => k < w.heap.size ∧ some k ≠ v.ownBlock) w cs xs ∧ w.ownsRow base e (sz α) v xs.length cs

section
variable {α : Type} [Rep α] {ok : Nat → Prop} {w w' : World} {base e : Nat} {v v' : Value} {xs ys : List α}
theorem Own.nil (w : World) (base e : Nat) : Own w base e (.slice none 0 0) ([] : List α) := ⟨[], .nil, World.ownsRow_nil w base e _⟩
theorem Own.form (h : Own w base e v xs) : ∃ A c, v = .slice A xs.length c ∧ (A = none → xs = [] ∧ c = 0) := by
  obtain ⟨cs, hr, h1, h2⟩ := h
  rcases h2 with ⟨rfl, h0⟩ | ⟨g, cap, cur, rfl, _⟩
  · exact ⟨none, 0, by rw [h0], fun _ => ⟨List.eq_nil_of_length_eq_zero h0, rfl⟩⟩
  · exact ⟨_, cap, rfl, fun h => by cases h⟩
theorem Own.keep {row : Option Nat} (h : Own w base e v xs) (hg : w.grownBy w' row) (hne : ∀ k, row = some k → w.heap.size ≤ k) : Own w' base e v xs := by
  obtain ⟨cs, hr, ho⟩ := h
  refine ⟨cs, (hr.keep (Keeps.of_grown hg (fun k hk hl e => by have := hne k e.symm; omega))).mono (fun k _ hk => ⟨Nat.lt_of_lt_of_le hk.1 hg.size, hk.2⟩), ho.kept hg ?_⟩
  rcases hv : v.ownBlock with _ | g
  · exact .inl rfl
  · refine .inr fun he => ?_
    have := hne g he.symm
    have := (ho.lt g hv).2
    omega
theorem Own.below (h : Own w base e v xs) (hb : Below w.heap.size w w') : Own w' base e v xs :=
  h.keep (row := none) ⟨hb.os, hb.tape, hb.output, hb.size, fun k hk _ => hb.block k hk⟩ (fun k hk => by cases hk)
theorem Own.alloc (h : Own w base e v xs) (o : Obj) : Own (w.alloc o) base e v xs := h.below ((Below.refl _ _).alloc (Nat.le_refl _) o)
theorem Own.drew (h : Own w base e v xs) : Own w.drew base e v xs := h.below ⟨rfl, rfl, rfl, Nat.le_refl _, fun _ _ => rfl⟩
theorem Own.drewN (h : Own w base e v xs) (n : Nat) : Own (w.drewN n) base e v xs := h.below ⟨rfl, rfl, rfl, Nat.le_refl _, fun _ _ => rfl⟩
theorem Own.lower {b : Nat} (h : Own w base e v xs) (hb : b ≤ base) : Own w b e v xs := by
  obtain ⟨cs, hr, h1, h2⟩ := h
  refine ⟨cs, hr, h1, ?_⟩
  rcases h2 with h2 | ⟨g, cap, cur, hv, hg, r⟩
  · exact .inl h2
  · exact .inr ⟨g, cap, cur, hv, Nat.le_trans hb hg, r⟩
/-- Behind the law on append. -/
theorem Own.grow {cs us : List Value} (hr : Reps (fun k => k < w.heap.size ∧ some k ≠ v.ownBlock) w cs xs) (hu : Reps (fun k => k < w.heap.size ∧ some k ≠ v.ownBlock) w us ys)
    (hown : w'.ownsRow base e (sz α) v' (xs.length + ys.length) (cs ++ us)) (hg : w.grownBy w' v.ownBlock) (hat : v'.ownBlock = v.ownBlock ∨ v'.ownBlock = some w.heap.size) : Own w' base e v' (xs ++ ys) := by
  refine ⟨cs ++ us, ((hr.append hu).keep (Keeps.of_grown hg (fun k hk _ => hk.2))).mono (fun k _ hk => ⟨Nat.lt_of_lt_of_le hk.1 hg.size, ?_⟩), by rw [List.length_append]; exact hown⟩
  rcases hat with h | h
  · rw [h]; exact hk.2
  · rw [h]; intro e; have := Option.some.inj e; have := hk.1; omega
/-- What is owned is read as any slice. -/
theorem Own.sl (h : Own w base e v xs) (hb : base ≤ w.heap.size) : ∃ A c, v = .slice A xs.length c ∧ Sl (fun k => k < w.heap.size) w A xs := by
  obtain ⟨cs, hr, ho⟩ := h
  have hr' : Reps (fun k => k < w.heap.size) w cs xs := hr.mono (fun k _ hk => hk.1)
  rcases ho.2 with ⟨rfl, h0⟩ | ⟨g, cap, cur, rfl, hg, hh, hn, hm, hs, ht⟩
  · refine ⟨none, 0, by rw [h0], by omega, cs, hr', fun hp => by omega⟩
  · refine ⟨some ⟨g, 0, none⟩, cap, rfl, ?_, cs, hr', fun hp => ⟨g, 0, rfl, (Array.getElem?_eq_some_iff.1 hh).1, (Array.getElem?_eq_some_iff.1 hh).1, fun j u hu => ?_⟩⟩
    · unfold maxLen at hm; omega
    · have := ho.cells (g := g) rfl j u hu
      rw [show (⟨g, 0, none⟩ : Addr).add j = ⟨g, 0 + j, none⟩ by unfold Addr.add; split <;> simp_all] at this
      exact this
end

/-! ### The builtin append -/
/-- What the program's table says of a slice type t with elements of type e. -/
structure ElemOf (P : Program) (t e size bytes : Nat) : Prop where
  ty : P.underlying t = some (.slice e)
  row : ∃ i z, P.info? e = some i ∧ i.zero = some z ∧ i.size = size ∧ i.bytes = bytes ∧ z.cells.size = size
theorem ElemOf.mk' {P : Program} {t e size bytes : Nat} {z : Value} (ht : P.underlying t = some (.slice e)) (h : (P.info? e).map (fun i => (i.zero, i.size, i.bytes)) = some (some z, size, bytes)) (hz : z.cells.size = size) : ElemOf P t e size bytes := by
  obtain ⟨i, h1, h2, h3, h4⟩ := info_parts h
  exact ⟨ht, i, z, h1, h2, h3, h4, hz⟩

theorem Sl.new {α : Type} [Rep α] {ok : Nat → Prop} {w : World} {vs : List Value} {x : α} (h : rep ok w vs x) (e : Nat) :
    Sl (fun k => ok k ∨ k = w.heap.size) (w.alloc (.cells vs.toArray e)) (some ⟨w.heap.size, 0, none⟩) [x] := by
  have hk : Keeps ok w (w.alloc (.cells vs.toArray e)) := Keeps.of_below ((Below.refl _ _).alloc (Nat.le_refl _) _)
  refine ⟨by simp, vs, Reps.single (Rep.mono (Rep.keep h hk) (fun k _ h => .inl h)), fun _ => ⟨_, 0, rfl, .inr rfl, by simp, fun j v hv => ?_⟩⟩
  rw [Nat.zero_add]
  show (match (w.heap.push _)[w.heap.size]? with | some (.cells c _ _) => _ | _ => _) = _
  simp [hv]

section
variable {P : Program} {w : World} {ops : Array Oper} {rest : List Oper} {o : Oper} {a : Act} {Q : Exit → Act → World → Prop}
theorem wpOwn_append {α : Type} [Rep α] (hgd : o.guard = none) (s x : Operand) (t e bytes base : Nat)
    (ho : o.op = .call { callee := .builtin .append, args := #[s, x], argTypes := #[t, t] })
    (hE : ElemOf P t e (sz α) bytes) {v : Value} {xs ys : List α} (hs : a.eval s = v) (hown : Own w base e v xs)
    {A : Option Addr} {m c : Nat} (hx : a.eval x = .slice A m c) (hm : m = ys.length) (hA : A = none → c = 0) (hy : Sl (fun k => k < w.heap.size ∧ some k ≠ v.ownBlock) w A ys)
    (hb1 : xs.length + ys.length ≤ 9223372036854775807) (hb2 : (xs.length + ys.length) * bytes ≤ 140737488355328) (hbase : base ≤ w.heap.size)
    (h : ∀ v' w', Own w' base e v' (xs ++ ys) → w.grownBy w' v.ownBlock → (v'.ownBlock = v.ownBlock ∨ v'.ownBlock = some w.heap.size) → wpList P ops Q rest (a.put o.dst v') w') :
    wpList P ops Q (o :: rest) a w := by
  subst hm
  obtain ⟨cs, hr, ho'⟩ := hown
  obtain ⟨ht, i, z, hi, hz, hsz, hby, hzs⟩ := hE
  obtain ⟨hl, us, hu, hc⟩ := hy
  have hbytes : (xs.length + ys.length) * bytes ≤ 140737488355328 := hb2
  cases A with
  | none =>
    have hy0 : ys = [] := by
      cases ys with
      | nil => rfl
      | cons y ys => obtain ⟨b, off, e, _⟩ := hc (by simp); cases e
    subst hy0
    obtain rfl := hA rfl
    refine wpList_append_own_none hgd s x t ho base e i (sz α) ht hi v xs.length cs hs ho' hx (h v w ?_ (World.grownBy.refl _ _) (.inl rfl))
    exact ⟨cs, by simpa using hr, by simpa using ho'⟩
  | some ad =>
    refine wpList_append_own_at w hgd s x t ho base e i z (sz α) bytes ht hi hz hsz hby hzs Rep.pos v xs.length cs hs ho' ad ys.length c us hx (hu.len) ?_ (hu.oneCell) (by unfold maxLen; omega) hbytes hbase ?_
    · intro j u hj
      have hp : 0 < ys.length := by
        have := (List.getElem?_eq_some_iff.1 hj).1; rw [hu.len] at this
        rcases Nat.eq_zero_or_pos ys.length with h0 | h0
        · rw [h0] at this; simp at this
        · exact h0
      obtain ⟨b, off, ead, cc⟩ := hc hp
      obtain rfl := Option.some.inj ead
      rw [show (⟨b, off, none⟩ : Addr).add j = ⟨b, off + j, none⟩ by unfold Addr.add; split <;> simp_all]
      exact cc.2.2 j u hj
    · intro v' w' hown' hg hn hat
      exact h v' w' (Own.grow hr hu hown' hg hat) hg hat
/-- One element, which the translation lays in a block of its own first: the world before is w0. -/
theorem wpOwn_append1 {α : Type} [Rep α] {w0 : World} (vs : List Value) (y : α) (hgd : o.guard = none) (s x : Operand) (t e e' bytes base : Nat)
    (hw : w = w0.alloc (.cells vs.toArray e'))
    (ho : o.op = .call { callee := .builtin .append, args := #[s, x], argTypes := #[t, t] })
    (hE : ElemOf P t e (sz α) bytes) {v : Value} {xs : List α} (hs : a.eval s = v) (hown : Own w0 base e v xs)
    (hx : a.eval x = .slice (some ⟨w0.heap.size, 0, none⟩) 1 1) (hy : rep (fun k => k < w0.heap.size ∧ some k ≠ v.ownBlock) w0 vs y)
    (hb1 : xs.length + 1 ≤ 9223372036854775807) (hb2 : (xs.length + 1) * bytes ≤ 140737488355328) (hbase : base ≤ w0.heap.size)
    (h : ∀ v' w', Own w' base e v' (xs ++ [y]) → w0.grownBy w' v.ownBlock → (v'.ownBlock = v.ownBlock ∨ v'.ownBlock = some (w0.heap.size + 1)) → wpList P ops Q rest (a.put o.dst v') w') :
    wpList P ops Q (o :: rest) a w := by
  subst hw
  have hob : ∀ k, v.ownBlock = some k → k < w0.heap.size := fun k hk => by obtain ⟨cs, _, ho'⟩ := hown; exact (ho'.lt k hk).2
  refine wpOwn_append hgd s x t e bytes base ho hE hs (hown.alloc _) hx (ys := [y]) (by simp) (fun h => by cases h) ((Sl.new hy e').mono (fun k hk h => ⟨hk, ?_⟩)) hb1 hb2 (by simp; omega) ?_
  · rcases h with h | h
    · exact h.2
    · subst h; intro e; have := hob _ e.symm; omega
  · intro v' w' ho' hg hat
    refine h v' w' ho' ⟨hg.os, hg.tape, hg.output, Nat.le_trans (by simp) hg.size, fun k hk hne => ?_⟩ (by simpa using hat)
    rw [hg.block k (by simp; omega) hne]
    exact Below.heap_alloc _ _ _ hk
end

end Go.Proofs.YtbefkiebdokbdaaGreat.V
end

section
/- The data of the program as Lean types, and how each lies in cells. -/
namespace Go.Proofs.YtbefkiebdokbdaaGreat.V
open Go.RowKit
set_option linter.unusedVariables false

def I64 (x : Int) : Prop := -9223372036854775808 ≤ x ∧ x ≤ 9223372036854775807
def U64 (x : Int) : Prop := 0 ≤ x ∧ x ≤ 18446744073709551615
def StrOk (s : ByteArray) : Prop := s.size ≤ 9223372036854775807

structure Bucket where
  at_ : Int
  n : Int
  deriving DecidableEq, Inhabited
structure Label where
  name : ByteArray
  value : ByteArray
  deriving DecidableEq, Inhabited
structure Gauge where
  n : Int
  nans : Int
  lo : Int
  hi : Int
  deriving DecidableEq, Inhabited
structure Sketch where
  hist : List Bucket
  hashes : List Int
  gauge : Gauge
  deriving DecidableEq, Inhabited
structure Row where
  labels : List Label
  at_ : Int
  s : Sketch
  deriving DecidableEq, Inhabited
inductive Matcher where
  | mk (op : Int) (name value : ByteArray) (values : List ByteArray) (kids : List Matcher)
  deriving Inhabited
def Matcher.op : Matcher → Int | .mk o _ _ _ _ => o
def Matcher.name : Matcher → ByteArray | .mk _ n _ _ _ => n
def Matcher.value : Matcher → ByteArray | .mk _ _ v _ _ => v
def Matcher.values : Matcher → List ByteArray | .mk _ _ _ v _ => v
def Matcher.kids : Matcher → List Matcher | .mk _ _ _ _ k => k
structure Ask where
  m : Matcher
  start : Int
  step : Int
  n : Int
  kind : Int
  a : Int
  b : Int
  deriving Inhabited
structure Answer where
  frm : Int
  has : Bool
  value : Int
  err : Int
  deriving DecidableEq, Inhabited

/-- Data without addresses. -/
@[reducible] def Rep.flat {α : Type} (n : Nat) (hn : 0 < n) (enc : α → List Value) (wf : α → Prop) (hl : ∀ x, (enc x).length = n) (ho : ∀ x, ∀ v ∈ enc x, v.oneCell' = true) : Rep α where
  sz := n
  pos := hn
  rep _ _ vs x := vs = enc x ∧ wf x
  len := fun h => by rw [h.1]; exact hl _
  keep := fun h _ => h
  mono := fun h _ => h
  one := fun h => by rw [h.1]; exact ho _

instance : Rep Int := Rep.flat 1 (by decide) (fun x => [.int .u64 x]) U64 (fun _ => rfl) (fun x v hv => by simp at hv; subst hv; rfl)
instance : Rep ByteArray := Rep.flat 1 (by decide) (fun x => [.string x]) StrOk (fun _ => rfl) (fun x v hv => by simp at hv; subst hv; rfl)
def encBucket (x : Bucket) : List Value := [.int .i64 x.at_, .int .u64 x.n]
def Bucket.wf (x : Bucket) : Prop := I64 x.at_ ∧ U64 x.n
instance : Rep Bucket := Rep.flat 2 (by decide) encBucket Bucket.wf (fun _ => rfl) (fun x v hv => by simp [encBucket] at hv; rcases hv with rfl | rfl <;> rfl)
def encLabel (x : Label) : List Value := [.string x.name, .string x.value]
def Label.wf (x : Label) : Prop := StrOk x.name ∧ StrOk x.value
instance : Rep Label := Rep.flat 2 (by decide) encLabel Label.wf (fun _ => rfl) (fun x v hv => by simp [encLabel] at hv; rcases hv with rfl | rfl <;> rfl)
def encGauge (x : Gauge) : List Value := [.int .u64 x.n, .int .u64 x.nans, .int .u64 x.lo, .int .u64 x.hi]
def Gauge.wf (x : Gauge) : Prop := U64 x.n ∧ U64 x.nans ∧ U64 x.lo ∧ U64 x.hi
def encAnswer (x : Answer) : List Value := [.int .i64 x.frm, .bool x.has, .int .u64 x.value, .int .i64 x.err]
def Answer.wf (x : Answer) : Prop := I64 x.frm ∧ U64 x.value ∧ I64 x.err
instance : Rep Answer := Rep.flat 4 (by decide) encAnswer Answer.wf (fun _ => rfl) (fun x v hv => by simp [encAnswer] at hv; rcases hv with rfl | rfl | rfl | rfl <;> rfl)

/-- A sketch's cells. -/
def SketchRep (ok : Nat → Prop) (w : World) (vs : List Value) (x : Sketch) : Prop :=
  ∃ A1 c1 A2 c2, vs = [.slice A1 x.hist.length c1, .slice A2 x.hashes.length c2, .int .u64 x.gauge.n, .int .u64 x.gauge.nans, .int .u64 x.gauge.lo, .int .u64 x.gauge.hi] ∧ Sl ok w A1 x.hist ∧ Sl ok w A2 x.hashes ∧ x.gauge.wf ∧ (A1 = none → c1 = 0) ∧ (A2 = none → c2 = 0)
instance : Rep Sketch where
  sz := 6
  pos := by decide
  rep := SketchRep
  len := fun h => by obtain ⟨_, _, _, _, rfl, _⟩ := h; rfl
  keep := fun h hk => by obtain ⟨A1, c1, A2, c2, e, h1, h2, h3⟩ := h; exact ⟨A1, c1, A2, c2, e, h1.keep hk, h2.keep hk, h3⟩
  mono := fun h hi => by obtain ⟨A1, c1, A2, c2, e, h1, h2, h3⟩ := h; exact ⟨A1, c1, A2, c2, e, h1.mono hi, h2.mono hi, h3⟩
  one := fun h v hv => by obtain ⟨_, _, _, _, rfl, _⟩ := h; simp at hv; rcases hv with rfl | rfl | rfl | rfl | rfl | rfl <;> rfl

def RowRep (ok : Nat → Prop) (w : World) (vs : List Value) (x : Row) : Prop :=
  ∃ A0 c0 A1 c1 A2 c2, vs = [.slice A0 x.labels.length c0, .int .i64 x.at_, .slice A1 x.s.hist.length c1, .slice A2 x.s.hashes.length c2, .int .u64 x.s.gauge.n, .int .u64 x.s.gauge.nans, .int .u64 x.s.gauge.lo, .int .u64 x.s.gauge.hi] ∧
    Sl ok w A0 x.labels ∧ I64 x.at_ ∧ Sl ok w A1 x.s.hist ∧ Sl ok w A2 x.s.hashes ∧ x.s.gauge.wf ∧ (A0 = none → c0 = 0) ∧ (A1 = none → c1 = 0) ∧ (A2 = none → c2 = 0)
instance : Rep Row where
  sz := 8
  pos := by decide
  rep := RowRep
  len := fun h => by obtain ⟨_, _, _, _, _, _, rfl, _⟩ := h; rfl
  keep := fun h hk => by obtain ⟨A0, c0, A1, c1, A2, c2, e, h0, hi, h1, h2, h3⟩ := h; exact ⟨A0, c0, A1, c1, A2, c2, e, h0.keep hk, hi, h1.keep hk, h2.keep hk, h3⟩
  mono := fun h hm => by obtain ⟨A0, c0, A1, c1, A2, c2, e, h0, hi, h1, h2, h3⟩ := h; exact ⟨A0, c0, A1, c1, A2, c2, e, h0.mono hm, hi, h1.mono hm, h2.mono hm, h3⟩
  one := fun h v hv => by obtain ⟨_, _, _, _, _, _, rfl, _⟩ := h; simp at hv; rcases hv with rfl | rfl | rfl | rfl | rfl | rfl | rfl | rfl <;> rfl

/-- A matcher's cells: the kids' own cells by a function. -/
inductive MRep (ok : Nat → Prop) (w : World) : List Value → Matcher → Prop
  | mk {op : Int} {name value : ByteArray} {values : List ByteArray} {kids : List Matcher} {A1 A2 : Option Addr} {c1 c2 : Nat} (vss : Nat → List Value)
      (hop : I64 op) (hn : StrOk name) (hv : StrOk value) (hvs : Sl ok w A1 values) (hl : kids.length ≤ 9223372036854775807)
      (hk : ∀ i (h : i < kids.length), MRep ok w (vss i) (kids[i]'h))
      (ha : 0 < kids.length → ∃ b off, A2 = some ⟨b, off, none⟩ ∧ ∀ i, i < kids.length → Cells ok w b (off + i * 5) (vss i))
      (hA1 : A1 = none → c1 = 0) (hA2 : A2 = none → c2 = 0) :
      MRep ok w [.int .i64 op, .string name, .string value, .slice A1 values.length c1, .slice A2 kids.length c2] (.mk op name value values kids)
theorem MRep.keep {ok : Nat → Prop} {w w' : World} {vs : List Value} {m : Matcher} (h : MRep ok w vs m) (hk : Keeps ok w w') : MRep ok w' vs m := by
  induction h with
  | mk vss hop hn hv hvs hl _ ha h1 h2 ih =>
    exact .mk vss hop hn hv (hvs.keep hk) hl ih (fun h => by obtain ⟨b, off, e, hc⟩ := ha h; exact ⟨b, off, e, fun i hi => (hc i hi).keep hk⟩) h1 h2
theorem MRep.mono {ok ok' : Nat → Prop} {w : World} {vs : List Value} {m : Matcher} (h : MRep ok w vs m) (hm : ∀ k, k < w.heap.size → ok k → ok' k) : MRep ok' w vs m := by
  induction h with
  | mk vss hop hn hv hvs hl _ ha h1 h2 ih =>
    exact .mk vss hop hn hv (hvs.mono hm) hl ih (fun h => by obtain ⟨b, off, e, hc⟩ := ha h; exact ⟨b, off, e, fun i hi => (hc i hi).mono hm⟩) h1 h2
instance : Rep Matcher where
  sz := 5
  pos := by decide
  rep := MRep
  len := fun h => by cases h; rfl
  keep := MRep.keep
  mono := MRep.mono
  one := fun h v hv => by cases h; simp at hv; rcases hv with rfl | rfl | rfl | rfl | rfl <;> rfl

/-- Rows of elements out of a function. -/
theorem Reps.ofFn {α : Type} [Rep α] {ok : Nat → Prop} {w : World} (xs : List α) (vss : Nat → List Value) (h : ∀ i (hi : i < xs.length), Rep.rep ok w (vss i) (xs[i]'hi)) :
    ∃ cs, Reps ok w cs xs ∧ ∀ j v, cs[j]? = some v → ∃ i r, i < xs.length ∧ j = i * Rep.sz α + r ∧ (vss i)[r]? = some v := by
  induction xs generalizing vss with
  | nil => exact ⟨[], .nil, fun j v h => by simp at h⟩
  | cons x xs ih =>
    obtain ⟨cs, hr, hc⟩ := ih (fun i => vss (i + 1)) (fun i hi => h (i + 1) (by simpa using hi))
    have h0 := h 0 (by simp)
    refine ⟨vss 0 ++ cs, .cons h0 hr, fun j v hj => ?_⟩
    have hl := Rep.len h0
    by_cases hlt : j < (vss 0).length
    · exact ⟨0, j, by simp, by simp, by rwa [List.getElem?_append_left hlt] at hj⟩
    · rw [List.getElem?_append_right (by omega)] at hj
      obtain ⟨i, r, hi, e, hv⟩ := hc _ _ hj
      exact ⟨i + 1, r, by simp; omega, by rw [Nat.add_mul]; omega, hv⟩
theorem Sl.ofFn {α : Type} [Rep α] {ok : Nat → Prop} {w : World} {A : Option Addr} {xs : List α} (vss : Nat → List Value) (hl : xs.length ≤ 9223372036854775807) (h : ∀ i (hi : i < xs.length), Rep.rep ok w (vss i) (xs[i]'hi))
    (ha : 0 < xs.length → ∃ b off, A = some ⟨b, off, none⟩ ∧ ∀ i, i < xs.length → Cells ok w b (off + i * Rep.sz α) (vss i)) : Sl ok w A xs := by
  obtain ⟨cs, hr, hc⟩ := Reps.ofFn xs vss h
  refine ⟨hl, cs, hr, fun h0 => ?_⟩
  obtain ⟨b, off, e, hcc⟩ := ha h0
  refine ⟨b, off, e, (hcc 0 h0).1, (hcc 0 h0).2.1, fun j v hj => ?_⟩
  obtain ⟨i, r, hi, ej, hv⟩ := hc j v hj
  rw [ej, ← Nat.add_assoc]
  exact (hcc i hi).2.2 r v hv
/-- A matcher's cells, taken apart; the kids as a slice. -/
theorem MRep.open_ {ok : Nat → Prop} {w : World} {vs : List Value} {m : Matcher} (h : MRep ok w vs m) :
    ∃ A1 c1 A2 c2, vs = [.int .i64 m.op, .string m.name, .string m.value, .slice A1 m.values.length c1, .slice A2 m.kids.length c2] ∧ I64 m.op ∧ StrOk m.name ∧ StrOk m.value ∧ Sl ok w A1 m.values ∧ Sl ok w A2 m.kids ∧ (A1 = none → c1 = 0) ∧ (A2 = none → c2 = 0) := by
  cases h with
  | mk vss hop hn hv hvs hl hk ha h1 h2 => exact ⟨_, _, _, _, rfl, hop, hn, hv, hvs, Sl.ofFn vss hl hk ha, h1, h2⟩
theorem MRep.make {ok : Nat → Prop} {w : World} {op : Int} {name value : ByteArray} {values : List ByteArray} {kids : List Matcher} {A1 A2 : Option Addr} {c1 c2 : Nat} (hop : I64 op) (hn : StrOk name) (hv : StrOk value) (hvs : Sl ok w A1 values) (hk : Sl ok w A2 kids) (hA1 : A1 = none → c1 = 0) (hA2 : A2 = none → c2 = 0) :
    MRep ok w [.int .i64 op, .string name, .string value, .slice A1 values.length c1, .slice A2 kids.length c2] (.mk op name value values kids) := by
  rcases Nat.eq_zero_or_pos kids.length with h0 | h0
  · exact .mk (fun _ => []) hop hn hv hvs (by omega) (fun i h => by omega) (fun h => by omega) hA1 hA2
  · obtain ⟨b, off, e, hb, hc⟩ := hk.addr h0
    refine .mk (fun i => if h : i < kids.length then (hc i h).choose else []) hop hn hv hvs hk.1 (fun i h => ?_) (fun _ => ⟨b, off, e, fun i h => ?_⟩) hA1 hA2
    · simp only [dif_pos h]; exact (hc i h).choose_spec.1
    · simp only [dif_pos h]; exact (hc i h).choose_spec.2

end Go.Proofs.YtbefkiebdokbdaaGreat.V
end
