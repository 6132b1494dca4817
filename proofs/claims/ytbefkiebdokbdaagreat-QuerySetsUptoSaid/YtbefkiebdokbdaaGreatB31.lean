/- Part 31 of the proof: CopyM, CopyA, Open3. -/
import Derived.Test.YtbefkiebdokbdaaGreatB25
import Derived.Test.YtbefkiebdokbdaaGreatB26
import Derived.Test.YtbefkiebdokbdaaGreatB29
import Derived.Test.YtbefkiebdokbdaaGreatB30

section
/- varvelaw00.Matcher: a matcher copied, as deep as it may be; Ask. -/
namespace Go.Proofs.YtbefkiebdokbdaaGreat.V
open Go.RowKit
set_option linter.unusedVariables false
set_option maxRecDepth 100000

theorem el_String : ElemOf Tryz.prog 25 9 (Rep.sz ByteArray) 16 := ElemOf.mk' (z := .string ⟨#[]⟩) Tryz.underlying25 (by kernel_rfl) rfl
theorem el_Matcher : ElemOf Tryz.prog 26 28 (Rep.sz Matcher) 88 := ElemOf.mk' (z := .agg mz.toArray) Tryz.underlying26 (by kernel_rfl) rfl

theorem Sl.lift {α : Type} [Rep α] {w X : World} {B : Option Addr} {zs : List α} (h : Sl (fun k => k < w.heap.size) w B zs) (hb : Below w.heap.size w X) : Sl (fun k => k < X.heap.size) X B zs := (h.below hb).mono (fun k _ h => Nat.lt_of_lt_of_le h hb.size)
/-- A matcher whose parts lie in blocks from lo on. -/
structure FrM (lo : Nat) where
  m : Matcher
instance (lo : Nat) : Rep (FrM lo) where
  sz := 5
  pos := by decide
  rep := fun ok w vs x => MRep (fun k => ok k ∧ lo ≤ k) w vs x.m
  len := fun h => Rep.len (α := Matcher) h
  keep := fun h hk => MRep.keep h (hk.mono (fun k h => h.1))
  mono := fun h hi => MRep.mono h (fun k hk h => ⟨hi k hk h.1, h.2⟩)
  one := fun h => Rep.one (α := Matcher) h
def toFr (lo : Nat) (l : List Matcher) : List (FrM lo) := l.map FrM.mk
theorem Reps.frM {lo : Nat} {ok : Nat → Prop} {w : World} {cs : List Value} {xs : List (FrM lo)} (h : Reps ok w cs xs) : Reps (fun k => ok k ∧ lo ≤ k) w cs (xs.map FrM.m) := by
  induction h with
  | nil => exact .nil
  | cons h _ ih => exact .cons h ih
theorem toFr_back (lo : Nat) (l : List Matcher) : (toFr lo l).map FrM.m = l := by unfold toFr; rw [List.map_map]; simp [Function.comp_def]
theorem Own.frM {lo base e : Nat} {w : World} {v : Value} {l : List Matcher} (h : Own w base e v (toFr lo l)) (hlo : lo ≤ base) (hb : base ≤ w.heap.size) : ∃ A c, v = .slice A l.length c ∧ Sl (fun k => lo ≤ k ∧ k < w.heap.size) w A l ∧ (A = none → c = 0) := by
  obtain ⟨cs, hr, ho⟩ := h
  have hr' : Reps (fun k => lo ≤ k ∧ k < w.heap.size) w cs l := by
    have := hr.frM
    rw [toFr_back] at this
    exact this.mono (fun k _ hk => ⟨hk.2, hk.1.1⟩)
  have hlen : (toFr lo l).length = l.length := by unfold toFr; simp
  rw [hlen] at ho
  rcases ho.2 with ⟨rfl, h0⟩ | ⟨g, cap, cur, rfl, hg, hh, hn, hm, hs, ht⟩
  · exact ⟨none, 0, by rw [h0], ⟨by omega, cs, hr', fun hp => by omega⟩, fun _ => rfl⟩
  · have hgl := (Array.getElem?_eq_some_iff.1 hh).1
    refine ⟨some ⟨g, 0, none⟩, cap, rfl, ⟨?_, cs, hr', fun hp => ⟨g, 0, rfl, ⟨by omega, hgl⟩, hgl, fun j u hu => ?_⟩⟩, fun h => by cases h⟩
    · unfold maxLen at hm; omega
    · have := ho.cells (g := g) rfl j u hu
      rw [show (⟨g, 0, none⟩ : Addr).add j = ⟨g, 0 + j, none⟩ by unfold Addr.add; split <;> simp_all] at this
      exact this

/-- What a copier of a struct has in hand, with what has been since wa. -/
structure CopX (w wa X : World) (P Z : List Value) (t : Nat) : Prop where
  blk : Blk X w.heap.size P t
  res : Blk X (w.heap.size + 1) Z t
  frm : Frm (fun k => k = w.heap.size ∨ k = w.heap.size + 1) wa X
  below : Below w.heap.size w X
section
variable {w wa X X' : World} {P Z : List Value} {t : Nat}
theorem CopX.step (h : CopX w wa X P Z t) (hb : Below X.heap.size X X') : CopX w wa X' P Z t := ⟨h.blk.below hb, h.res.below hb, h.frm.trans (.of_below hb), h.below.trans (hb.mono h.below.size)⟩
theorem CopX.set (h : CopX w wa X P Z t) (i : Nat) (x : Value) : CopX w wa (X.setCell ⟨w.heap.size, i, none⟩ x) (P.set i x) Z t := by
  have a0 : Frm (fun k => k = w.heap.size) X X := Frm.refl _ X
  exact ⟨h.blk.set i x, h.res.other i x (by omega), h.frm.one (.inl rfl) i x, (a0.one rfl i x).to_below h.below (fun k _ e => by omega)⟩
theorem CopX.grow {row : Option Nat} (h : CopX w wa X P Z t) (hg : X.grownBy X' row) (hr : ∀ j, row = some j → w.heap.size + 2 ≤ j ∧ wa.heap.size ≤ j) : CopX w wa X' P Z t := by
  have e1 : some w.heap.size ≠ row := fun e => by have := hr _ e.symm; omega
  have e2 : some (w.heap.size + 1) ≠ row := fun e => by have := hr _ e.symm; omega
  refine ⟨?_, ?_, ⟨hg.os.trans h.frm.os, hg.tape.trans h.frm.tape, hg.output.trans h.frm.output, Nat.le_trans h.frm.size hg.size, fun k hk hn => ?_⟩, h.below.grown hg h.below.size (fun j hj => by have := hr j hj; omega)⟩
  · have := h.blk; unfold Blk at *; rw [hg.block _ (Blk.lt this) e1]; exact this
  · have := h.res; unfold Blk at *; rw [hg.block _ (Blk.lt this) e2]; exact this
  · rw [hg.block k (Nat.lt_of_lt_of_le hk h.frm.size) (fun e => by have := hr k e.symm; omega)]; exact h.frm.block k hk hn
end
def CopyM (N : Nat) : Prop := ∀ (m : Matcher) (d : Nat) (vs : List Value) (w : World), mNodes m ≤ N → mFits m d = true → MGood 1048576 m → MRep (fun k => k < w.heap.size) w vs m →
  Calls Tryz.prog 67 #[.agg vs.toArray, .int .i64 d] w fun e w' => ∃ us : List Value, e = .returned (.agg us.toArray) ∧ MRep (fun k => w.heap.size ≤ k) w' us m ∧ Below w.heap.size w w'

set_option maxHeartbeats 8000000 in
theorem C_copyM : ∀ N, CopyM N := by
  intro N
  induction N with
  | zero => intro m d vs w hN; have := mNodes_pos m; omega
  | succ N ih =>
    intro m d vs w hN hfit hgood hM
    obtain ⟨A1, c1, A2, c2, rfl, hop, hnm, hva, hvs, hks, hA1, hA2⟩ := MRep.open_ hM
    obtain ⟨op, name, value, values, kids⟩ := m
    obtain ⟨_, _, hg3, hg4, hg5⟩ := hgood
    have hg31 := hg3.1
    simp only [Matcher.op, Matcher.name, Matcher.value, Matcher.values, Matcher.kids] at hop hnm hva hvs hks ⊢
    have hNK : mNodesL kids ≤ N := by unfold mNodes at hN; omega
    have hfit2 : d ≤ 11 ∧ mFitsL kids (d + 1) = true := by unfold mFits at hfit; simpa using hfit
    obtain ⟨hd1, hfl⟩ := hfit2
    have hkl := hks.1
    have HKS := Lib.hid hks
    have HIH := Lib.hid ih
    have HG5 := Lib.hid hg5
    have HFL := Lib.hid hfl
    clear hM hks ih hg5 hfit hfl hg3
    obtain ⟨M, hMd⟩ : ∃ M : List Value, M = mL op name value A1 values.length c1 A2 kids.length c2 := ⟨_, rfl⟩
    have hI0 := CopI.new w (mL op name value A1 values.length c1 A2 kids.length c2) mz 28
    have hvs0 : Sl (fun k => k < ((w.alloc (.cells (mL op name value A1 values.length c1 A2 kids.length c2).toArray 28)).alloc (.cells mz.toArray 28)).heap.size ∧ some k ≠ Value.ownBlock (.slice none 0 0)) ((w.alloc (.cells (mL op name value A1 values.length c1 A2 kids.length c2).toArray 28)).alloc (.cells mz.toArray 28)) A1 values :=
      (Sl.lift hvs hI0.below).mono (fun k _ h => ⟨h, fun e => by cases e⟩)
    have hs0 : ((w.alloc (.cells (mL op name value A1 values.length c1 A2 kids.length c2).toArray 28)).alloc (.cells mz.toArray 28)).heap.size = w.heap.size + 2 := by simp
    go_enter Tryz.func67, Tryz.ntmps67
    go_wp2_with (at_builtin; refine wpOwn_append rfl _ _ 25 9 16 (w.heap.size + 2) rfl el_String (xs := []) rfl (Own.nil _ _ _) rfl rfl hA1 hvs0 (by simp; omega) (by simp; omega) (by simp) ?_)
    intro v1 w1 ho1 hg1 hat1
    obtain ⟨B1, d1, rfl, m1⟩ := ho1.form
    have hb1 : Below ((w.alloc (.cells (mL op name value A1 values.length c1 A2 kids.length c2).toArray 28)).alloc (.cells mz.toArray 28)).heap.size ((w.alloc (.cells (mL op name value A1 values.length c1 A2 kids.length c2).toArray 28)).alloc (.cells mz.toArray 28)) w1 := (Below.refl _ _).grown hg1 (Nat.le_refl _) (fun j hj => by cases hj)
    have hI0' := hI0.step hb1
    have hz1 : w.heap.size + 2 ≤ w1.heap.size := by have := hb1.size; omega
    have hI1 : CopX w w1 w1 (mL op name value A1 values.length c1 A2 kids.length c2) mz 28 := ⟨hI0'.blk, hI0'.res, Frm.refl _ _, hI0'.below⟩
    have hI2 := hI1.set 3 (.slice B1 values.length d1)
    have x3 := hI1.blk.c 3 rfl
    have f3 := hI1.blk.f 3
    clear hI0 hI0' hvs0 hs0 hb1 hg1 hat1 hvs
    go_wp2_with fail
    clear x3 f3
    have hdd : decide ((d : Int) < 12) = true := by simp; omega
    have hsd : IntKind.i64.wrap ((d : Int) + 1) = (d : Int) + 1 := IntWalk.i64_in _ (by omega)
    go_loopw [5, 6] (fun v i wr => ∃ k : Nat, k ≤ kids.length ∧ i = .int .i64 k ∧ Own wr w1.heap.size 28 v (toFr (w.heap.size + 2) (kids.take k)) ∧ CopX w w1 wr (mL op name value B1 values.length d1 A2 kids.length c2) mz 28) (fun _ i _ => kids.length - (intOf i).toNat)
    case atStart => exact ⟨0, Nat.zero_le _, rfl, Own.nil _ _ _, hI2⟩
    case round =>
      obtain ⟨k, hk, rfl, hown, hI⟩ := hrel
      clear hI2
      have y4 := hI.blk.c 4 rfl
      by_cases hlt : k < kids.length
      · have hksl := Sl.lift HKS.out hI.below
        obtain ⟨bk, ok_, A3, c3, A4, c4, rfl, _, _, z0, z1, z2, z3, z4, hmr⟩ := hksl.matcher hlt
        have hkN : mNodes kids[k] ≤ N := Nat.le_trans (mNodes_kid hlt) hNK
        have hkF := mFitsL_at hlt HFL.out
        have hkG := HG5.out _ (List.getElem_mem hlt)
        have htk : toFr (w.heap.size + 2) (kids.take (k + 1)) = toFr (w.heap.size + 2) (kids.take k) ++ [⟨kids[k]⟩] := by
          unfold toFr; rw [List.take_succ_eq_append_getElem hlt, List.map_append]; rfl
        have HT := Lib.hid htk
        have hlen : (toFr (w.heap.size + 2) (kids.take k)).length = k := by unfold toFr; simp; omega
        clear htk hksl
        generalize toFr (w.heap.size + 2) (kids.take k) = pre at *
        generalize kids[k] = kid at *
        go_wp2_with fail
        have hcall := HIH.out kid (d + 1) _ _ hkN hkF hkG hmr
        refine hcall.mono ?_
        rintro e w3 ⟨us, rfl, hus, hb3⟩
        obtain ⟨A5, c5, A6, c6, rfl, _⟩ := MRep.open_ hus
        clear hcall z0 z1 z2 z3 z4 y4 hmr
        have hwsz := hI.below.size
        have hwz1 := hI.frm.size
        have hz3 := hb3.size
        have hob : ∀ j, u5.ownBlock = some j → w1.heap.size ≤ j ∧ j < wr.heap.size := fun j hj => by obtain ⟨cs, _, ho'⟩ := hown; exact ho'.lt j hj
        have hown1 := hown.below hb3
        have hI3 := hI.step hb3
        have hrow1 : Rep.rep (α := FrM (w.heap.size + 2)) (fun k => k < w3.heap.size ∧ some k ≠ u5.ownBlock) w3 (mL kid.op kid.name kid.value A5 kid.values.length c5 A6 kid.kids.length c6) ⟨kid⟩ := MRep.mono hus (fun k hk h => ⟨⟨hk, fun e => by have := hob k e.symm; omega⟩, by omega⟩)
        have hA1 : pre.length + 1 ≤ 9223372036854775807 := by omega
        have hA2 : (pre.length + 1) * 88 ≤ 140737488355328 := by omega
        have hA3 : w1.heap.size ≤ w3.heap.size := by omega
        clear hown hus hI hb3
        go_wp2_with (at_builtin; refine wpOwn_append1 (α := FrM (w.heap.size + 2)) (mL kid.op kid.name kid.value A5 kid.values.length c5 A6 kid.kids.length c6) ⟨kid⟩ rfl _ _ 26 28 28 88 w1.heap.size rfl rfl el_Matcher rfl hown1 rfl hrow1 hA1 hA2 hA3 ?_)
        intro v' w4 ho4 hg4 hat4
        have hI4 := hI3.grow hg4 (fun j hj => by have := hob j hj; omega)
        clear hI3 hown1 hrow1
        go_wp2
        go_roundw
        case rel => exact ⟨k + 1, by omega, by go_num, by rw [HT.out]; exact ho4, hI4⟩
        case measure => simp [intOf]; omega
      · have hkk : k = kids.length := by omega
        rw [hkk, List.take_length] at hown
        obtain ⟨B2, d2, rfl, hsl2, hnil2⟩ := Own.frM hown (by omega) hI.frm.size
        have x0 := hI.blk.c 0 rfl
        have x1 := hI.blk.c 1 rfl
        have x2 := hI.blk.c 2 rfl
        have x3 := hI.blk.c 3 rfl
        have g4 := hI.blk.f 4
        have r0 := hI.res.c 0 rfl
        have r1 := hI.res.c 1 rfl
        have r2 := hI.res.c 2 rfl
        have r3 := hI.res.c 3 rfl
        have r4 := hI.res.c 4 rfl
        have q0 := hI.res.f 0
        have q1 := hI.res.f 1
        have q2 := hI.res.f 2
        have q3 := hI.res.f 3
        have q4 := hI.res.f 4
        have e1 : w.heap.size ≠ w.heap.size + 1 := by omega
        clear hkk hown
        go_wp2
        have hId := hI.set 4 (.slice B2 kids.length d2)
        have hFd : Frm (fun k => k = w.heap.size ∨ k = w.heap.size + 1) wr (wr.setCell ⟨w.heap.size, 4, none⟩ (.slice B2 kids.length d2)) := (Frm.refl _ wr).one (.inl rfl) 4 _
        have hblk := ((((hId.res.set 0 (.int .i64 op)).set 1 (.string name)).set 2 (.string value)).set 3 (.slice B1 values.length d1)).set 4 (.slice B2 kids.length d2)
        have hfrm := ((((hFd.one (r := w.heap.size + 1) (.inr rfl) 0 (.int .i64 op)).one (r := w.heap.size + 1) (.inr rfl) 1 (.string name)).one (r := w.heap.size + 1) (.inr rfl) 2 (.string value)).one (r := w.heap.size + 1) (.inr rfl) 3 (.slice B1 values.length d1)).one (r := w.heap.size + 1) (.inr rfl) 4 (.slice B2 kids.length d2)
        revert hblk hfrm
        clear hId hFd r0 r1 r2 r3 r4 q0 q1 q2 q3 q4 x0 x1 x2 x3 y4 g4
        generalize (World.setCell _ ⟨w.heap.size + 1, 4, none⟩ (.slice B2 kids.length d2)) = Y
        intro hblk hfrm
        have hbel := hfrm.to_below hI.below (fun k _ e => by omega)
        have hwz := hI.below.size
        have hwz1 := hI.frm.size
        have hf1 := hI.frm.trans hfrm
        have s1 : Sl (fun k => w.heap.size ≤ k) Y B1 values := (ho1.flat (fun _ _ _ _ _ _ h => h) (hf1.mono (fun k _ h => by omega))).mono (fun k _ h => by omega)
        have s2 : Sl (fun k => w.heap.size ≤ k) Y B2 kids := (hsl2.keep (hfrm.keeps (fun k _ h => by omega))).mono (fun k _ h => by omega)
        have k0 := hblk.c 0 rfl
        have k1 := hblk.c 1 rfl
        have k2 := hblk.c 2 rfl
        have k3 := hblk.c 3 rfl
        have k4 := hblk.c 4 rfl
        exact bodyPost_ret (v := .agg (mL op name value B1 values.length d1 B2 kids.length d2).toArray) (by simp [results, Tryz.results67, go_sem, k0, k1, k2, k3, k4]) rfl ⟨mL op name value B1 values.length d1 B2 kids.length d2, rfl, MRep.make hop hnm hva s1 s2 (fun h => (m1 h).2) hnil2, hbel⟩

theorem C_v_Matcher (m : Matcher) (vs : List Value) (w : World) (hfit : mFits m 0 = true) (hgood : MGood 1048576 m) (hM : MRep (fun k => k < w.heap.size) w vs m) :
    Calls Tryz.prog 30 #[.agg vs.toArray] w fun e w' => ∃ us : List Value, e = .returned (.agg us.toArray) ∧ MRep (fun k => w.heap.size ≤ k) w' us m ∧ Below w.heap.size w w' := by
  have hM0 := hM
  obtain ⟨A1, c1, A2, c2, rfl, _⟩ := MRep.open_ hM
  have hI0 := CopI.new w (mL m.op m.name m.value A1 m.values.length c1 A2 m.kids.length c2) mz 28
  have hm1 := (hM0.keep (Keeps.of_below hI0.below)).mono (ok' := fun k => k < ((w.alloc (.cells (mL m.op m.name m.value A1 m.values.length c1 A2 m.kids.length c2).toArray 28)).alloc (.cells mz.toArray 28)).heap.size) (fun k _ h => Nat.lt_of_lt_of_le h hI0.below.size)
  go_enter Tryz.func30, Tryz.ntmps30
  go_wp2_with fail
  refine (C_copyM _ m 0 _ _ (Nat.le_refl _) hfit hgood hm1).mono ?_
  rintro e w1 ⟨us, rfl, hus, hb1⟩
  have hus0 := hus
  obtain ⟨B1, d1, B2, d2, rfl, _⟩ := MRep.open_ hus
  have hI1 := hI0.step hb1
  have hs0 : ((w.alloc (.cells (mL m.op m.name m.value A1 m.values.length c1 A2 m.kids.length c2).toArray 28)).alloc (.cells mz.toArray 28)).heap.size = w.heap.size + 2 := by simp
  rw [hs0] at hus0
  have r0 := hI1.res.c 0 rfl
  have r1 := hI1.res.c 1 rfl
  have r2 := hI1.res.c 2 rfl
  have r3 := hI1.res.c 3 rfl
  have r4 := hI1.res.c 4 rfl
  have q0 := hI1.res.f 0
  have q1 := hI1.res.f 1
  have q2 := hI1.res.f 2
  have q3 := hI1.res.f 3
  have q4 := hI1.res.f 4
  go_wp2
  have hblk := ((((hI1.res.set 0 (.int .i64 m.op)).set 1 (.string m.name)).set 2 (.string m.value)).set 3 (.slice B1 m.values.length d1)).set 4 (.slice B2 m.kids.length d2)
  have hfrm := (((((Frm.refl (fun k => k = w.heap.size + 1) w1).one rfl 0 (.int .i64 m.op)).one rfl 1 (.string m.name)).one rfl 2 (.string m.value)).one rfl 3 (.slice B1 m.values.length d1)).one rfl 4 (.slice B2 m.kids.length d2)
  revert hblk hfrm
  clear r0 r1 r2 r3 r4 q0 q1 q2 q3 q4
  generalize (World.setCell _ ⟨w.heap.size + 1, 4, none⟩ (.slice B2 m.kids.length d2)) = Y
  intro hblk hfrm
  have hbel := hfrm.to_below hI1.below (fun k _ e => by omega)
  have hfin := (hus0.keep (hfrm.keeps (fun k _ h => by omega))).mono (ok' := fun k => w.heap.size ≤ k) (fun k _ h => by omega)
  have k0 := hblk.c 0 rfl
  have k1 := hblk.c 1 rfl
  have k2 := hblk.c 2 rfl
  have k3 := hblk.c 3 rfl
  have k4 := hblk.c 4 rfl
  exact bodyPost_ret (v := .agg (mL m.op m.name m.value B1 m.values.length d1 B2 m.kids.length d2).toArray) (by simp [results, Tryz.results30, go_sem, k0, k1, k2, k3, k4]) rfl ⟨_, rfl, hfin, hbel⟩
end Go.Proofs.YtbefkiebdokbdaaGreat.V
end

section
/- varvelaw00.Ask: a question copied. -/
namespace Go.Proofs.YtbefkiebdokbdaaGreat.V
open Go.RowKit
set_option linter.unusedVariables false
set_option maxRecDepth 100000

/-- A question's cells behind its matcher's. -/
@[reducible] def askR (a : Ask) : List Value := [.int .i64 a.start, .int .i64 a.step, .int .i64 a.n, .int .i64 a.kind, .int .u64 a.a, .int .u64 a.b]
@[reducible] def aZ : List Value := [.int .i64 0, .string ⟨#[]⟩, .string ⟨#[]⟩, .slice none 0 0, .slice none 0 0, .int .i64 0, .int .i64 0, .int .i64 0, .int .i64 0, .int .u64 0, .int .u64 0]
/-- A question as cells. -/
@[reducible] def aL (op : Int) (name value : ByteArray) (A1 : Option Addr) (n1 c1 : Nat) (A2 : Option Addr) (n2 c2 : Nat) (a : Ask) : List Value :=
  [.int .i64 op, .string name, .string value, .slice A1 n1 c1, .slice A2 n2 c2, .int .i64 a.start, .int .i64 a.step, .int .i64 a.n, .int .i64 a.kind, .int .u64 a.a, .int .u64 a.b]
/-- A question lies in cells. -/
def AskRep (ok : Nat → Prop) (w : World) (vs : List Value) (a : Ask) : Prop := ∃ us, vs = us ++ askR a ∧ MRep ok w us a.m ∧ I64 a.start ∧ I64 a.step ∧ I64 a.n ∧ I64 a.kind ∧ U64 a.a ∧ U64 a.b
theorem AskRep.open_ {ok : Nat → Prop} {w : World} {vs : List Value} {a : Ask} (h : AskRep ok w vs a) : ∃ A1 c1 A2 c2, vs = aL a.m.op a.m.name a.m.value A1 a.m.values.length c1 A2 a.m.kids.length c2 a ∧ MRep ok w (mL a.m.op a.m.name a.m.value A1 a.m.values.length c1 A2 a.m.kids.length c2) a.m := by
  obtain ⟨us, rfl, hm, _⟩ := h
  obtain ⟨A1, c1, A2, c2, rfl, _⟩ := MRep.open_ hm
  exact ⟨A1, c1, A2, c2, rfl, hm⟩
theorem AskRep.keep {ok : Nat → Prop} {w w' : World} {vs : List Value} {a : Ask} (h : AskRep ok w vs a) (hk : Keeps ok w w') : AskRep ok w' vs a := by
  obtain ⟨us, e, hm, r⟩ := h
  exact ⟨us, e, hm.keep hk, r⟩
theorem AskRep.mono {ok ok' : Nat → Prop} {w : World} {vs : List Value} {a : Ask} (h : AskRep ok w vs a) (hi : ∀ k, k < w.heap.size → ok k → ok' k) : AskRep ok' w vs a := by
  obtain ⟨us, e, hm, r⟩ := h
  exact ⟨us, e, hm.mono hi, r⟩
theorem AskRep.lift {w X : World} {vs : List Value} {a : Ask} (h : AskRep (fun k => k < w.heap.size) w vs a) (hb : Below w.heap.size w X) : AskRep (fun k => k < X.heap.size) X vs a := (h.keep (Keeps.of_below hb)).mono (fun k _ h => Nat.lt_of_lt_of_le h hb.size)

set_option maxHeartbeats 1000000 in
theorem C_v_Ask (a : Ask) (vs : List Value) (w : World) (hfit : mFits a.m 0 = true) (hgood : MGood 1048576 a.m) (hA : AskRep (fun k => k < w.heap.size) w vs a) :
    Calls Tryz.prog 15 #[.agg vs.toArray] w fun e w' => ∃ us : List Value, e = .returned (.agg us.toArray) ∧ AskRep (fun k => w.heap.size ≤ k) w' us a ∧ Below w.heap.size w w' := by
  have hA0 := hA
  obtain ⟨A1, c1, A2, c2, rfl, hM⟩ := AskRep.open_ hA
  obtain ⟨_, he, _, h1, h2, h3, h4, h5, h6⟩ := hA0
  clear he hA
  have hI0 := CopI.new w (aL a.m.op a.m.name a.m.value A1 a.m.values.length c1 A2 a.m.kids.length c2 a) aZ 31
  have hm1 := (hM.keep (Keeps.of_below hI0.below)).mono (ok' := fun k => k < ((w.alloc (.cells (aL a.m.op a.m.name a.m.value A1 a.m.values.length c1 A2 a.m.kids.length c2 a).toArray 31)).alloc (.cells aZ.toArray 31)).heap.size) (fun k _ h => Nat.lt_of_lt_of_le h hI0.below.size)
  go_enter Tryz.func15, Tryz.ntmps15
  go_wp2_with fail
  refine (C_v_Matcher a.m _ _ hfit hgood hm1).mono ?_
  rintro e w1 ⟨us, rfl, hus, hb1⟩
  have hus0 := hus
  obtain ⟨B1, d1, B2, d2, rfl, _⟩ := MRep.open_ hus
  have hI1 := hI0.step hb1
  have hs0 : ((w.alloc (.cells (aL a.m.op a.m.name a.m.value A1 a.m.values.length c1 A2 a.m.kids.length c2 a).toArray 31)).alloc (.cells aZ.toArray 31)).heap.size = w.heap.size + 2 := by simp
  rw [hs0] at hus0
  have x0 := hI1.blk.c 0 rfl
  have x1 := hI1.blk.c 1 rfl
  have x2 := hI1.blk.c 2 rfl
  have x3 := hI1.blk.c 3 rfl
  have x4 := hI1.blk.c 4 rfl
  have x5 := hI1.blk.c 5 rfl
  have x6 := hI1.blk.c 6 rfl
  have x7 := hI1.blk.c 7 rfl
  have x8 := hI1.blk.c 8 rfl
  have x9 := hI1.blk.c 9 rfl
  have x10 := hI1.blk.c 10 rfl
  have g0 := hI1.blk.f 0
  have g1 := hI1.blk.f 1
  have g2 := hI1.blk.f 2
  have g3 := hI1.blk.f 3
  have g4 := hI1.blk.f 4
  have r0 := hI1.res.c 0 rfl
  have r1 := hI1.res.c 1 rfl
  have r2 := hI1.res.c 2 rfl
  have r3 := hI1.res.c 3 rfl
  have r4 := hI1.res.c 4 rfl
  have r5 := hI1.res.c 5 rfl
  have r6 := hI1.res.c 6 rfl
  have r7 := hI1.res.c 7 rfl
  have r8 := hI1.res.c 8 rfl
  have r9 := hI1.res.c 9 rfl
  have r10 := hI1.res.c 10 rfl
  have q0 := hI1.res.f 0
  have q1 := hI1.res.f 1
  have q2 := hI1.res.f 2
  have q3 := hI1.res.f 3
  have q4 := hI1.res.f 4
  have q5 := hI1.res.f 5
  have q6 := hI1.res.f 6
  have q7 := hI1.res.f 7
  have q8 := hI1.res.f 8
  have q9 := hI1.res.f 9
  have q10 := hI1.res.f 10
  have e1 : w.heap.size ≠ w.heap.size + 1 := by omega
  clear hI0 hm1 hM hb1 hs0 hus
  go_wp2_with fail
  have hI2 := ((((hI1.set 0 (.int .i64 a.m.op)).set 1 (.string a.m.name)).set 2 (.string a.m.value)).set 3 (.slice B1 a.m.values.length d1)).set 4 (.slice B2 a.m.kids.length d2)
  have hf2 := (((((Frm.refl (fun k => k = w.heap.size) w1).one rfl 0 (.int .i64 a.m.op)).one rfl 1 (.string a.m.name)).one rfl 2 (.string a.m.value)).one rfl 3 (.slice B1 a.m.values.length d1)).one rfl 4 (.slice B2 a.m.kids.length d2)
  have hblk := (((((((((((hI2.res.set 0 (.int .i64 a.m.op)).set 1 (.string a.m.name)).set 2 (.string a.m.value)).set 3 (.slice B1 a.m.values.length d1)).set 4 (.slice B2 a.m.kids.length d2)).set 5 (.int .i64 a.start)).set 6 (.int .i64 a.step)).set 7 (.int .i64 a.n)).set 8 (.int .i64 a.kind)).set 9 (.int .u64 a.a)).set 10 (.int .u64 a.b))
  have hfrm := ((((((((((((hf2.mono (S' := fun k => k = w.heap.size ∨ k = w.heap.size + 1) (fun _ _ h => .inl h)).one (r := w.heap.size + 1) (.inr rfl) 0 (.int .i64 a.m.op)).one (r := w.heap.size + 1) (.inr rfl) 1 (.string a.m.name)).one (r := w.heap.size + 1) (.inr rfl) 2 (.string a.m.value)).one (r := w.heap.size + 1) (.inr rfl) 3 (.slice B1 a.m.values.length d1)).one (r := w.heap.size + 1) (.inr rfl) 4 (.slice B2 a.m.kids.length d2)).one (r := w.heap.size + 1) (.inr rfl) 5 (.int .i64 a.start)).one (r := w.heap.size + 1) (.inr rfl) 6 (.int .i64 a.step)).one (r := w.heap.size + 1) (.inr rfl) 7 (.int .i64 a.n)).one (r := w.heap.size + 1) (.inr rfl) 8 (.int .i64 a.kind)).one (r := w.heap.size + 1) (.inr rfl) 9 (.int .u64 a.a)).one (r := w.heap.size + 1) (.inr rfl) 10 (.int .u64 a.b))
  revert hblk hfrm
  clear hI2 hf2 x0 x1 x2 x3 x4 x5 x6 x7 x8 x9 x10 g0 g1 g2 g3 g4 r0 r1 r2 r3 r4 r5 r6 r7 r8 r9 r10 q0 q1 q2 q3 q4 q5 q6 q7 q8 q9 q10
  generalize (World.setCell _ ⟨w.heap.size + 1, 10, none⟩ (.int .u64 a.b)) = Y
  intro hblk hfrm
  have hbel := hfrm.to_below hI1.below (fun k _ e => by omega)
  have hfin := (hus0.keep (hfrm.keeps (fun k _ h => by omega))).mono (ok' := fun k => w.heap.size ≤ k) (fun k _ h => by omega)
  have k0 := hblk.c 0 rfl
  have k1 := hblk.c 1 rfl
  have k2 := hblk.c 2 rfl
  have k3 := hblk.c 3 rfl
  have k4 := hblk.c 4 rfl
  have k5 := hblk.c 5 rfl
  have k6 := hblk.c 6 rfl
  have k7 := hblk.c 7 rfl
  have k8 := hblk.c 8 rfl
  have k9 := hblk.c 9 rfl
  have k10 := hblk.c 10 rfl
  exact bodyPost_ret (v := .agg (aL a.m.op a.m.name a.m.value B1 a.m.values.length d1 B2 a.m.kids.length d2 a).toArray) (by simp [results, Tryz.results15, go_sem, k0, k1, k2, k3, k4, k5, k6, k7, k8, k9, k10]) rfl ⟨_, rfl, ⟨_, rfl, hfin, h1, h2, h3, h4, h5, h6⟩, hbel⟩
end Go.Proofs.YtbefkiebdokbdaaGreat.V
end

section
/- Arguments opened: a config, a question. -/
namespace Go.Proofs.YtbefkiebdokbdaaGreat.V
open Go.RowKit Go.ChangeShapes Go.WideShapes Go.Deep
set_option linter.unusedVariables false
set_option maxRecDepth 100000

theorem array_at {t e : TypeId} {k : Nat} (hs : Tryz.prog.underlying t = some (.array k e)) {H : Type} {enc : TypeId × Value → H} {w : World} {base : Nat} {spare : Nat → Bool} {held : Bool} {fuel : Nat} {cs : List Value} {x : DataW H × List MemPlace}
    (h : DataW.trod enc Tryz.prog w base spare held fuel t cs = some x) :
    ∃ n, cs.length = Tryz.prog.cellsOf t ∧ ∀ i, i < k → ∃ y : DataW H × List MemPlace, DataW.trod enc Tryz.prog w base spare held n e ((cs.drop (i * Tryz.prog.cellsOf e)).take (Tryz.prog.cellsOf e)) = some y := by
  cases fuel with
  | zero => simp [DataW.trod] at h
  | succ n =>
    unfold DataW.trod at h
    rw [hs] at h
    split at h <;> simp_all
    obtain ⟨hl, xs, hx, _⟩ := h
    refine ⟨n, fun i hi => ?_⟩
    have := mapM_some_get hx i i (by simp [hi])
    have hlen := mapM_some_length hx
    simp at hlen
    have hil : i < xs.length := by omega
    exact ⟨(xs[i]'hil).1, (xs[i]'hil).2, by rw [this]; exact List.getElem?_eq_getElem hil⟩
theorem c_Conf : Tryz.prog.cellsOf 24 = 5 := by kernel_rfl
theorem c_arr4 : Tryz.prog.cellsOf 22 = 4 := by kernel_rfl
theorem c_Ask : Tryz.prog.cellsOf 31 = 11 := by kernel_rfl
theorem len4 {α : Type} {l : List α} (h : l.length = 4) : ∃ a b c d, l = [a, b, c, d] := by
  match l, h with
  | [a, b, c, d], _ => exact ⟨a, b, c, d, rfl⟩
theorem len11 {α : Type} {l : List α} (h : l.length = 11) : ∃ a b c d e f g i j k m, l = [a, b, c, d, e, f, g, i, j, k, m] := by
  match l, h with
  | [a, b, c, d, e, f, g, i, j, k, m], _ => exact ⟨a, b, c, d, e, f, g, i, j, k, m, rfl⟩
section
variable {H : Type} {enc : TypeId × Value → H} {w : World} {base : Nat} {spare : Nat → Bool} {held : Bool} {fuel : Nat} {cs : List Value} {x : DataW H × List MemPlace}
theorem opens_Conf (h : DataW.trod enc Tryz.prog w base spare held fuel 24 cs = some x) : ∃ c : Conf, cs = confL c ∧ c.wf := by
  obtain ⟨n, hl, hf⟩ := struct_at Tryz.underlying24 h
  rw [c_Conf] at hl
  obtain ⟨c0, c1, c2, c3, c4, rfl⟩ := len5 hl
  obtain ⟨y0, _, h0⟩ := hf 0 _ rfl
  obtain ⟨y1, _, h1⟩ := hf 1 _ rfl
  simp only [c_int, c_arr4, List.getElem_toArray, List.getElem_cons_zero, List.getElem_cons_succ, List.drop_zero, List.drop_succ_cons, List.take_succ_cons, List.take_zero] at h0 h1
  obtain ⟨s, e0, w0⟩ := at_int h0
  obtain ⟨m, _, ha⟩ := array_at Tryz.underlying22 h1
  obtain ⟨z0, g0⟩ := ha 0 (by omega)
  obtain ⟨z1, g1⟩ := ha 1 (by omega)
  obtain ⟨z2, g2⟩ := ha 2 (by omega)
  obtain ⟨z3, g3⟩ := ha 3 (by omega)
  simp only [c_int, Nat.mul_one, List.drop_zero, List.drop_succ_cons, List.take_succ_cons, List.take_zero] at g0 g1 g2 g3
  obtain ⟨k0, e1, w1⟩ := at_int g0
  obtain ⟨k1, e2, w2⟩ := at_int g1
  obtain ⟨k2, e3, w3⟩ := at_int g2
  obtain ⟨k3, e4, w4⟩ := at_int g3
  cases e0; cases e1; cases e2; cases e3; cases e4
  exact ⟨⟨s, k0, k1, k2, k3⟩, rfl, w0, w1, w2, w3, w4⟩
theorem opens_Ask (h : DataW.trod enc Tryz.prog w base spare held fuel 31 cs = some x) : ∃ a : Ask, AskRep (fun k => k < w.heap.size) w cs a ∧ MGood (Rows.uptoBulk x.1) a.m := by
  obtain ⟨n, hl, hf⟩ := struct_at Tryz.underlying31 h
  rw [c_Ask] at hl
  obtain ⟨c0, c1, c2, c3, c4, c5, c6, c7, c8, c9, c10, rfl⟩ := len11 hl
  obtain ⟨y0, b0, h0⟩ := hf 0 _ rfl
  obtain ⟨y1, _, h1⟩ := hf 1 _ rfl
  obtain ⟨y2, _, h2⟩ := hf 2 _ rfl
  obtain ⟨y3, _, h3⟩ := hf 3 _ rfl
  obtain ⟨y4, _, h4⟩ := hf 4 _ rfl
  obtain ⟨y5, _, h5⟩ := hf 5 _ rfl
  obtain ⟨y6, _, h6⟩ := hf 6 _ rfl
  simp only [c_int, c_u64, c_Matcher, List.getElem_toArray, List.getElem_cons_zero, List.getElem_cons_succ, List.drop_zero, List.drop_succ_cons, List.take_succ_cons, List.take_zero] at h0 h1 h2 h3 h4 h5 h6
  obtain ⟨m, hm, hg⟩ := opens_Matcher _ _ _ _ _ _ _ _ _ h0
  obtain ⟨v1, e1, w1⟩ := at_int h1
  obtain ⟨v2, e2, w2⟩ := at_int h2
  obtain ⟨v3, e3, w3⟩ := at_int h3
  obtain ⟨v4, e4, w4⟩ := at_int h4
  obtain ⟨v5, e5, w5⟩ := at_u64 h5
  obtain ⟨v6, e6, w6⟩ := at_u64 h6
  cases e1; cases e2; cases e3; cases e4; cases e5; cases e6
  exact ⟨⟨m, v1, v2, v3, v4, v5, v6⟩, ⟨_, rfl, hm, w1, w2, w3, w4, w5, w6⟩, hg.mono (Nat.le_of_lt b0)⟩
end
end Go.Proofs.YtbefkiebdokbdaaGreat.V
end
