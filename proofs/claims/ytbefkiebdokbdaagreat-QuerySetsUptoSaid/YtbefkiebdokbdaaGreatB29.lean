/- Part 29 of the proof: Tiny. -/
import Derived.Test.YtbefkiebdokbdaaGreatB17

section
/- varvelaw00.Tiny: what it says of a matcher that it takes: it is not deep. -/
namespace Go.Proofs.YtbefkiebdokbdaaGreat.V
open Go.RowKit
set_option linter.unusedVariables false
set_option maxRecDepth 100000

mutual
/-- A matcher has less than twelve levels from d on. -/
def mFits : Matcher → Nat → Bool
  | .mk _ _ _ _ kids, d => decide (d ≤ 11) && mFitsL kids (d + 1)
def mFitsL : List Matcher → Nat → Bool
  | [], _ => true
  | k :: ks, d => mFits k d && mFitsL ks d
end
theorem mFitsL_append (d : Nat) : ∀ a b : List Matcher, mFitsL (a ++ b) d = (mFitsL a d && mFitsL b d)
  | [], b => by simp [mFitsL]
  | x :: a, b => by simp [mFitsL, mFitsL_append d a b, Bool.and_assoc]
theorem mFitsL_snoc {l : List Matcher} {k d : Nat} (hk : k < l.length) : mFitsL (l.take (k + 1)) d = (mFitsL (l.take k) d && mFits l[k] d) := by
  rw [List.take_succ_eq_append_getElem hk, mFitsL_append]; simp [mFitsL]
theorem mFitsL_at {l : List Matcher} {k d : Nat} (hk : k < l.length) (h : mFitsL l d = true) : mFits l[k] d = true := by
  rw [← List.take_append_drop (k + 1) l, mFitsL_append, mFitsL_snoc hk] at h
  simp only [Bool.and_eq_true] at h
  exact h.1.2

/-- What a walk over a matcher has in hand: what stands at g, its box. -/
structure HX (w X : World) (g : Nat) (R : List Value) (T : Nat) (M : List Value) : Prop where
  room : Blk X g R T
  box : Blk X w.heap.size M 28
  frm : Frm (fun k => k = g) w X
section
variable {w X X' : World} {g T : Nat} {R R' M : List Value}
theorem HX.step (h : HX w X g R T M) (hb : Below X.heap.size X X') : HX w X' g R T M := ⟨h.room.below hb, h.box.below hb, h.frm.trans (.of_below hb)⟩
theorem HX.set (h : HX w X g R T M) (hg : g < w.heap.size) (i : Nat) (x : Value) : HX w (X.setCell ⟨g, i, none⟩ x) g (R.set i x) T M := ⟨h.room.set i _, h.box.other i _ (by omega), h.frm.one rfl i _⟩
theorem HX.next (h : HX w X g R T M) (hg : g < w.heap.size) (hf : Frm (fun k => k = g) X X') (hr : Blk X' g R' T) : HX w X' g R' T M := ⟨hr, h.box.frm hf (by omega), h.frm.trans hf⟩
theorem HX.new' (w : World) (g : Nat) (R : List Value) (T i : Nat) (x : Value) (M : List Value) (hB : Blk w g R T) :
    HX w ((w.setCell ⟨g, i, none⟩ x).alloc (.cells M.toArray 28)) g (R.set i x) T M := by
  refine ⟨(hB.set i _).below ((Below.refl _ _).alloc (Nat.le_refl _) _), ?_, ((Frm.refl (fun k => k = g) w).one rfl i x).alloc _⟩
  have := Blk.new (w.setCell ⟨g, i, none⟩ x) M 28
  simpa [World.setCell] using this
theorem HX.new (w : World) (g : Nat) (R : List Value) (T : Nat) (M : List Value) (hB : Blk w g R T) : HX w (w.alloc (.cells M.toArray 28)) g R T M :=
  ⟨hB.below ((Below.refl _ _).alloc (Nat.le_refl _) _), Blk.new _ _ _, (Frm.refl _ _).alloc _⟩
end
def TinyP (g : Nat) (w : World) (m : Matcher) (d : Nat) (e : Ending) (w' : World) : Prop :=
  ∃ (r : Bool) (n' : Nat), e = .returned (.bool r) ∧ Frm (fun k => k = g) w w' ∧ Blk w' g [.int .i64 n'] 3 ∧ (r = true → n' ≤ 200 ∧ mFits m d = true)
theorem TinyP.no {g : Nat} {w w' : World} {m : Matcher} {d : Nat} {n' : Nat} (hf : Frm (fun k => k = g) w w') (hB : Blk w' g [.int .i64 n'] 3) : TinyP g w m d (.returned (.bool false)) w' := ⟨false, n', rfl, hf, hB, fun h => by cases h⟩
def TinyC (N : Nat) : Prop := ∀ (m : Matcher) (d n g : Nat) (ok : Nat → Prop) (vs : List Value) (w : World), mNodes m ≤ N → d ≤ 12 → n ≤ 200 → Blk w g [.int .i64 n] 3 → (∀ k, ok k → k < w.heap.size ∧ k ≠ g) → MRep ok w vs m →
  Calls Tryz.prog 35 #[.agg vs.toArray, .pointer (some ⟨g, 0, none⟩), .int .i64 d] w (TinyP g w m d)

set_option maxHeartbeats 8000000 in
theorem C_tiny : ∀ N, TinyC N := by
  intro N
  induction N with
  | zero => intro m d n g ok vs w hN; have := mNodes_pos m; omega
  | succ N ih =>
    intro m d n g ok vs w hN hd hn hroom hok hM
    obtain ⟨A1, c1, A2, c2, rfl, hop, hnm, hva, hvs, hks, _, _⟩ := MRep.open_ hM
    obtain ⟨op, name, value, values, kids⟩ := m
    simp only [Matcher.op, Matcher.name, Matcher.value, Matcher.values, Matcher.kids] at hop hnm hva hvs hks ⊢
    have hg := hroom.lt
    have hne : g ≠ w.heap.size := by omega
    have hne' : w.heap.size ≠ g := by omega
    have x0 := hroom.c 0 rfl
    have f0 := hroom.f 0
    have hkl := hks.1
    have hvl := hvs.1
    have hNK : mNodesL kids ≤ N := by unfold mNodes at hN; omega
    have HKS := Lib.hid hks
    have HVS := Lib.hid hvs
    have HOK := Lib.hid hok
    have HIH := Lib.hid ih
    have hI0 := HX.new' w g [.int .i64 n] 3 0 (.int .i64 ((n : Int) + 1)) (mL op name value A1 values.length c1 A2 kids.length c2) hroom
    have hF : ∀ h : d ≤ 11, mFitsL kids (d + 1) = true → mFits (.mk op name value values kids) d = true := fun h1 h2 => by unfold mFits; rw [h2]; simp; omega
    have HF := Lib.hid hF
    clear hM hks hvs hok ih hF
    have ec : ((n + 1 : Nat) : Int) = (n : Int) + 1 := by omega
    go_enter Tryz.func35, Tryz.ntmps35
    go_wp2_with fail
    all_goals first
      | (go_ret; exact .no (n' := n + 1) hI0.frm hI0.room)
      | skip
    obtain ⟨Z, hZ⟩ : ∃ Z, Z = (w.setCell ⟨g, 0, none⟩ (.int .i64 ((n : Int) + 1))).alloc (.cells (mL op name value A1 values.length c1 A2 kids.length c2).toArray 28) := ⟨_, rfl⟩
    have hI : HX w Z g [.int .i64 ((n : Int) + 1)] 3 (mL op name value A1 values.length c1 A2 kids.length c2) := hZ ▸ hI0
    have hn1 : n + 1 ≤ 200 := by omega
    have hd1 : d ≤ 11 := by omega
    have hkv : values.length ≤ 40 := by omega
    show Code.wp _ _ _ _ ((w.setCell ⟨g, 0, none⟩ (.int .i64 ((n : Int) + 1))).alloc (.cells (mL op name value A1 values.length c1 A2 kids.length c2).toArray 28))
    rw [← hZ]
    clear hZ hI0 x0 f0 hroom ec
    have y3 := hI.box.c 3 rfl
    have y4 := hI.box.c 4 rfl
    go_loop [7] (fun i => ∃ k : Nat, k ≤ values.length ∧ i = .int .i64 k) (fun i => values.length - (intOf i).toNat)
    case atStart => exact ⟨0, Nat.zero_le _, rfl⟩
    case round =>
      obtain ⟨k, hk, rfl⟩ := hrel
      by_cases hlt : k < values.length
      · have hvsl := HVS.out.keep (hI.frm.keeps (fun k _ h => (HOK.out k h).2))
        obtain ⟨bv, ov, rfl, _, _, hcv, _⟩ := hvsl.str hlt
        clear hvsl
        generalize values[k] = vk at *
        go_wp2
        · go_ret
          exact .no (n' := n + 1) hI.frm hI.room
        · go_round
          case rel => exact ⟨k + 1, by omega, by go_num⟩
          case measure => simp [intOf]; omega
      · have hkk : k = values.length := by omega
        clear hlt
        subst hkk
        go_wp2_with fail
        have hI' : HX w Z g [.int .i64 ((n + 1 : Nat) : Int)] 3 (mL op name value A1 values.length c1 A2 kids.length c2) := hI
        clear y3 y4 hI hk
        have hsd : IntKind.i64.wrap ((d : Int) + 1) = (d : Int) + 1 := IntWalk.i64_in _ (by omega)
        go_loopw [8] (fun i wr => ∃ (k n' : Nat), k ≤ kids.length ∧ i = .int .i64 k ∧ HX w wr g [.int .i64 n'] 3 (mL op name value A1 values.length c1 A2 kids.length c2) ∧ n' ≤ 200 ∧ mFitsL (kids.take k) (d + 1) = true) (fun i _ => kids.length - (intOf i).toNat)
        case atStart => exact ⟨0, n + 1, Nat.zero_le _, rfl, hI', hn1, by simp [mFitsL]⟩
        case round =>
          obtain ⟨k, n', hk, rfl, hI, hn2, hfl⟩ := hrel
          clear hI' hn1
          have y4 := hI.box.c 4 rfl
          by_cases hlt : k < kids.length
          · have hksl := HKS.out.keep (hI.frm.keeps (fun k _ h => (HOK.out k h).2))
            obtain ⟨bk, ok_, A3, c3, A4, c4, rfl, _, _, z0, z1, z2, z3, z4, hmr⟩ := hksl.matcher hlt
            have e1 := mFitsL_snoc (d := d + 1) hlt
            have hkN : mNodes kids[k] ≤ N := Nat.le_trans (mNodes_kid hlt) hNK
            rw [hfl] at e1
            have HE1 := Lib.hid e1
            have hwsz := hI.frm.size
            clear e1 hksl hfl
            generalize kids[k] = kid at *
            go_wp2_with fail
            have hcall := HIH.out kid (d + 1) n' g ok _ _ hkN (by omega) hn2 hI.room (fun k h => ⟨by have := (HOK.out k h).1; omega, (HOK.out k h).2⟩) hmr
            clear z0 z1 z2 z3 z4 y4
            refine hcall.mono ?_
            rintro e w3 ⟨r', n3, rfl, hf3, hB3, hr3⟩
            clear hcall
            have hI3 := hI.next hg hf3 hB3
            clear hI hmr
            cases r'
            · clear hr3
              go_wp2
              go_ret
              exact .no hI3.frm hI3.room
            · obtain ⟨g1, g2⟩ := hr3 rfl
              have HG2 := Lib.hid g2
              clear hr3 g2
              go_wp2
              go_roundw
              case rel => exact ⟨k + 1, n3, by omega, by go_num, hI3, g1, by rw [HE1.out, HG2.out]; rfl⟩
              case measure => simp [intOf]; omega
          · have hkk : k = kids.length := by omega
            rw [hkk, List.take_length] at hfl
            have hfin := HF.out hd1 hfl
            have HFI := Lib.hid hfin
            clear hkk hfl hfin
            go_wp2
            go_ret
            exact ⟨true, n', rfl, hI.frm, hI.room, fun _ => ⟨hn2, HFI.out⟩⟩

theorem C_Tiny (ok : Nat → Prop) (m : Matcher) (vs : List Value) (w : World) (hok : ∀ k, ok k → k < w.heap.size) (hM : MRep ok w vs m) :
    Calls Tryz.prog 12 #[.agg vs.toArray] w fun e w' => ∃ r : Bool, e = .returned (.bool r) ∧ Below w.heap.size w w' ∧ (r = true → mFits m 0 = true) := by
  have hM0 := hM
  obtain ⟨A1, c1, A2, c2, rfl, _⟩ := MRep.open_ hM
  go_enter Tryz.func12, Tryz.ntmps12
  go_wp2_with fail
  have hB := Blk.new (w.alloc (.cells (mL m.op m.name m.value A1 m.values.length c1 A2 m.kids.length c2).toArray 28)) [.int .i64 0] 3
  have hs : (w.alloc (.cells (mL m.op m.name m.value A1 m.values.length c1 A2 m.kids.length c2).toArray 28)).heap.size = w.heap.size + 1 := by simp
  rw [hs] at hB
  have hb : Below w.heap.size w ((w.alloc (.cells (mL m.op m.name m.value A1 m.values.length c1 A2 m.kids.length c2).toArray 28)).alloc (.cells [.int .i64 0].toArray 3)) := ((Below.refl _ _).alloc (Nat.le_refl _) _).alloc (by omega) _
  have hm1 := hM0.keep (Keeps.of_below hb)
  refine (C_tiny _ m 0 0 (w.heap.size + 1) ok _ _ (Nat.le_refl _) (by omega) (by omega) hB (fun k h => ⟨Nat.lt_of_lt_of_le (hok k h) hb.size, by have := hok k h; omega⟩) hm1).mono ?_
  rintro e w1 ⟨r, n', rfl, hf, _, hr⟩
  have hfin := hf.to_below hb (fun k _ e => by omega)
  have HR := Lib.hid hr
  clear hr
  go_wp2
  go_ret
  exact ⟨r, rfl, hfin, fun h => (HR.out h).2⟩
end Go.Proofs.YtbefkiebdokbdaaGreat.V
end
