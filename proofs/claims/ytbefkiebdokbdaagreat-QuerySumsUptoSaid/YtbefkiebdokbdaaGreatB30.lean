/- Part 30 of the proof: Tiny, Ref12, Ref12b. -/
import Derived.Test.YtbefkiebdokbdaaGreatB17
import Derived.Test.YtbefkiebdokbdaaGreatB29

section
/- varvelaw00.Tiny: what it says of a matcher that it takes: it is not deep. -/
namespace Go.Proofs.YtbefkiebdokbdaaGreat.V
open Go.RowKit
set_option linter.unusedVariables false
set_option maxRecDepth 100000

mutual
/-- A matcher has less than twelve levels from d on. -/
def mFits : Matcher → Nat → Bool
  | .mk _ _ _ _ kids, d => decide (d ≤ 11) && mFitsL kids (d + 1)
def mFitsL : List Matcher → Nat → Bool
  | [], _ => true
  | k :: ks, d => mFits k d && mFitsL ks d
end
theorem mFitsL_append (d : Nat) : ∀ a b : List Matcher, mFitsL (a ++ b) d = (mFitsL a d && mFitsL b d)
  | [], b => by simp [mFitsL]
  | x :: a, b => by simp [mFitsL, mFitsL_append d a b, Bool.and_assoc]
theorem mFitsL_snoc {l : List Matcher} {k d : Nat} (hk : k < l.length) : mFitsL (l.take (k + 1)) d = (mFitsL (l.take k) d && mFits l[k] d) := by
  rw [List.take_succ_eq_append_getElem hk, mFitsL_append]; simp [mFitsL]
theorem mFitsL_at {l : List Matcher} {k d : Nat} (hk : k < l.length) (h : mFitsL l d = true) : mFits l[k] d = true := by
  rw [← List.take_append_drop (k + 1) l, mFitsL_append, mFitsL_snoc hk] at h
  simp only [Bool.and_eq_true] at h
  exact h.1.2

/-- What a walk over a matcher has in hand: what stands at g, its box. -/
structure HX (w X : World) (g : Nat) (R : List Value) (T : Nat) (M : List Value) : Prop where
  room : Blk X g R T
  box : Blk X w.heap.size M 28
  frm : Frm (fun k => k = g) w X
section
variable {w X X' : World} {g T : Nat} {R R' M : List Value}
theorem HX.step (h : HX w X g R T M) (hb : Below X.heap.size X X') : HX w X' g R T M := ⟨h.room.below hb, h.box.below hb, h.frm.trans (.of_below hb)⟩
theorem HX.set (h : HX w X g R T M) (hg : g < w.heap.size) (i : Nat) (x : Value) : HX w (X.setCell ⟨g, i, none⟩ x) g (R.set i x) T M := ⟨h.room.set i _, h.box.other i _ (by omega), h.frm.one rfl i _⟩
theorem HX.next (h : HX w X g R T M) (hg : g < w.heap.size) (hf : Frm (fun k => k = g) X X') (hr : Blk X' g R' T) : HX w X' g R' T M := ⟨hr, h.box.frm hf (by omega), h.frm.trans hf⟩
theorem HX.new' (w : World) (g : Nat) (R : List Value) (T i : Nat) (x : Value) (M : List Value) (hB : Blk w g R T) :
    HX w ((w.setCell ⟨g, i, none⟩ x).alloc (.cells M.toArray 28)) g (R.set i x) T M := by
  refine ⟨(hB.set i _).below ((Below.refl _ _).alloc (Nat.le_refl _) _), ?_, ((Frm.refl (fun k => k = g) w).one rfl i x).alloc _⟩
  have := Blk.new (w.setCell ⟨g, i, none⟩ x) M 28
  simpa [World.setCell] using this
theorem HX.new (w : World) (g : Nat) (R : List Value) (T : Nat) (M : List Value) (hB : Blk w g R T) : HX w (w.alloc (.cells M.toArray 28)) g R T M :=
  ⟨hB.below ((Below.refl _ _).alloc (Nat.le_refl _) _), Blk.new _ _ _, (Frm.refl _ _).alloc _⟩
end
def TinyP (g : Nat) (w : World) (m : Matcher) (d : Nat) (e : Ending) (w' : World) : Prop :=
  ∃ (r : Bool) (n' : Nat), e = .returned (.bool r) ∧ Frm (fun k => k = g) w w' ∧ Blk w' g [.int .i64 n'] 3 ∧ (r = true → n' ≤ 200 ∧ mFits m d = true)
theorem TinyP.no {g : Nat} {w w' : World} {m : Matcher} {d : Nat} {n' : Nat} (hf : Frm (fun k => k = g) w w') (hB : Blk w' g [.int .i64 n'] 3) : TinyP g w m d (.returned (.bool false)) w' := ⟨false, n', rfl, hf, hB, fun h => by cases h⟩
def TinyC (N : Nat) : Prop := ∀ (m : Matcher) (d n g : Nat) (ok : Nat → Prop) (vs : List Value) (w : World), mNodes m ≤ N → d ≤ 12 → n ≤ 200 → Blk w g [.int .i64 n] 3 → (∀ k, ok k → k < w.heap.size ∧ k ≠ g) → MRep ok w vs m →
  Calls Tryz.prog 35 #[.agg vs.toArray, .pointer (some ⟨g, 0, none⟩), .int .i64 d] w (TinyP g w m d)

set_option maxHeartbeats 8000000 in
theorem C_tiny : ∀ N, TinyC N := by
  intro N
  induction N with
  | zero => intro m d n g ok vs w hN; have := mNodes_pos m; omega
  | succ N ih =>
    intro m d n g ok vs w hN hd hn hroom hok hM
    obtain ⟨A1, c1, A2, c2, rfl, hop, hnm, hva, hvs, hks, _, _⟩ := MRep.open_ hM
    obtain ⟨op, name, value, values, kids⟩ := m
    simp only [Matcher.op, Matcher.name, Matcher.value, Matcher.values, Matcher.kids] at hop hnm hva hvs hks ⊢
    have hg := hroom.lt
    have hne : g ≠ w.heap.size := by omega
    have hne' : w.heap.size ≠ g := by omega
    have x0 := hroom.c 0 rfl
    have f0 := hroom.f 0
    have hkl := hks.1
    have hvl := hvs.1
    have hNK : mNodesL kids ≤ N := by unfold mNodes at hN; omega
    have HKS := Lib.hid hks
    have HVS := Lib.hid hvs
    have HOK := Lib.hid hok
    have HIH := Lib.hid ih
    have hI0 := HX.new' w g [.int .i64 n] 3 0 (.int .i64 ((n : Int) + 1)) (mL op name value A1 values.length c1 A2 kids.length c2) hroom
    have hF : ∀ h : d ≤ 11, mFitsL kids (d + 1) = true → mFits (.mk op name value values kids) d = true := fun h1 h2 => by unfold mFits; rw [h2]; simp; omega
    have HF := Lib.hid hF
    clear hM hks hvs hok ih hF
    have ec : ((n + 1 : Nat) : Int) = (n : Int) + 1 := by omega
    go_enter Tryz.func35, Tryz.ntmps35
    go_wp2_with fail
    all_goals first
      | (go_ret; exact .no (n' := n + 1) hI0.frm hI0.room)
      | skip
    obtain ⟨Z, hZ⟩ : ∃ Z, Z = (w.setCell ⟨g, 0, none⟩ (.int .i64 ((n : Int) + 1))).alloc (.cells (mL op name value A1 values.length c1 A2 kids.length c2).toArray 28) := ⟨_, rfl⟩
    have hI : HX w Z g [.int .i64 ((n : Int) + 1)] 3 (mL op name value A1 values.length c1 A2 kids.length c2) := hZ ▸ hI0
    have hn1 : n + 1 ≤ 200 := by omega
    have hd1 : d ≤ 11 := by omega
    have hkv : values.length ≤ 40 := by omega
    show Code.wp _ _ _ _ ((w.setCell ⟨g, 0, none⟩ (.int .i64 ((n : Int) + 1))).alloc (.cells (mL op name value A1 values.length c1 A2 kids.length c2).toArray 28))
    rw [← hZ]
    clear hZ hI0 x0 f0 hroom ec
    have y3 := hI.box.c 3 rfl
    have y4 := hI.box.c 4 rfl
    go_loop [7] (fun i => ∃ k : Nat, k ≤ values.length ∧ i = .int .i64 k) (fun i => values.length - (intOf i).toNat)
    case atStart => exact ⟨0, Nat.zero_le _, rfl⟩
    case round =>
      obtain ⟨k, hk, rfl⟩ := hrel
      by_cases hlt : k < values.length
      · have hvsl := HVS.out.keep (hI.frm.keeps (fun k _ h => (HOK.out k h).2))
        obtain ⟨bv, ov, rfl, _, _, hcv, _⟩ := hvsl.str hlt
        clear hvsl
        generalize values[k] = vk at *
        go_wp2
        · go_ret
          exact .no (n' := n + 1) hI.frm hI.room
        · go_round
          case rel => exact ⟨k + 1, by omega, by go_num⟩
          case measure => simp [intOf]; omega
      · have hkk : k = values.length := by omega
        clear hlt
        subst hkk
        go_wp2_with fail
        have hI' : HX w Z g [.int .i64 ((n + 1 : Nat) : Int)] 3 (mL op name value A1 values.length c1 A2 kids.length c2) := hI
        clear y3 y4 hI hk
        have hsd : IntKind.i64.wrap ((d : Int) + 1) = (d : Int) + 1 := IntWalk.i64_in _ (by omega)
        go_loopw [8] (fun i wr => ∃ (k n' : Nat), k ≤ kids.length ∧ i = .int .i64 k ∧ HX w wr g [.int .i64 n'] 3 (mL op name value A1 values.length c1 A2 kids.length c2) ∧ n' ≤ 200 ∧ mFitsL (kids.take k) (d + 1) = true) (fun i _ => kids.length - (intOf i).toNat)
        case atStart => exact ⟨0, n + 1, Nat.zero_le _, rfl, hI', hn1, by simp [mFitsL]⟩
        case round =>
          obtain ⟨k, n', hk, rfl, hI, hn2, hfl⟩ := hrel
          clear hI' hn1
          have y4 := hI.box.c 4 rfl
          by_cases hlt : k < kids.length
          · have hksl := HKS.out.keep (hI.frm.keeps (fun k _ h => (HOK.out k h).2))
            obtain ⟨bk, ok_, A3, c3, A4, c4, rfl, _, _, z0, z1, z2, z3, z4, hmr⟩ := hksl.matcher hlt
            have e1 := mFitsL_snoc (d := d + 1) hlt
            have hkN : mNodes kids[k] ≤ N := Nat.le_trans (mNodes_kid hlt) hNK
            rw [hfl] at e1
            have HE1 := Lib.hid e1
            have hwsz := hI.frm.size
            clear e1 hksl hfl
            generalize kids[k] = kid at *
            go_wp2_with fail
            have hcall := HIH.out kid (d + 1) n' g ok _ _ hkN (by omega) hn2 hI.room (fun k h => ⟨by have := (HOK.out k h).1; omega, (HOK.out k h).2⟩) hmr
            clear z0 z1 z2 z3 z4 y4
            refine hcall.mono ?_
            rintro e w3 ⟨r', n3, rfl, hf3, hB3, hr3⟩
            clear hcall
            have hI3 := hI.next hg hf3 hB3
            clear hI hmr
            cases r'
            · clear hr3
              go_wp2
              go_ret
              exact .no hI3.frm hI3.room
            · obtain ⟨g1, g2⟩ := hr3 rfl
              have HG2 := Lib.hid g2
              clear hr3 g2
              go_wp2
              go_roundw
              case rel => exact ⟨k + 1, n3, by omega, by go_num, hI3, g1, by rw [HE1.out, HG2.out]; rfl⟩
              case measure => simp [intOf]; omega
          · have hkk : k = kids.length := by omega
            rw [hkk, List.take_length] at hfl
            have hfin := HF.out hd1 hfl
            have HFI := Lib.hid hfin
            clear hkk hfl hfin
            go_wp2
            go_ret
            exact ⟨true, n', rfl, hI.frm, hI.room, fun _ => ⟨hn2, HFI.out⟩⟩

theorem C_Tiny (ok : Nat → Prop) (m : Matcher) (vs : List Value) (w : World) (hok : ∀ k, ok k → k < w.heap.size) (hM : MRep ok w vs m) :
    Calls Tryz.prog 12 #[.agg vs.toArray] w fun e w' => ∃ r : Bool, e = .returned (.bool r) ∧ Below w.heap.size w w' ∧ (r = true → mFits m 0 = true) := by
  have hM0 := hM
  obtain ⟨A1, c1, A2, c2, rfl, _⟩ := MRep.open_ hM
  go_enter Tryz.func12, Tryz.ntmps12
  go_wp2_with fail
  have hB := Blk.new (w.alloc (.cells (mL m.op m.name m.value A1 m.values.length c1 A2 m.kids.length c2).toArray 28)) [.int .i64 0] 3
  have hs : (w.alloc (.cells (mL m.op m.name m.value A1 m.values.length c1 A2 m.kids.length c2).toArray 28)).heap.size = w.heap.size + 1 := by simp
  rw [hs] at hB
  have hb : Below w.heap.size w ((w.alloc (.cells (mL m.op m.name m.value A1 m.values.length c1 A2 m.kids.length c2).toArray 28)).alloc (.cells [.int .i64 0].toArray 3)) := ((Below.refl _ _).alloc (Nat.le_refl _) _).alloc (by omega) _
  have hm1 := hM0.keep (Keeps.of_below hb)
  refine (C_tiny _ m 0 0 (w.heap.size + 1) ok _ _ (Nat.le_refl _) (by omega) (by omega) hB (fun k h => ⟨Nat.lt_of_lt_of_le (hok k h) hb.size, by have := hok k h; omega⟩) hm1).mono ?_
  rintro e w1 ⟨r, n', rfl, hf, _, hr⟩
  have hfin := hf.to_below hb (fun k _ e => by omega)
  have HR := Lib.hid hr
  clear hr
  go_wp2
  go_ret
  exact ⟨r, rfl, hfin, fun h => (HR.out h).2⟩
end Go.Proofs.YtbefkiebdokbdaaGreat.V
end

section
/- The reference's matcher: values, bare, text. -/
namespace Go.Proofs.YtbefkiebdokbdaaGreat.V
open Go.RowKit
set_option linter.unusedVariables false
set_option maxRecDepth 100000

set_option maxHeartbeats 2000000 in
theorem C_ref_values (ok : Nat → Prop) (A : Option Addr) (cap : Nat) (xs : List ByteArray) (w : World) (hr : Sl ok w A xs) :
    Calls Tryz.prog 90 #[.slice A xs.length cap] w fun e w' => e = .returned (.bool (valsB xs)) ∧ Below w.heap.size w w' := by
  have hlen := hr.1
  by_cases h0 : xs.length < 1 ∨ 16 < xs.length
  · have hv : valsB xs = false := by unfold valsB; simp; omega
    have HV := Lib.hid hv
    clear hv
    go_enter Tryz.func90, Tryz.ntmps90
    rcases h0 with h0 | h0
    all_goals
      first | (have t0 : decide ((xs.length : Int) < 1) = true := by rw [decide_eq_true_iff]; omega) | (have t0 : decide ((xs.length : Int) < 1) = false := by rw [decide_eq_false_iff_not]; omega)
      go_wp2
      all_goals
        go_ret
        exact ⟨ret_b HV.out.symm, Below.refl _ _⟩
  have NO : ∀ k, k < xs.length → valB xs k = false → valsB xs = false := fun k hk h => by unfold valsB; rw [all_lt_no hk h]; simp
  have YES : (∀ k, k < xs.length → valB xs k = true) → valsB xs = true := fun h => by unfold valsB; rw [all_lt_yes h]; simp; omega
  have HNO := Lib.hid NO
  have HYES := Lib.hid YES
  clear NO YES
  generalize valsB xs = res at *
  have g1 : decide ((xs.length : Int) < 1) = false := by simp; omega
  have g2 : decide ((16 : Int) < (xs.length : Int)) = false := by simp; omega
  go_enter Tryz.func90, Tryz.ntmps90
  go_wp2_with fail
  go_loopw [3] (fun i wr => ∃ k : Nat, k ≤ xs.length ∧ i = .int .i64 k ∧ (∀ j, j < k → valB xs j = true) ∧ Below w.heap.size w wr) (fun i _ => xs.length - (intOf i).toNat)
  case atStart => exact ⟨0, Nat.zero_le _, rfl, fun j hj => by omega, Below.refl _ _⟩
  case round =>
    obtain ⟨k, hk, rfl, hpre, hbl⟩ := hrel
    have HP := Lib.hid hpre
    clear hpre
    by_cases hlt : k < xs.length
    · have hsl := hr.below hbl
      obtain ⟨b, off, rfl, hob, hlb, hc, hso⟩ := hsl.str hlt
      have hd : xs.getD k ⟨#[]⟩ = xs[k] := by simp [List.getD, hlt]
      have hvk : valB xs k = (decide (xs[k].size ≤ 64) && (k == 0 || !strLe xs[k] (xs.getD (k - 1) ⟨#[]⟩))) := by unfold valB; rw [hd]
      have HVK := Lib.hid hvk
      clear hvk hd
      have i1 : (0 : Int) ≤ (k : Int) := by omega
      have i2 : (k : Int) < (xs.length : Int) := by omega
      have hbd : ∀ n, Below w.heap.size w (wr.drewN n) := fun n => bdn hbl n
      have HBD := Lib.hid hbd
      clear hbd
      have hE : ∀ h : valB xs k = true, ∀ j, j < k + 1 → valB xs j = true := fun h j hj => by
        by_cases e : j = k
        · rw [e]; exact h
        · exact HP.out j (by omega)
      have HE := Lib.hid hE
      clear hE
      generalize xs[k] = x at *
      by_cases h3 : 64 < x.size
      · have HF := Lib.hid (HNO.out k hlt (by rw [HVK.out]; simp; omega))
        have hd1 : decide ((64 : Int) < (x.size : Int)) = true := by simp; omega
        clear HNO HYES HP HVK hbl hsl
        go_wp2_with fail
        go_quiet (fail)
        go_wp2
        go_ret
        exact ⟨ret_b HF.out.symm, HBD.out _⟩
      · have hd1 : decide ((64 : Int) < (x.size : Int)) = false := by simp; omega
        by_cases h4 : k = 0
        · have HS := Lib.hid (show valB xs k = true by rw [HVK.out, h4]; simp; omega)
          have HSE := Lib.hid (HE.out HS.out)
          have hd3 : decide ((0 : Int) < (k : Int)) = false := by simp; omega
          have hd4 : decide (0 < k) = false := by simp; omega
          clear HNO HVK HE HS h4
          go_wp2_with fail
          go_quiet (fail)
          go_wp2
          go_roundw
          case rel => exact ⟨k + 1, by omega, by go_num, HSE.out, HBD.out _⟩
          case measure => simp [intOf]; omega
        · obtain ⟨b', off', e', _, _, hc', _⟩ := hsl.str (k := k - 1) (by omega)
          cases e'
          have hd' : xs.getD (k - 1) ⟨#[]⟩ = xs[k - 1] := by simp [List.getD, (show k - 1 < xs.length by omega)]
          rw [hd'] at HVK
          have hd3 : decide ((0 : Int) < (k : Int)) = true := by simp; omega
          have hd4 : decide (0 < k) = true := by simp; omega
          have hs : IntKind.i64.wrap ((k : Int) - 1) = (k : Int) - 1 := IntWalk.i64_in _ (by omega)
          have hs1 : (0 : Int) ≤ (k : Int) - 1 := by omega
          have hs2 : ((k : Int) - 1).toNat = k - 1 := by omega
          have hs3 : (k : Int) - 1 < (xs.length : Int) := by omega
          have hk0 : (k == 0) = false := by simp; omega
          clear hd' hsl
          generalize xs[k - 1] = pn at *
          cases hLe : strLe x pn
          · have HS := Lib.hid (show valB xs k = true by rw [HVK.out, hk0, hLe]; simp; omega)
            have HSE := Lib.hid (HE.out HS.out)
            clear HNO HVK hk0 HE HS h4
            unfold strLe at hLe
            rw [Bool.or_eq_false_iff] at hLe
            obtain ⟨hl1, hl2⟩ := hLe
            go_wp2_with fail
            go_quiet (fail)
            clear hs hs1 hs2 hs3
            go_wp2
            go_roundw
            case rel => exact ⟨k + 1, by omega, by go_num, HSE.out, HBD.out _⟩
            case measure => simp [intOf]; omega
          · have HF := Lib.hid (HNO.out k hlt (by rw [HVK.out, hk0, hLe]; simp))
            clear HNO HYES HP HVK hk0 HE h4
            unfold strLe at hLe
            rw [Bool.or_eq_true] at hLe
            rcases hLe with hLe | hLe
            · go_wp2_with fail
              go_quiet (fail)
              go_wp2
              go_ret
              exact ⟨ret_b HF.out.symm, HBD.out _⟩
            · go_wp2_with fail
              go_quiet (fail)
              go_wp2
              go_ret
              exact ⟨ret_b HF.out.symm, HBD.out _⟩
    · have hkk : k = xs.length := by omega
      have HR := Lib.hid (HYES.out (fun j hj => HP.out j (by omega)))
      clear HNO HYES HP
      go_wp2
      go_ret
      exact ⟨ret_b HR.out.symm, hbl⟩

/-- Has a matcher nothing but what is said? -/
def bareB (one many kd : Bool) (nE vE : Bool) (n1 n2 : Int) : Bool := (one || vE) && ((one || many || nE) && ((many || decide (n1 = 0)) && (kd || (n2 == 0))))
set_option maxHeartbeats 2000000 in
theorem C_ref_bare (one many kd : Bool) (op : Int) (name value : ByteArray) (A1 : Option Addr) (n1 c1 : Nat) (A2 : Option Addr) (n2 c2 : Nat) (w : World) :
    Calls Tryz.prog 88 #[.agg (mL op name value A1 n1 c1 A2 n2 c2).toArray, .bool one, .bool many, .bool kd] w fun e w' => e = .returned (.bool (bareB one many kd name.toList.isEmpty value.toList.isEmpty n1 n2)) ∧ Below w.heap.size w w' := by
  cases one <;> cases many <;> cases kd
  all_goals
    go_enter Tryz.func88, Tryz.ntmps88
    go_wp2
    all_goals
      go_ret
      refine ⟨ret_b ?_, (Below.refl _ _).alloc (Nat.le_refl _) _⟩
      simp only [bareB, *, Bool.true_or, Bool.or_true, Bool.false_or, Bool.or_false, Bool.true_and, Bool.and_true, Bool.false_and, Bool.and_false, decide_true, decide_false, beq_self_eq_true]

/-- What the reference's looker keeps: how many, how many bytes, whether something is wrong. -/
@[reducible] def szL (n b : Int) (bad : Bool) : List Value := [.int .i64 n, .int .i64 b, .bool bad]
def fits (b : Nat) (t : ByteArray) : Bool := decide ((t.size : Int) ≤ 4096 - (b : Int))
def TextP (g : Nat) (w : World) (L : List Value) (e : Ending) (w' : World) : Prop := (∃ v, e = .returned v) ∧ Frm (fun k => k = g) w w' ∧ Blk w' g L 97
theorem C_ref_text (g : Nat) (n : Int) (b : Nat) (bad : Bool) (t : ByteArray) (w : World) (hB : Blk w g (szL n b bad) 97) (hb : b ≤ 4096) (ht : StrOk t) :
    Calls Tryz.prog 89 #[.pointer (some ⟨g, 0, none⟩), .string t] w (TextP g w (szL n ((if fits b t then b + t.size else b : Nat) : Int) (bad || !fits b t))) := by
  have x0 := hB.c 0 rfl
  have x1 := hB.c 1 rfl
  have x2 := hB.c 2 rfl
  have f1 := hB.f 1
  have f2 := hB.f 2
  unfold StrOk at ht
  by_cases hf : (t.size : Int) ≤ 4096 - (b : Int)
  · have hF : fits b t = true := by unfold fits; simpa using hf
    have e1 : ((b + t.size : Nat) : Int) = (b : Int) + (t.size : Int) := by omega
    have hB2 := hB.set 1 (.int .i64 ((b : Int) + (t.size : Int)))
    have hfr := (Frm.refl (fun k => k = g) w).one rfl 1 (.int .i64 ((b : Int) + (t.size : Int)))
    have hpost : Blk (w.setCell ⟨g, 1, none⟩ (.int .i64 ((b : Int) + (t.size : Int)))) g (szL n ((if fits b t then b + t.size else b : Nat) : Int) (bad || !fits b t)) 97 := by
      rw [hF, if_pos rfl, e1]; simpa using hB2
    have hd : decide (4096 - (b : Int) < (t.size : Int)) = false := by rw [decide_eq_false_iff_not]; omega
    generalize szL n ((if fits b t then b + t.size else b : Nat) : Int) (bad || !fits b t) = L at *
    clear hF e1 hB2
    go_enter Tryz.func89, Tryz.ntmps89
    go_wp2
    first | (refine bodyPost_ret (results_none rfl _ _ _) rfl ?_; exact ⟨⟨_, rfl⟩, hfr, hpost⟩) | (go_end0; exact ⟨⟨_, rfl⟩, hfr, hpost⟩)
  · have hF : fits b t = false := by unfold fits; simpa using hf
    have hB2 := hB.set 2 (.bool true)
    have hfr := (Frm.refl (fun k => k = g) w).one rfl 2 (.bool true)
    have hpost : Blk (w.setCell ⟨g, 2, none⟩ (.bool true)) g (szL n ((if fits b t then b + t.size else b : Nat) : Int) (bad || !fits b t)) 97 := by
      rw [hF, if_neg (by simp)]; simpa using hB2
    have hd : decide (4096 - (b : Int) < (t.size : Int)) = true := by rw [decide_eq_true_iff]; omega
    generalize szL n ((if fits b t then b + t.size else b : Nat) : Int) (bad || !fits b t) = L at *
    clear hF hB2
    go_enter Tryz.func89, Tryz.ntmps89
    go_wp2
    first | (refine bodyPost_ret (results_none rfl _ _ _) rfl ?_; exact ⟨⟨_, rfl⟩, hfr, hpost⟩) | (go_end0; exact ⟨⟨_, rfl⟩, hfr, hpost⟩)
end Go.Proofs.YtbefkiebdokbdaaGreat.V
end

section
/- The reference's looker at a matcher: plain laws. -/
namespace Go.Proofs.YtbefkiebdokbdaaGreat.V
open Go.RowKit
set_option linter.unusedVariables false
set_option maxRecDepth 100000

/-- What the looker says of a matcher: there is room for it. -/
noncomputable def lookB (m : Matcher) (d n b : Nat) : Bool := holdsB m d (64 - n) (4096 - b)
section
variable {op : Int} {name value : ByteArray} {values : List ByteArray} {kids : List Matcher} {d n b : Nat}
theorem look_mk (hd : d ≤ 8) (hn : n + 1 ≤ 64) (hb : b ≤ 4096) : lookB (.mk op name value values kids) d n b = (aloneB op name value values kids.length && (mOkL kids (d + 1) && decide (n + 1 + mNodesL kids ≤ 64) && decide (b + (name.size + value.size + vBytes values) + mBytesL kids ≤ 4096))) := by
  unfold lookB holdsB mOk mNodes mBytes
  rw [decide_eq_true hd, Bool.true_and, Bool.and_assoc, Bool.and_assoc]
  have e1 : decide (1 + mNodesL kids ≤ 64 - n) = decide (n + 1 + mNodesL kids ≤ 64) := by rw [decide_eq_decide]; omega
  have e2 : decide (name.size + value.size + vBytes values + mBytesL kids ≤ 4096 - b) = decide (b + (name.size + value.size + vBytes values) + mBytesL kids ≤ 4096) := by rw [decide_eq_decide]; omega
  rw [e1, e2, Bool.and_assoc]
theorem look_no (h : 8 < d ∨ 64 ≤ n) : lookB (.mk op name value values kids) d n b = false := by
  unfold lookB holdsB mOk mNodes
  rcases h with h | h
  · rw [decide_eq_false (by omega)]; simp
  · rw [Bool.and_eq_false_iff, Bool.and_eq_false_iff]; refine .inl (.inr ?_); rw [decide_eq_false_iff_not]; omega
theorem nil_of {α : Type} {l : List α} (h : (l.length == 0) = true) : l = [] := List.length_eq_zero_iff.1 (by simpa using h)
theorem decide_len {α : Type} (l : List α) : decide ((l.length : Int) = 0) = (l.length == 0) := by rw [Bool.eq_iff_iff]; simp
theorem len_beq {α : Type} (l : List α) (k : Nat) : ((l.length : Int) == (k : Int)) = (l.length == k) := by rw [Bool.eq_iff_iff]; simp; omega
theorem size0 (s : ByteArray) : s.toList.isEmpty = true → s.size = 0 := isEmpty_size
/-- At the operation that means all. -/
theorem look_all (hd : d ≤ 8) (hn : n + 1 ≤ 64) (hb : b ≤ 4096) : lookB (.mk 0 name value values kids) d n b = bareB false false false name.toList.isEmpty value.toList.isEmpty values.length kids.length := by
  rw [look_mk hd hn hb]
  unfold aloneB bareB
  rw [if_pos rfl]
  have e0 : ((kids.length : Int) == 0) = (kids.length == 0) := len_beq kids 0
  rw [e0, decide_len]
  cases h1 : name.toList.isEmpty
  · simp
  · cases h2 : value.toList.isEmpty
    · simp
    · cases h3 : values.length == 0
      · simp
      · cases h4 : kids.length == 0
        · simp
        · obtain rfl := nil_of h3
          obtain rfl := nil_of h4
          have s1 := size0 _ h1
          have s2 := size0 _ h2
          rw [Bool.eq_iff_iff]
          simp only [Bool.and_eq_true, decide_eq_true_eq]
          simp [mOkL, mNodesL, mBytesL, vBytes]
          omega
/-- At an operation with a name and a value. -/
theorem look_is (hop : op = 1 ∨ op = 2 ∨ op = 3) (hd : d ≤ 8) (hn : n + 1 ≤ 64) (hb : b ≤ 4096) :
    lookB (.mk op name value values kids) d n b = (!((!bareB true false false name.toList.isEmpty value.toList.isEmpty values.length kids.length || (!tr (NameP name) || decide ((64 : Int) < value.size))) || !fits b name || !fits (if fits b name then b + name.size else b) value)) := by
  rw [look_mk hd hn hb]
  unfold aloneB bareB
  have o0 : op ≠ 0 := by omega
  rw [if_neg o0, if_pos hop]
  have e0 : ((kids.length : Int) == 0) = (kids.length == 0) := len_beq kids 0
  have e1 : decide ((64 : Int) < value.size) = !decide (value.size ≤ 64) := by rw [Bool.eq_iff_iff]; simp; omega
  rw [e0, decide_len, e1]
  cases tr (NameP name)
  · simp
  · cases decide (value.size ≤ 64)
    · simp
    · cases h3 : values.length == 0
      · simp
      · cases h4 : kids.length == 0
        · simp
        · obtain rfl := nil_of h3
          obtain rfl := nil_of h4
          rw [Bool.eq_iff_iff]
          cases hf : fits b name
          · have : ¬ ((name.size : Int) ≤ 4096 - (b : Int)) := by unfold fits at hf; simpa using hf
            simp only [Bool.and_eq_true, decide_eq_true_eq]; simp [mOkL, mNodesL, mBytesL, vBytes]; omega
          · have h5 : (name.size : Int) ≤ 4096 - (b : Int) := by unfold fits at hf; simpa using hf
            have : fits (b + name.size) value = true ↔ b + (name.size + value.size) ≤ 4096 := by unfold fits; rw [decide_eq_true_iff]; omega
            simp only [Bool.and_eq_true, decide_eq_true_eq]; simp [mOkL, mNodesL, mBytesL, vBytes, this]; omega
/-- At the operation with values: what must be ahead of them. -/
theorem look_among (hd : d ≤ 8) (hn : n + 1 ≤ 64) (hb : b ≤ 4096) :
    lookB (.mk 4 name value values kids) d n b = (!(!bareB false true false name.toList.isEmpty value.toList.isEmpty values.length kids.length || (!tr (NameP name) || !valsB values)) && decide (b + name.size + vBytes values ≤ 4096)) := by
  rw [look_mk hd hn hb]
  unfold aloneB bareB
  rw [if_neg (by omega), if_neg (by omega), if_pos rfl]
  have e0 : ((kids.length : Int) == 0) = (kids.length == 0) := len_beq kids 0
  rw [e0]
  cases h0 : tr (NameP name)
  · simp
  · cases h1 : valsB values
    · simp
    · cases h2 : value.toList.isEmpty
      · simp
      · cases h4 : kids.length == 0
        · simp
        · obtain ⟨q1, q2⟩ := valsB_ok h1
          have q3 := (tr_iff.1 h0).2.1
          have q4 := vBytes_le q2
          have q5 := size0 _ h2
          obtain rfl := nil_of h4
          rw [Bool.eq_iff_iff]
          simp only [Bool.and_eq_true, decide_eq_true_eq]
          simp [mOkL, mNodesL, mBytesL]
          omega
/-- At an operation with kids. -/
theorem look_kids (hop : op = 5 ∨ op = 6 ∨ op = 7) (hd : d ≤ 8) (hn : n + 1 ≤ 64) (hb : b ≤ 4096) :
    lookB (.mk op name value values kids) d n b = (!(!bareB false false true name.toList.isEmpty value.toList.isEmpty values.length kids.length || (op == 7 && !(kids.length == 1))) && (mOkL kids (d + 1) && decide (n + 1 + mNodesL kids ≤ 64) && decide (b + mBytesL kids ≤ 4096))) := by
  rw [look_mk hd hn hb]
  unfold aloneB bareB
  rw [if_neg (by omega), if_neg (by omega), if_neg (by omega), decide_len]
  cases h1 : name.toList.isEmpty
  · rcases hop with rfl | rfl | rfl <;> simp
  · cases h2 : value.toList.isEmpty
    · rcases hop with rfl | rfl | rfl <;> simp
    · cases h3 : values.length == 0
      · rcases hop with rfl | rfl | rfl <;> simp
      · obtain rfl := nil_of h3
        have s1 := size0 _ h1
        have s2 := size0 _ h2
        have e : b + (name.size + value.size + vBytes []) + mBytesL kids = b + mBytesL kids := by rw [s1, s2]; simp [vBytes]
        rw [Bool.eq_iff_iff]
        rcases hop with rfl | rfl | rfl <;> simp [e]
theorem look_none (ho : op < 0 ∨ 7 < op) : lookB (.mk op name value values kids) d n b = false := by
  unfold lookB holdsB mOk aloneB
  rw [if_neg (by omega), if_neg (by omega), if_neg (by omega), if_neg (by omega), if_neg (by omega)]
  simp
end
end Go.Proofs.YtbefkiebdokbdaaGreat.V
end
