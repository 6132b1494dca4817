/- Part 34 of the proof: Ref12, Ref12b, Ref12c. -/
import Derived.Test.YtbefkiebdokbdaaGreatB29
import Derived.Test.YtbefkiebdokbdaaGreatB33

section
/- The reference's matcher: values, bare, text. -/
namespace Go.Proofs.YtbefkiebdokbdaaGreat.V
open Go.RowKit
set_option linter.unusedVariables false
set_option maxRecDepth 100000

set_option maxHeartbeats 2000000 in
theorem C_ref_values (ok : Nat → Prop) (A : Option Addr) (cap : Nat) (xs : List ByteArray) (w : World) (hr : Sl ok w A xs) :
    Calls Tryz.prog 90 #[.slice A xs.length cap] w fun e w' => e = .returned (.bool (valsB xs)) ∧ Below w.heap.size w w' := by
  have hlen := hr.1
  by_cases h0 : xs.length < 1 ∨ 16 < xs.length
  · have hv : valsB xs = false := by unfold valsB; simp; omega
    have HV := Lib.hid hv
    clear hv
    go_enter Tryz.func90, Tryz.ntmps90
    rcases h0 with h0 | h0
    all_goals
      first | (have t0 : decide ((xs.length : Int) < 1) = true := by rw [decide_eq_true_iff]; omega) | (have t0 : decide ((xs.length : Int) < 1) = false := by rw [decide_eq_false_iff_not]; omega)
      go_wp2
      all_goals
        go_ret
        exact ⟨ret_b HV.out.symm, Below.refl _ _⟩
  have NO : ∀ k, k < xs.length → valB xs k = false → valsB xs = false := fun k hk h => by unfold valsB; rw [all_lt_no hk h]; simp
  have YES : (∀ k, k < xs.length → valB xs k = true) → valsB xs = true := fun h => by unfold valsB; rw [all_lt_yes h]; simp; omega
  have HNO := Lib.hid NO
  have HYES := Lib.hid YES
  clear NO YES
  generalize valsB xs = res at *
  have g1 : decide ((xs.length : Int) < 1) = false := by simp; omega
  have g2 : decide ((16 : Int) < (xs.length : Int)) = false := by simp; omega
  go_enter Tryz.func90, Tryz.ntmps90
  go_wp2_with fail
  go_loopw [3] (fun i wr => ∃ k : Nat, k ≤ xs.length ∧ i = .int .i64 k ∧ (∀ j, j < k → valB xs j = true) ∧ Below w.heap.size w wr) (fun i _ => xs.length - (intOf i).toNat)
  case atStart => exact ⟨0, Nat.zero_le _, rfl, fun j hj => by omega, Below.refl _ _⟩
  case round =>
    obtain ⟨k, hk, rfl, hpre, hbl⟩ := hrel
    have HP := Lib.hid hpre
    clear hpre
    by_cases hlt : k < xs.length
    · have hsl := hr.below hbl
      obtain ⟨b, off, rfl, hob, hlb, hc, hso⟩ := hsl.str hlt
      have hd : xs.getD k ⟨#[]⟩ = xs[k] := by simp [List.getD, hlt]
      have hvk : valB xs k = (decide (xs[k].size ≤ 64) && (k == 0 || !strLe xs[k] (xs.getD (k - 1) ⟨#[]⟩))) := by unfold valB; rw [hd]
      have HVK := Lib.hid hvk
      clear hvk hd
      have i1 : (0 : Int) ≤ (k : Int) := by omega
      have i2 : (k : Int) < (xs.length : Int) := by omega
      have hbd : ∀ n, Below w.heap.size w (wr.drewN n) := fun n => bdn hbl n
      have HBD := Lib.hid hbd
      clear hbd
      have hE : ∀ h : valB xs k = true, ∀ j, j < k + 1 → valB xs j = true := fun h j hj => by
        by_cases e : j = k
        · rw [e]; exact h
        · exact HP.out j (by omega)
      have HE := Lib.hid hE
      clear hE
      generalize xs[k] = x at *
      by_cases h3 : 64 < x.size
      · have HF := Lib.hid (HNO.out k hlt (by rw [HVK.out]; simp; omega))
        have hd1 : decide ((64 : Int) < (x.size : Int)) = true := by simp; omega
        clear HNO HYES HP HVK hbl hsl
        go_wp2_with fail
        go_quiet (fail)
        go_wp2
        go_ret
        exact ⟨ret_b HF.out.symm, HBD.out _⟩
      · have hd1 : decide ((64 : Int) < (x.size : Int)) = false := by simp; omega
        by_cases h4 : k = 0
        · have HS := Lib.hid (show valB xs k = true by rw [HVK.out, h4]; simp; omega)
          have HSE := Lib.hid (HE.out HS.out)
          have hd3 : decide ((0 : Int) < (k : Int)) = false := by simp; omega
          have hd4 : decide (0 < k) = false := by simp; omega
          clear HNO HVK HE HS h4
          go_wp2_with fail
          go_quiet (fail)
          go_wp2
          go_roundw
          case rel => exact ⟨k + 1, by omega, by go_num, HSE.out, HBD.out _⟩
          case measure => simp [intOf]; omega
        · obtain ⟨b', off', e', _, _, hc', _⟩ := hsl.str (k := k - 1) (by omega)
          cases e'
          have hd' : xs.getD (k - 1) ⟨#[]⟩ = xs[k - 1] := by simp [List.getD, (show k - 1 < xs.length by omega)]
          rw [hd'] at HVK
          have hd3 : decide ((0 : Int) < (k : Int)) = true := by simp; omega
          have hd4 : decide (0 < k) = true := by simp; omega
          have hs : IntKind.i64.wrap ((k : Int) - 1) = (k : Int) - 1 := IntWalk.i64_in _ (by omega)
          have hs1 : (0 : Int) ≤ (k : Int) - 1 := by omega
          have hs2 : ((k : Int) - 1).toNat = k - 1 := by omega
          have hs3 : (k : Int) - 1 < (xs.length : Int) := by omega
          have hk0 : (k == 0) = false := by simp; omega
          clear hd' hsl
          generalize xs[k - 1] = pn at *
          cases hLe : strLe x pn
          · have HS := Lib.hid (show valB xs k = true by rw [HVK.out, hk0, hLe]; simp; omega)
            have HSE := Lib.hid (HE.out HS.out)
            clear HNO HVK hk0 HE HS h4
            unfold strLe at hLe
            rw [Bool.or_eq_false_iff] at hLe
            obtain ⟨hl1, hl2⟩ := hLe
            go_wp2_with fail
            go_quiet (fail)
            clear hs hs1 hs2 hs3
            go_wp2
            go_roundw
            case rel => exact ⟨k + 1, by omega, by go_num, HSE.out, HBD.out _⟩
            case measure => simp [intOf]; omega
          · have HF := Lib.hid (HNO.out k hlt (by rw [HVK.out, hk0, hLe]; simp))
            clear HNO HYES HP HVK hk0 HE h4
            unfold strLe at hLe
            rw [Bool.or_eq_true] at hLe
            rcases hLe with hLe | hLe
            · go_wp2_with fail
              go_quiet (fail)
              go_wp2
              go_ret
              exact ⟨ret_b HF.out.symm, HBD.out _⟩
            · go_wp2_with fail
              go_quiet (fail)
              go_wp2
              go_ret
              exact ⟨ret_b HF.out.symm, HBD.out _⟩
    · have hkk : k = xs.length := by omega
      have HR := Lib.hid (HYES.out (fun j hj => HP.out j (by omega)))
      clear HNO HYES HP
      go_wp2
      go_ret
      exact ⟨ret_b HR.out.symm, hbl⟩

/-- Has a matcher nothing but what is said? -/
def bareB (one many kd : Bool) (nE vE : Bool) (n1 n2 : Int) : Bool := (one || vE) && ((one || many || nE) && ((many || decide (n1 = 0)) && (kd || (n2 == 0))))
set_option maxHeartbeats 2000000 in
theorem C_ref_bare (one many kd : Bool) (op : Int) (name value : ByteArray) (A1 : Option Addr) (n1 c1 : Nat) (A2 : Option Addr) (n2 c2 : Nat) (w : World) :
    Calls Tryz.prog 88 #[.agg (mL op name value A1 n1 c1 A2 n2 c2).toArray, .bool one, .bool many, .bool kd] w fun e w' => e = .returned (.bool (bareB one many kd name.toList.isEmpty value.toList.isEmpty n1 n2)) ∧ Below w.heap.size w w' := by
  cases one <;> cases many <;> cases kd
  all_goals
    go_enter Tryz.func88, Tryz.ntmps88
    go_wp2
    all_goals
      go_ret
      refine ⟨ret_b ?_, (Below.refl _ _).alloc (Nat.le_refl _) _⟩
      simp only [bareB, *, Bool.true_or, Bool.or_true, Bool.false_or, Bool.or_false, Bool.true_and, Bool.and_true, Bool.false_and, Bool.and_false, decide_true, decide_false, beq_self_eq_true]

/-- What the reference's looker keeps: how many, how many bytes, whether something is wrong. -/
@[reducible] def szL (n b : Int) (bad : Bool) : List Value := [.int .i64 n, .int .i64 b, .bool bad]
def fits (b : Nat) (t : ByteArray) : Bool := decide ((t.size : Int) ≤ 4096 - (b : Int))
def TextP (g : Nat) (w : World) (L : List Value) (e : Ending) (w' : World) : Prop := (∃ v, e = .returned v) ∧ Frm (fun k => k = g) w w' ∧ Blk w' g L 97
theorem C_ref_text (g : Nat) (n : Int) (b : Nat) (bad : Bool) (t : ByteArray) (w : World) (hB : Blk w g (szL n b bad) 97) (hb : b ≤ 4096) (ht : StrOk t) :
    Calls Tryz.prog 89 #[.pointer (some ⟨g, 0, none⟩), .string t] w (TextP g w (szL n ((if fits b t then b + t.size else b : Nat) : Int) (bad || !fits b t))) := by
  have x0 := hB.c 0 rfl
  have x1 := hB.c 1 rfl
  have x2 := hB.c 2 rfl
  have f1 := hB.f 1
  have f2 := hB.f 2
  unfold StrOk at ht
  by_cases hf : (t.size : Int) ≤ 4096 - (b : Int)
  · have hF : fits b t = true := by unfold fits; simpa using hf
    have e1 : ((b + t.size : Nat) : Int) = (b : Int) + (t.size : Int) := by omega
    have hB2 := hB.set 1 (.int .i64 ((b : Int) + (t.size : Int)))
    have hfr := (Frm.refl (fun k => k = g) w).one rfl 1 (.int .i64 ((b : Int) + (t.size : Int)))
    have hpost : Blk (w.setCell ⟨g, 1, none⟩ (.int .i64 ((b : Int) + (t.size : Int)))) g (szL n ((if fits b t then b + t.size else b : Nat) : Int) (bad || !fits b t)) 97 := by
      rw [hF, if_pos rfl, e1]; simpa using hB2
    have hd : decide (4096 - (b : Int) < (t.size : Int)) = false := by rw [decide_eq_false_iff_not]; omega
    generalize szL n ((if fits b t then b + t.size else b : Nat) : Int) (bad || !fits b t) = L at *
    clear hF e1 hB2
    go_enter Tryz.func89, Tryz.ntmps89
    go_wp2
    first | (refine bodyPost_ret (results_none rfl _ _ _) rfl ?_; exact ⟨⟨_, rfl⟩, hfr, hpost⟩) | (go_end0; exact ⟨⟨_, rfl⟩, hfr, hpost⟩)
  · have hF : fits b t = false := by unfold fits; simpa using hf
    have hB2 := hB.set 2 (.bool true)
    have hfr := (Frm.refl (fun k => k = g) w).one rfl 2 (.bool true)
    have hpost : Blk (w.setCell ⟨g, 2, none⟩ (.bool true)) g (szL n ((if fits b t then b + t.size else b : Nat) : Int) (bad || !fits b t)) 97 := by
      rw [hF, if_neg (by simp)]; simpa using hB2
    have hd : decide (4096 - (b : Int) < (t.size : Int)) = true := by rw [decide_eq_true_iff]; omega
    generalize szL n ((if fits b t then b + t.size else b : Nat) : Int) (bad || !fits b t) = L at *
    clear hF hB2
    go_enter Tryz.func89, Tryz.ntmps89
    go_wp2
    first | (refine bodyPost_ret (results_none rfl _ _ _) rfl ?_; exact ⟨⟨_, rfl⟩, hfr, hpost⟩) | (go_end0; exact ⟨⟨_, rfl⟩, hfr, hpost⟩)
end Go.Proofs.YtbefkiebdokbdaaGreat.V
end

section
/- The reference's looker at a matcher: plain laws. -/
namespace Go.Proofs.YtbefkiebdokbdaaGreat.V
open Go.RowKit
set_option linter.unusedVariables false
set_option maxRecDepth 100000

/-- What the looker says of a matcher: there is room for it. -/
noncomputable def lookB (m : Matcher) (d n b : Nat) : Bool := holdsB m d (64 - n) (4096 - b)
section
variable {op : Int} {name value : ByteArray} {values : List ByteArray} {kids : List Matcher} {d n b : Nat}
theorem look_mk (hd : d ≤ 8) (hn : n + 1 ≤ 64) (hb : b ≤ 4096) : lookB (.mk op name value values kids) d n b = (aloneB op name value values kids.length && (mOkL kids (d + 1) && decide (n + 1 + mNodesL kids ≤ 64) && decide (b + (name.size + value.size + vBytes values) + mBytesL kids ≤ 4096))) := by
  unfold lookB holdsB mOk mNodes mBytes
  rw [decide_eq_true hd, Bool.true_and, Bool.and_assoc, Bool.and_assoc]
  have e1 : decide (1 + mNodesL kids ≤ 64 - n) = decide (n + 1 + mNodesL kids ≤ 64) := by rw [decide_eq_decide]; omega
  have e2 : decide (name.size + value.size + vBytes values + mBytesL kids ≤ 4096 - b) = decide (b + (name.size + value.size + vBytes values) + mBytesL kids ≤ 4096) := by rw [decide_eq_decide]; omega
  rw [e1, e2, Bool.and_assoc]
theorem look_no (h : 8 < d ∨ 64 ≤ n) : lookB (.mk op name value values kids) d n b = false := by
  unfold lookB holdsB mOk mNodes
  rcases h with h | h
  · rw [decide_eq_false (by omega)]; simp
  · rw [Bool.and_eq_false_iff, Bool.and_eq_false_iff]; refine .inl (.inr ?_); rw [decide_eq_false_iff_not]; omega
theorem nil_of {α : Type} {l : List α} (h : (l.length == 0) = true) : l = [] := List.length_eq_zero_iff.1 (by simpa using h)
theorem decide_len {α : Type} (l : List α) : decide ((l.length : Int) = 0) = (l.length == 0) := by rw [Bool.eq_iff_iff]; simp
theorem len_beq {α : Type} (l : List α) (k : Nat) : ((l.length : Int) == (k : Int)) = (l.length == k) := by rw [Bool.eq_iff_iff]; simp; omega
theorem size0 (s : ByteArray) : s.toList.isEmpty = true → s.size = 0 := isEmpty_size
/-- At the operation that means all. -/
theorem look_all (hd : d ≤ 8) (hn : n + 1 ≤ 64) (hb : b ≤ 4096) : lookB (.mk 0 name value values kids) d n b = bareB false false false name.toList.isEmpty value.toList.isEmpty values.length kids.length := by
  rw [look_mk hd hn hb]
  unfold aloneB bareB
  rw [if_pos rfl]
  have e0 : ((kids.length : Int) == 0) = (kids.length == 0) := len_beq kids 0
  rw [e0, decide_len]
  cases h1 : name.toList.isEmpty
  · simp
  · cases h2 : value.toList.isEmpty
    · simp
    · cases h3 : values.length == 0
      · simp
      · cases h4 : kids.length == 0
        · simp
        · obtain rfl := nil_of h3
          obtain rfl := nil_of h4
          have s1 := size0 _ h1
          have s2 := size0 _ h2
          rw [Bool.eq_iff_iff]
          simp only [Bool.and_eq_true, decide_eq_true_eq]
          simp [mOkL, mNodesL, mBytesL, vBytes]
          omega
/-- At an operation with a name and a value. -/
theorem look_is (hop : op = 1 ∨ op = 2 ∨ op = 3) (hd : d ≤ 8) (hn : n + 1 ≤ 64) (hb : b ≤ 4096) :
    lookB (.mk op name value values kids) d n b = (!((!bareB true false false name.toList.isEmpty value.toList.isEmpty values.length kids.length || (!tr (NameP name) || decide ((64 : Int) < value.size))) || !fits b name || !fits (if fits b name then b + name.size else b) value)) := by
  rw [look_mk hd hn hb]
  unfold aloneB bareB
  have o0 : op ≠ 0 := by omega
  rw [if_neg o0, if_pos hop]
  have e0 : ((kids.length : Int) == 0) = (kids.length == 0) := len_beq kids 0
  have e1 : decide ((64 : Int) < value.size) = !decide (value.size ≤ 64) := by rw [Bool.eq_iff_iff]; simp; omega
  rw [e0, decide_len, e1]
  cases tr (NameP name)
  · simp
  · cases decide (value.size ≤ 64)
    · simp
    · cases h3 : values.length == 0
      · simp
      · cases h4 : kids.length == 0
        · simp
        · obtain rfl := nil_of h3
          obtain rfl := nil_of h4
          rw [Bool.eq_iff_iff]
          cases hf : fits b name
          · have : ¬ ((name.size : Int) ≤ 4096 - (b : Int)) := by unfold fits at hf; simpa using hf
            simp only [Bool.and_eq_true, decide_eq_true_eq]; simp [mOkL, mNodesL, mBytesL, vBytes]; omega
          · have h5 : (name.size : Int) ≤ 4096 - (b : Int) := by unfold fits at hf; simpa using hf
            have : fits (b + name.size) value = true ↔ b + (name.size + value.size) ≤ 4096 := by unfold fits; rw [decide_eq_true_iff]; omega
            simp only [Bool.and_eq_true, decide_eq_true_eq]; simp [mOkL, mNodesL, mBytesL, vBytes, this]; omega
/-- At the operation with values: what must be ahead of them. -/
theorem look_among (hd : d ≤ 8) (hn : n + 1 ≤ 64) (hb : b ≤ 4096) :
    lookB (.mk 4 name value values kids) d n b = (!(!bareB false true false name.toList.isEmpty value.toList.isEmpty values.length kids.length || (!tr (NameP name) || !valsB values)) && decide (b + name.size + vBytes values ≤ 4096)) := by
  rw [look_mk hd hn hb]
  unfold aloneB bareB
  rw [if_neg (by omega), if_neg (by omega), if_pos rfl]
  have e0 : ((kids.length : Int) == 0) = (kids.length == 0) := len_beq kids 0
  rw [e0]
  cases h0 : tr (NameP name)
  · simp
  · cases h1 : valsB values
    · simp
    · cases h2 : value.toList.isEmpty
      · simp
      · cases h4 : kids.length == 0
        · simp
        · obtain ⟨q1, q2⟩ := valsB_ok h1
          have q3 := (tr_iff.1 h0).2.1
          have q4 := vBytes_le q2
          have q5 := size0 _ h2
          obtain rfl := nil_of h4
          rw [Bool.eq_iff_iff]
          simp only [Bool.and_eq_true, decide_eq_true_eq]
          simp [mOkL, mNodesL, mBytesL]
          omega
/-- At an operation with kids. -/
theorem look_kids (hop : op = 5 ∨ op = 6 ∨ op = 7) (hd : d ≤ 8) (hn : n + 1 ≤ 64) (hb : b ≤ 4096) :
    lookB (.mk op name value values kids) d n b = (!(!bareB false false true name.toList.isEmpty value.toList.isEmpty values.length kids.length || (op == 7 && !(kids.length == 1))) && (mOkL kids (d + 1) && decide (n + 1 + mNodesL kids ≤ 64) && decide (b + mBytesL kids ≤ 4096))) := by
  rw [look_mk hd hn hb]
  unfold aloneB bareB
  rw [if_neg (by omega), if_neg (by omega), if_neg (by omega), decide_len]
  cases h1 : name.toList.isEmpty
  · rcases hop with rfl | rfl | rfl <;> simp
  · cases h2 : value.toList.isEmpty
    · rcases hop with rfl | rfl | rfl <;> simp
    · cases h3 : values.length == 0
      · rcases hop with rfl | rfl | rfl <;> simp
      · obtain rfl := nil_of h3
        have s1 := size0 _ h1
        have s2 := size0 _ h2
        have e : b + (name.size + value.size + vBytes []) + mBytesL kids = b + mBytesL kids := by rw [s1, s2]; simp [vBytes]
        rw [Bool.eq_iff_iff]
        rcases hop with rfl | rfl | rfl <;> simp [e]
theorem look_none (ho : op < 0 ∨ 7 < op) : lookB (.mk op name value values kids) d n b = false := by
  unfold lookB holdsB mOk aloneB
  rw [if_neg (by omega), if_neg (by omega), if_neg (by omega), if_neg (by omega), if_neg (by omega)]
  simp
end
end Go.Proofs.YtbefkiebdokbdaaGreat.V
end

section
/- The reference's looker at a matcher, Check: the walks. -/
namespace Go.Proofs.YtbefkiebdokbdaaGreat.V
open Go.RowKit
set_option linter.unusedVariables false
set_option maxRecDepth 100000

def LookP (g : Nat) (w : World) (n b nodes bytes : Int) (r : Bool) (e : Ending) (w' : World) : Prop :=
  (∃ v, e = .returned v) ∧ Frm (fun k => k = g) w w' ∧ ∃ n' b' : Int, Blk w' g (szL n' b' (!r)) 97 ∧ (r = true → n' = n + nodes ∧ b' = b + bytes)
theorem LookP.no {g : Nat} {w w' : World} {n b nodes bytes n' b' : Int} {r : Bool} {v : Value} (h : r = false) (hf : Frm (fun k => k = g) w w') (hB : Blk w' g (szL n' b' true) 97) : LookP g w n b nodes bytes r (.returned v) w' :=
  ⟨⟨_, rfl⟩, hf, n', b', by rw [h]; exact hB, fun c => by rw [h] at c; cases c⟩
theorem LookP.yes {g : Nat} {w w' : World} {n b nodes bytes n' b' : Int} {r : Bool} {v : Value} (h : r = true) (hf : Frm (fun k => k = g) w w') (hB : Blk w' g (szL n' b' false) 97) (hn : n' = n + nodes) (hb : b' = b + bytes) : LookP g w n b nodes bytes r (.returned v) w' :=
  ⟨⟨_, rfl⟩, hf, n', b', by rw [h]; exact hB, fun _ => ⟨hn, hb⟩⟩
def LookC (N : Nat) : Prop := ∀ (m : Matcher) (d n b g : Nat) (r : Bool) (ok : Nat → Prop) (vs : List Value) (w : World), mNodes m ≤ N → r = lookB m d n b → d ≤ 9 → n ≤ 64 → b ≤ 4096 → Blk w g (szL n b false) 97 → (∀ k, ok k → k < w.heap.size ∧ k ≠ g) → MRep ok w vs m →
  Calls Tryz.prog 55 #[.pointer (some ⟨g, 0, none⟩), .agg vs.toArray, .int .i64 d] w (LookP g w n b (mNodes m) (mBytes m) r)

theorem is_end {g b : Nat} {w w' : World} {n : Int} {name value : ByteArray} {m : Matcher} {bd r : Bool} {v : Value} (hr : r = !(bd || !fits b name || !fits (if fits b name then b + name.size else b) value))
    (hy : r = true → mNodes m = 1 ∧ mBytes m = name.size + value.size ∧ fits b name = true ∧ fits (if fits b name then b + name.size else b) value = true) (hf : Frm (fun k => k = g) w w')
    (hB : Blk w' g (szL (n + 1) ((if fits (if fits b name then b + name.size else b) value then (if fits b name then b + name.size else b) + value.size else (if fits b name then b + name.size else b) : Nat) : Int) ((bd || !fits b name) || !fits (if fits b name then b + name.size else b) value)) 97) :
    LookP g w n b (mNodes m) (mBytes m) r (.returned v) w' := by
  have e : ((bd || !fits b name) || !fits (if fits b name then b + name.size else b) value) = !r := by rw [hr]; simp
  rw [e] at hB
  refine ⟨⟨_, rfl⟩, hf, _, _, hB, fun h => ?_⟩
  obtain ⟨h1, h2, h3, h4⟩ := hy h
  rw [h1, h2, h4, h3]
  simp only [if_true]
  exact ⟨by omega, by omega⟩
/-- The loop over the values, at place k. -/
structure AmongI (r : Bool) (values : List ByteArray) (b ns k bk : Nat) (bad : Bool) : Prop where
  isbad : bad = true → r = false
  isgood : bad = false → bk = b + ns + vBytes (values.take k) ∧ bk ≤ 4096 ∧ r = decide (b + ns + vBytes values ≤ 4096)
theorem AmongI.le {r : Bool} {values : List ByteArray} {b ns k bk : Nat} {bad : Bool} (h : AmongI r values b ns k bk bad) (hb : bad = false) : bk ≤ 4096 := (h.isgood hb).2.1
theorem AmongI.start {r bd : Bool} {values : List ByteArray} {b : Nat} {name : ByteArray} (hr : r = (!bd && decide (b + name.size + vBytes values ≤ 4096))) :
    AmongI r values b name.size 0 (if fits b name then b + name.size else b) (bd || !fits b name) := by
  refine ⟨fun h => ?_, fun h => ?_⟩
  · rw [Bool.or_eq_true] at h
    rcases h with h | h
    · rw [hr, h]; rfl
    · have h' : fits b name = false := by simpa using h
      unfold fits at h'
      rw [decide_eq_false_iff_not] at h'
      rw [hr, Bool.and_eq_false_iff]; right; rw [decide_eq_false_iff_not]; omega
  · rw [Bool.or_eq_false_iff] at h
    obtain ⟨h1, h2⟩ := h
    have h' : fits b name = true := by simpa using h2
    rw [h', if_pos rfl]
    unfold fits at h'
    rw [decide_eq_true_iff] at h'
    refine ⟨by simp [vBytes], by omega, by rw [hr, h1]; rfl⟩
theorem AmongI.next {r : Bool} {values : List ByteArray} {b ns k bk : Nat} (h : AmongI r values b ns k bk false) (hk : k < values.length) :
    AmongI r values b ns (k + 1) (if fits bk values[k] then bk + values[k].size else bk) (false || !fits bk values[k]) := by
  obtain ⟨h1, h2, h3⟩ := h.isgood rfl
  have e := vBytes_snoc hk
  have e2 : vBytes values = vBytes (values.take (k + 1)) + vBytes (values.drop (k + 1)) := by rw [← vBytes_append, List.take_append_drop]
  refine ⟨fun hb => ?_, fun hb => ?_⟩
  · have h' : fits bk values[k] = false := by simpa using hb
    unfold fits at h'
    rw [decide_eq_false_iff_not] at h'
    rw [h3, decide_eq_false_iff_not]; omega
  · have h' : fits bk values[k] = true := by simpa using hb
    rw [h', if_pos rfl]
    unfold fits at h'
    rw [decide_eq_true_iff] at h'
    exact ⟨by omega, by omega, h3⟩
theorem AmongI.fin {r : Bool} {values : List ByteArray} {b ns k bk g : Nat} {bad : Bool} {m : Matcher} {w w' : World} {n : Int} {v : Value} (h : AmongI r values b ns k bk bad) (hy : r = true → mNodes m = 1 ∧ mBytes m = ns + vBytes values) (hk : k = values.length) (hb : bad = false)
    (hf : Frm (fun k => k = g) w w') (hB : Blk w' g (szL (n + 1) bk false) 97) : LookP g w n b (mNodes m) (mBytes m) r (.returned v) w' := by
  obtain ⟨h1, h2, h3⟩ := h.isgood hb
  rw [hk, List.take_length] at h1
  have hrt : r = true := by rw [h3, decide_eq_true_iff]; omega
  obtain ⟨h4, h5⟩ := hy hrt
  exact .yes hrt hf hB (by rw [h4]; omega) (by rw [h5]; omega)
/-- The loop over the kids, at place k. -/
structure KidsI (r : Bool) (kids : List Matcher) (d n b k : Nat) (n' b' : Int) (bad : Bool) : Prop where
  isbad : bad = true → r = false
  isgood : bad = false → n' = ((n + 1 + mNodesL (kids.take k) : Nat) : Int) ∧ b' = ((b + mBytesL (kids.take k) : Nat) : Int) ∧ n + 1 + mNodesL (kids.take k) ≤ 64 ∧ b + mBytesL (kids.take k) ≤ 4096 ∧ mOkL (kids.take k) d = true ∧ r = (mOkL kids d && decide (n + 1 + mNodesL kids ≤ 64) && decide (b + mBytesL kids ≤ 4096))
theorem KidsI.start {r bd : Bool} {kids : List Matcher} {d n b : Nat} (hr : r = (!bd && (mOkL kids d && decide (n + 1 + mNodesL kids ≤ 64) && decide (b + mBytesL kids ≤ 4096)))) (hn : n + 1 ≤ 64) (hb : b ≤ 4096) : KidsI r kids d n b 0 ((n + 1 : Nat) : Int) b bd := by
  refine ⟨fun h => by rw [hr, h]; rfl, fun h => ⟨by simp [mNodesL], by simp [mBytesL], by simp [mNodesL]; omega, by simp [mBytesL]; omega, by simp [mOkL], by rw [hr, h]; rfl⟩⟩
section
variable {r r' : Bool} {kids : List Matcher} {d n b k : Nat} {n' b' : Int}
theorem KidsI.next (h : KidsI r kids d n b k n' b' false) (hk : k < kids.length) (hr : r' = lookB kids[k] d (n + 1 + mNodesL (kids.take k)) (b + mBytesL (kids.take k))) :
    r' = true → KidsI r kids d n b (k + 1) (((n + 1 + mNodesL (kids.take k) : Nat) : Int) + mNodes kids[k]) (((b + mBytesL (kids.take k) : Nat) : Int) + mBytes kids[k]) false := fun ht => by
  obtain ⟨h1, h2, h3, h4, h5, h6⟩ := h.isgood rfl
  rw [hr] at ht
  unfold lookB holdsB at ht
  rw [Bool.and_eq_true, Bool.and_eq_true, decide_eq_true_iff, decide_eq_true_iff] at ht
  obtain ⟨⟨g0, g1⟩, g2⟩ := ht
  have e1 := mNodesL_snoc hk
  have e2 := mBytesL_snoc hk
  exact ⟨fun h => (by cases h), fun _ => ⟨by rw [e1]; omega, by rw [e2]; omega, by rw [e1]; omega, by rw [e2]; omega, by rw [mOkL_snoc hk, h5, g0]; rfl, h6⟩⟩
theorem KidsI.nextbad (h : KidsI r kids d n b k n' b' false) (hk : k < kids.length) (hr : r' = lookB kids[k] d (n + 1 + mNodesL (kids.take k)) (b + mBytesL (kids.take k))) : r' = false → r = false := fun ht => by
  obtain ⟨h1, h2, h3, h4, h5, h6⟩ := h.isgood rfl
  rw [hr] at ht
  unfold lookB holdsB at ht
  have e1 := mNodesL_split hk
  have e2 := mBytesL_split hk
  have e3 := mOkL_split (d := d) hk
  rw [h6]
  rw [Bool.and_eq_false_iff, Bool.and_eq_false_iff] at ht ⊢
  rcases ht with (ht | ht) | ht
  · exact .inl (.inl (by rw [e3, ht]; simp))
  · refine .inl (.inr ?_); rw [decide_eq_false_iff_not] at ht ⊢; omega
  · refine .inr ?_; rw [decide_eq_false_iff_not] at ht ⊢; omega
theorem KidsI.fin {g : Nat} {op : Int} {name value : ByteArray} {values : List ByteArray} {w w' : World} {v : Value} {bad : Bool} (h : KidsI r kids d n b k n' b' bad) (hy : r = true → mBytes (.mk op name value values kids) = mBytesL kids) (hk : k = kids.length) (hb : bad = false)
    (hf : Frm (fun k => k = g) w w') (hB : Blk w' g (szL n' b' false) 97) : LookP g w n b (mNodes (.mk op name value values kids)) (mBytes (.mk op name value values kids)) r (.returned v) w' := by
  obtain ⟨h1, h2, h3, h4, h5, h6⟩ := h.isgood hb
  rw [hk, List.take_length] at h1 h2 h3 h4 h5
  have hrt : r = true := by rw [h6, h5, decide_eq_true h3, decide_eq_true h4]; rfl
  exact .yes hrt hf hB (by unfold mNodes; omega) (by rw [hy hrt]; omega)
end
set_option maxHeartbeats 20000000 in
theorem C_look : ∀ N, LookC N := by
  intro N
  induction N with
  | zero => intro m d n b g r ok vs w hN; have := mNodes_pos m; omega
  | succ N ih =>
    intro m d n b g r ok vs w hN hr hd hn hb hroom hok hM
    obtain ⟨A1, c1, A2, c2, rfl, hop, hnm, hva, hvs, hks, _, _⟩ := MRep.open_ hM
    obtain ⟨op, name, value, values, kids⟩ := m
    simp only [Matcher.op, Matcher.name, Matcher.value, Matcher.values, Matcher.kids] at hop hnm hva hvs hks ⊢
    have hg := Blk.lt hroom
    have hne : g ≠ w.heap.size := by omega
    have hne' : w.heap.size ≠ g := by omega
    have x0 := hroom.c 0 rfl
    have x2 := hroom.c 2 rfl
    have f0 := hroom.f 0
    have f2 := hroom.f 2
    have hkl := hks.1
    have hvl := hvs.1
    have hNK : mNodesL kids ≤ N := by unfold mNodes at hN; omega
    have HKS := Lib.hid hks
    have HVS := Lib.hid hvs
    have HOK := Lib.hid hok
    have HIH := Lib.hid ih
    have hw1 : IntKind.i64.wrap ((n : Int) + 1) = (n : Int) + 1 := IntWalk.i64_in _ (by omega)
    have hI0 := HX.new' w g (szL n b false) 97 0 (.int .i64 ((n : Int) + 1)) (mL op name value A1 values.length c1 A2 kids.length c2) hroom
    have hfin : ((1 : Nat) : Int) = 1 := rfl
    by_cases hearly : 8 < d ∨ 64 ≤ n
    · have hrf : r = false := by rw [hr]; exact look_no hearly
      have HRF := Lib.hid hrf
      have hB1 : Blk (((w.setCell ⟨g, 0, none⟩ (.int .i64 ((n : Int) + 1))).setCell ⟨g, 2, none⟩ (.bool true)).alloc (.cells (mL op name value A1 values.length c1 A2 kids.length c2).toArray 28)) g (szL ((n : Int) + 1) b true) 97 := ((hroom.set 0 _).set 2 _).below ((Below.refl _ _).alloc (Nat.le_refl _) _)
      have hF1 : Frm (fun k => k = g) w (((w.setCell ⟨g, 0, none⟩ (.int .i64 ((n : Int) + 1))).setCell ⟨g, 2, none⟩ (.bool true)).alloc (.cells (mL op name value A1 values.length c1 A2 kids.length c2).toArray 28)) := (((Frm.refl (fun k => k = g) w).one rfl 0 _).one rfl 2 _).alloc _
      clear hM hks hvs hok ih hr hrf hfin
      rcases hearly with he | he
      · by_cases h64 : 64 ≤ n
        · have t1 : decide ((64 : Int) < (n : Int) + 1) = true := by rw [decide_eq_true_iff]; omega
          go_enter Tryz.func55, Tryz.ntmps55
          go_wp2
          refine bodyPost_ret (results_none rfl _ _ _) rfl ?_
          exact .no HRF.out hF1 hB1
        · have t1 : decide ((64 : Int) < (n : Int) + 1) = false := by rw [decide_eq_false_iff_not]; omega
          have t2 : decide ((8 : Int) < (d : Int)) = true := by rw [decide_eq_true_iff]; omega
          go_enter Tryz.func55, Tryz.ntmps55
          go_wp2
          refine bodyPost_ret (results_none rfl _ _ _) rfl ?_
          exact .no HRF.out hF1 hB1
      · have t1 : decide ((64 : Int) < (n : Int) + 1) = true := by rw [decide_eq_true_iff]; omega
        go_enter Tryz.func55, Tryz.ntmps55
        go_wp2
        refine bodyPost_ret (results_none rfl _ _ _) rfl ?_
        exact .no HRF.out hF1 hB1
    · obtain ⟨hd8, hn64⟩ : d ≤ 8 ∧ n + 1 ≤ 64 := by omega
      have t1 : decide ((64 : Int) < (n : Int) + 1) = false := by rw [decide_eq_false_iff_not]; omega
      have t2 : decide ((8 : Int) < (d : Int)) = false := by rw [decide_eq_false_iff_not]; omega
      obtain ⟨Z, hZ⟩ : ∃ Z, Z = ((w.setCell ⟨g, 0, none⟩ (.int .i64 ((n : Int) + 1))).alloc (.cells (mL op name value A1 values.length c1 A2 kids.length c2).toArray 28)) := ⟨_, rfl⟩
      have hI : HX w Z g (szL ((n : Int) + 1) b false) 97 (mL op name value A1 values.length c1 A2 kids.length c2) := hZ ▸ hI0
      clear hI0 hM hks hvs hok ih hfin
      have hcase : op = 0 ∨ (op = 1 ∨ op = 2 ∨ op = 3) ∨ op = 4 ∨ (op = 5 ∨ op = 6 ∨ op = 7) ∨ (op < 0 ∨ 7 < op) := by omega
      have hbo : (∀ {X Y : World}, True) := trivial
      rcases hcase with rfl | ho | rfl | ho | ho
      · -- all
        have hrf : r = bareB false false false name.toList.isEmpty value.toList.isEmpty values.length kids.length := by rw [hr]; exact look_all hd8 hn64 hb
        have HRF := Lib.hid hrf
        have hyes : r = true → mNodesL kids = 0 ∧ name.size = 0 ∧ value.size = 0 ∧ vBytes values = 0 ∧ mBytesL kids = 0 := fun h => by
          rw [hrf] at h
          unfold bareB at h
          simp only [Bool.false_or, Bool.and_eq_true, decide_eq_true_eq, beq_iff_eq] at h
          obtain ⟨a1, a2, a3, a4⟩ := h
          have b1 : values = [] := List.length_eq_zero_iff.1 (by omega)
          have b2 : kids = [] := List.length_eq_zero_iff.1 (by omega)
          rw [b1, b2]
          exact ⟨rfl, size0 _ a2, size0 _ a1, rfl, rfl⟩
        have HY := Lib.hid hyes
        clear hr hrf hyes
        go_enter Tryz.func55, Tryz.ntmps55
        go_wp2_with fail
        show Calls _ _ _ ((w.setCell ⟨g, 0, none⟩ (.int .i64 ((n : Int) + 1))).alloc (.cells (mL 0 name value A1 values.length c1 A2 kids.length c2).toArray 28)) _
        rw [← hZ]
        refine (C_ref_bare false false false 0 name value A1 values.length c1 A2 kids.length c2 Z).mono ?_
        rintro e w1 ⟨rfl, hb1⟩
        have hI1 := hI.step hb1
        have z2 := hI1.room.c 2 rfl
        have fz := hI1.room.f 2
        rw [← HRF.out]
        clear hI hb1 hZ x0 x2 f0 f2
        cases r
        · have hI2 := hI1.set hg 2 (.bool true)
          go_wp2
          first | (refine bodyPost_ret (results_none rfl _ _ _) rfl ?_; exact .no rfl hI2.frm hI2.room) | (go_end0; exact .no rfl hI2.frm hI2.room)
        · have hI2 := hI1.set hg 2 (.bool false)
          have hh := HY.out rfl
          have HH := Lib.hid hh
          clear hh
          go_wp2
          first | (refine bodyPost_ret (results_none rfl _ _ _) rfl ?_; exact .yes rfl hI2.frm hI2.room (by have := HH.out; unfold mNodes; omega) (by have := HH.out; unfold mBytes; omega)) | (go_end0; exact .yes rfl hI2.frm hI2.room (by have := HH.out; unfold mNodes; omega) (by have := HH.out; unfold mBytes; omega))
      · -- a name and a value
        have hrf := look_is (op := op) (name := name) (value := value) (values := values) (kids := kids) ho hd8 hn64 hb
        rw [← hr] at hrf
        have hb3 : (if fits b name then b + name.size else b) ≤ 4096 := by
          split
          · rename_i h; unfold fits at h; simp at h; omega
          · exact hb
        have hyes : r = true → mNodes (.mk op name value values kids) = 1 ∧ mBytes (.mk op name value values kids) = name.size + value.size ∧ fits b name = true ∧ fits (if fits b name then b + name.size else b) value = true := fun h => by
          rw [hrf] at h
          simp only [Bool.not_eq_true', Bool.or_eq_false_iff, Bool.not_eq_false'] at h
          obtain ⟨⟨⟨h1, _⟩, h2⟩, h3⟩ := h
          unfold bareB at h1
          simp only [Bool.true_or, Bool.true_and, Bool.false_or, Bool.and_eq_true, decide_eq_true_eq, beq_iff_eq] at h1
          have b1 : values = [] := List.length_eq_zero_iff.1 (by omega)
          have b2 : kids = [] := List.length_eq_zero_iff.1 (by omega)
          refine ⟨by rw [b2]; rfl, by rw [b1, b2]; simp [mBytes, vBytes, mBytesL], h2, h3⟩
        have HY := Lib.hid hyes
        have hname : ∀ W, Calls Tryz.prog 66 #[.string name] W fun e w' => e = .returned (.bool (tr (NameP name))) ∧ W = w' := fun W => C_ref_Name name W hnm
        have HNM := Lib.hid hname
        have HB0 : ∀ W, Calls Tryz.prog 88 #[.agg (mL op name value A1 values.length c1 A2 kids.length c2).toArray, .bool true, .bool false, .bool false] W fun e w' => e = .returned (.bool (bareB true false false name.toList.isEmpty value.toList.isEmpty values.length kids.length)) ∧ Below W.heap.size W w' := fun W => C_ref_bare true false false op name value A1 values.length c1 A2 kids.length c2 W
        have HBR := Lib.hid HB0
        clear hyes hname HB0 hr
        generalize bareB true false false name.toList.isEmpty value.toList.isEmpty values.length kids.length = bb at *
        generalize tr (NameP name) = tn at *
        have HR0 := Lib.hid hrf
        clear hrf
        rcases ho with rfl | rfl | rfl
        all_goals
          go_enter Tryz.func55, Tryz.ntmps55
          go_wp2_with fail
          rw [← hZ]
          refine (HBR.out Z).mono ?_
          rintro e w1 ⟨rfl, hb1⟩
          have hI1 := hI.step hb1
          have z2 := hI1.room.c 2 rfl
          have fz := hI1.room.f 2
          have x1 := hI1.box.c 1 rfl
          have x2 := hI1.box.c 2 rfl
          clear hI hb1 hZ x0 f0 f2
          cases bb
          · have HR : Hid (r = !(true || !fits b name || !fits (if fits b name then b + name.size else b) value)) := Lib.hid (by rw [HR0.out]; rfl)
            have hI2 := hI1.set hg 2 (.bool true)
            have y1 := hI2.box.c 1 rfl
            go_wp2_with (go_at_call 66; refine (HNM.out _).mono ?_; rintro e w' ⟨rfl, rfl⟩)
            refine (C_ref_text g _ b true name _ hI2.room hb hnm).mono ?_
            rintro e w3 ⟨⟨v3, rfl⟩, hf3, hB3⟩
            have hI3 := hI2.next hg hf3 hB3
            have y2 := hI3.box.c 2 rfl
            clear x1 x2 hf3 hB3 y1 z2 fz
            go_wp2_with fail
            refine (C_ref_text g _ (if fits b name then b + name.size else b) (true || !fits b name) value _ hI3.room hb3 hva).mono ?_
            rintro e w4 ⟨⟨v4, rfl⟩, hf4, hB4⟩
            have hI4 := hI3.next hg hf4 hB4
            clear hf4 hB4 y2
            go_wp2
            first | (refine bodyPost_ret (results_none rfl _ _ _) rfl ?_; exact is_end HR.out HY.out hI4.frm hI4.room) | (go_end0; exact is_end HR.out HY.out hI4.frm hI4.room)
          · cases tn
            · have HR : Hid (r = !(true || !fits b name || !fits (if fits b name then b + name.size else b) value)) := Lib.hid (by rw [HR0.out]; rfl)
              have hI2 := hI1.set hg 2 (.bool true)
              have y1 := hI2.box.c 1 rfl
              go_wp2_with (go_at_call 66; refine (HNM.out _).mono ?_; rintro e w' ⟨rfl, rfl⟩)
              refine (C_ref_text g _ b true name _ hI2.room hb hnm).mono ?_
              rintro e w3 ⟨⟨v3, rfl⟩, hf3, hB3⟩
              have hI3 := hI2.next hg hf3 hB3
              have y2 := hI3.box.c 2 rfl
              clear x1 x2 hf3 hB3 y1 z2 fz
              go_wp2_with fail
              refine (C_ref_text g _ (if fits b name then b + name.size else b) (true || !fits b name) value _ hI3.room hb3 hva).mono ?_
              rintro e w4 ⟨⟨v4, rfl⟩, hf4, hB4⟩
              have hI4 := hI3.next hg hf4 hB4
              clear hf4 hB4 y2
              go_wp2
              first | (refine bodyPost_ret (results_none rfl _ _ _) rfl ?_; exact is_end HR.out HY.out hI4.frm hI4.room) | (go_end0; exact is_end HR.out HY.out hI4.frm hI4.room)
            · by_cases h64 : (64 : Int) < value.size
              · have t64 : decide ((64 : Int) < value.size) = true := by rw [decide_eq_true_iff]; exact h64
                have HR : Hid (r = !(true || !fits b name || !fits (if fits b name then b + name.size else b) value)) := Lib.hid (by rw [HR0.out, t64]; rfl)
                have hI2 := hI1.set hg 2 (.bool true)
                have y1 := hI2.box.c 1 rfl
                go_wp2_with (go_at_call 66; refine (HNM.out _).mono ?_; rintro e w' ⟨rfl, rfl⟩)
                refine (C_ref_text g _ b true name _ hI2.room hb hnm).mono ?_
                rintro e w3 ⟨⟨v3, rfl⟩, hf3, hB3⟩
                have hI3 := hI2.next hg hf3 hB3
                have y2 := hI3.box.c 2 rfl
                clear x1 x2 hf3 hB3 y1 z2 fz
                go_wp2_with fail
                refine (C_ref_text g _ (if fits b name then b + name.size else b) (true || !fits b name) value _ hI3.room hb3 hva).mono ?_
                rintro e w4 ⟨⟨v4, rfl⟩, hf4, hB4⟩
                have hI4 := hI3.next hg hf4 hB4
                clear hf4 hB4 y2
                go_wp2
                first | (refine bodyPost_ret (results_none rfl _ _ _) rfl ?_; exact is_end HR.out HY.out hI4.frm hI4.room) | (go_end0; exact is_end HR.out HY.out hI4.frm hI4.room)
              · have t64 : decide ((64 : Int) < value.size) = false := by rw [decide_eq_false_iff_not]; exact h64
                have HR : Hid (r = !(false || !fits b name || !fits (if fits b name then b + name.size else b) value)) := Lib.hid (by rw [HR0.out, t64]; rfl)
                have hI2 := hI1.set hg 2 (.bool false)
                have y1 := hI2.box.c 1 rfl
                go_wp2_with (go_at_call 66; refine (HNM.out _).mono ?_; rintro e w' ⟨rfl, rfl⟩)
                refine (C_ref_text g _ b false name _ hI2.room hb hnm).mono ?_
                rintro e w3 ⟨⟨v3, rfl⟩, hf3, hB3⟩
                have hI3 := hI2.next hg hf3 hB3
                have y2 := hI3.box.c 2 rfl
                clear x1 x2 hf3 hB3 y1 z2 fz
                go_wp2_with fail
                refine (C_ref_text g _ (if fits b name then b + name.size else b) (false || !fits b name) value _ hI3.room hb3 hva).mono ?_
                rintro e w4 ⟨⟨v4, rfl⟩, hf4, hB4⟩
                have hI4 := hI3.next hg hf4 hB4
                clear hf4 hB4 y2
                go_wp2
                first | (refine bodyPost_ret (results_none rfl _ _ _) rfl ?_; exact is_end HR.out HY.out hI4.frm hI4.room) | (go_end0; exact is_end HR.out HY.out hI4.frm hI4.room)
      · -- values
        have hrf := look_among (name := name) (value := value) (values := values) (kids := kids) hd8 hn64 hb
        rw [← hr] at hrf
        have hyes : r = true → mNodes (.mk 4 name value values kids) = 1 ∧ mBytes (.mk 4 name value values kids) = name.size + vBytes values := fun h => by
          rw [hrf] at h
          simp only [Bool.and_eq_true, Bool.not_eq_true', Bool.or_eq_false_iff, Bool.not_eq_false'] at h
          obtain ⟨⟨h1, _⟩, _⟩ := h
          unfold bareB at h1
          simp only [Bool.false_or, Bool.true_or, Bool.true_and, Bool.or_true, Bool.and_eq_true, beq_iff_eq] at h1
          have b2 : kids = [] := List.length_eq_zero_iff.1 (by omega)
          have b3 := size0 _ h1.1
          refine ⟨by rw [b2]; rfl, by rw [b2]; simp [mBytes, mBytesL, b3]⟩
        have HRT := Lib.hid hyes
        have hname : ∀ W, Calls Tryz.prog 66 #[.string name] W fun e w' => e = .returned (.bool (tr (NameP name))) ∧ W = w' := fun W => C_ref_Name name W hnm
        have HNM := Lib.hid hname
        have hvalc : ∀ W, Sl ok W A1 values → Calls Tryz.prog 90 #[.slice A1 values.length c1] W fun e w' => e = .returned (.bool (valsB values)) ∧ Below W.heap.size W w' := fun W h => C_ref_values ok A1 c1 values W h
        have HVC := Lib.hid hvalc
        have HB0 : ∀ W, Calls Tryz.prog 88 #[.agg (mL 4 name value A1 values.length c1 A2 kids.length c2).toArray, .bool false, .bool true, .bool false] W fun e w' => e = .returned (.bool (bareB false true false name.toList.isEmpty value.toList.isEmpty values.length kids.length)) ∧ Below W.heap.size W w' := fun W => C_ref_bare false true false 4 name value A1 values.length c1 A2 kids.length c2 W
        have HBR := Lib.hid HB0
        clear hyes hname HB0 hr hvalc
        generalize bareB false true false name.toList.isEmpty value.toList.isEmpty values.length kids.length = bb at *
        generalize tr (NameP name) = tn at *
        generalize valsB values = vv at *
        have HR0 := Lib.hid hrf
        clear hrf
        go_enter Tryz.func55, Tryz.ntmps55
        go_wp2_with fail
        rw [← hZ]
        refine (HBR.out Z).mono ?_
        rintro e w1 ⟨rfl, hb1⟩
        have hI1 := hI.step hb1
        have hvs1 := HVS.out.keep (hI1.frm.keeps (fun k _ h => (HOK.out k h).2))
        have HV1 := Lib.hid hvs1
        have z2 := hI1.room.c 2 rfl
        have fz := hI1.room.f 2
        have x1 := hI1.box.c 1 rfl
        have x3 := hI1.box.c 3 rfl
        clear hI hb1 hZ x0 f0 f2 hvs1
        cases bb
        · have HR : Hid (r = (!true && decide (b + name.size + vBytes values ≤ 4096))) := Lib.hid (by rw [HR0.out]; rfl)
          have hI2 := hI1.set hg 2 (.bool true)
          have y1 := hI2.box.c 1 rfl
          go_wp2_with (first | (go_at_call 66; refine (HNM.out _).mono ?_; rintro e w' ⟨rfl, rfl⟩))
          refine (C_ref_text g _ b true name _ hI2.room hb hnm).mono ?_
          rintro e w3 ⟨⟨v3, rfl⟩, hf3, hB3⟩
          have hI3 := hI2.next hg hf3 hB3
          clear x1 x3 hf3 hB3 y1 z2 fz
          go_wp2_with fail
          go_loopw [6] (fun i wr => ∃ (k bk : Nat) (bad : Bool), k ≤ values.length ∧ i = .int .i64 k ∧ HX w wr g (szL ((n : Int) + 1) bk bad) 97 (mL 4 name value A1 values.length c1 A2 kids.length c2) ∧ AmongI r values b name.size k bk bad) (fun i _ => values.length - (intOf i).toNat)
          case atStart => exact ⟨0, _, _, Nat.zero_le _, rfl, hI3, AmongI.start HR.out⟩
          case round =>
            obtain ⟨k, bk, bad, hk, rfl, hI, hA⟩ := hrel
            clear hI3
            have u3 := hI.box.c 3 rfl
            have u2 := hI.room.c 2 rfl
            cases bad
            · by_cases hlt : k < values.length
              · have hvsl := HVS.out.keep (hI.frm.keeps (fun k _ h => (HOK.out k h).2))
                obtain ⟨bv, ov, rfl, _, _, hcv, hso⟩ := hvsl.str hlt
                have hbk := hA.le rfl
                have hnx := hA.next hlt
                have HNX := Lib.hid hnx
                clear hvsl hnx hA
                generalize values[k] = vk at *
                go_wp2_with fail
                refine (C_ref_text g _ bk false vk _ hI.room hbk hso).mono ?_
                rintro e w5 ⟨⟨v5, rfl⟩, hf5, hB5⟩
                have hI5 := hI.next hg hf5 hB5
                clear hI hf5 hB5 u3 u2
                go_wp2
                go_roundw
                case rel => exact ⟨k + 1, _, _, by omega, by go_num, hI5, HNX.out⟩
                case measure => simp [intOf]; omega
              · have hkk : k = values.length := by omega
                have HKK := Lib.hid hkk
                have HAI := Lib.hid hA
                clear hkk hA
                go_wp2
                first | (refine bodyPost_ret (results_none rfl _ _ _) rfl ?_; exact AmongI.fin HAI.out HRT.out HKK.out rfl hI.frm hI.room) | (go_end0; exact AmongI.fin HAI.out HRT.out HKK.out rfl hI.frm hI.room)
            · have hrf := hA.isbad rfl
              have HRF := Lib.hid hrf
              clear hrf hA
              by_cases hlt : k < values.length
              · go_wp2
                first | (refine bodyPost_ret (results_none rfl _ _ _) rfl ?_; exact .no HRF.out hI.frm hI.room) | (go_end0; exact .no HRF.out hI.frm hI.room)
              · go_wp2
                first | (refine bodyPost_ret (results_none rfl _ _ _) rfl ?_; exact .no HRF.out hI.frm hI.room) | (go_end0; exact .no HRF.out hI.frm hI.room)
        · cases tn
          · have HR : Hid (r = (!true && decide (b + name.size + vBytes values ≤ 4096))) := Lib.hid (by rw [HR0.out]; rfl)
            have hI2 := hI1.set hg 2 (.bool true)
            have y1 := hI2.box.c 1 rfl
            go_wp2_with (first | (go_at_call 66; refine (HNM.out _).mono ?_; rintro e w' ⟨rfl, rfl⟩))
            refine (C_ref_text g _ b true name _ hI2.room hb hnm).mono ?_
            rintro e w3 ⟨⟨v3, rfl⟩, hf3, hB3⟩
            have hI3 := hI2.next hg hf3 hB3
            clear x1 x3 hf3 hB3 y1 z2 fz
            go_wp2_with fail
            go_loopw [6] (fun i wr => ∃ (k bk : Nat) (bad : Bool), k ≤ values.length ∧ i = .int .i64 k ∧ HX w wr g (szL ((n : Int) + 1) bk bad) 97 (mL 4 name value A1 values.length c1 A2 kids.length c2) ∧ AmongI r values b name.size k bk bad) (fun i _ => values.length - (intOf i).toNat)
            case atStart => exact ⟨0, _, _, Nat.zero_le _, rfl, hI3, AmongI.start HR.out⟩
            case round =>
              obtain ⟨k, bk, bad, hk, rfl, hI, hA⟩ := hrel
              clear hI3
              have u3 := hI.box.c 3 rfl
              have u2 := hI.room.c 2 rfl
              cases bad
              · by_cases hlt : k < values.length
                · have hvsl := HVS.out.keep (hI.frm.keeps (fun k _ h => (HOK.out k h).2))
                  obtain ⟨bv, ov, rfl, _, _, hcv, hso⟩ := hvsl.str hlt
                  have hbk := hA.le rfl
                  have hnx := hA.next hlt
                  have HNX := Lib.hid hnx
                  clear hvsl hnx hA
                  generalize values[k] = vk at *
                  go_wp2_with fail
                  refine (C_ref_text g _ bk false vk _ hI.room hbk hso).mono ?_
                  rintro e w5 ⟨⟨v5, rfl⟩, hf5, hB5⟩
                  have hI5 := hI.next hg hf5 hB5
                  clear hI hf5 hB5 u3 u2
                  go_wp2
                  go_roundw
                  case rel => exact ⟨k + 1, _, _, by omega, by go_num, hI5, HNX.out⟩
                  case measure => simp [intOf]; omega
                · have hkk : k = values.length := by omega
                  have HKK := Lib.hid hkk
                  have HAI := Lib.hid hA
                  clear hkk hA
                  go_wp2
                  first | (refine bodyPost_ret (results_none rfl _ _ _) rfl ?_; exact AmongI.fin HAI.out HRT.out HKK.out rfl hI.frm hI.room) | (go_end0; exact AmongI.fin HAI.out HRT.out HKK.out rfl hI.frm hI.room)
              · have hrf := hA.isbad rfl
                have HRF := Lib.hid hrf
                clear hrf hA
                by_cases hlt : k < values.length
                · go_wp2
                  first | (refine bodyPost_ret (results_none rfl _ _ _) rfl ?_; exact .no HRF.out hI.frm hI.room) | (go_end0; exact .no HRF.out hI.frm hI.room)
                · go_wp2
                  first | (refine bodyPost_ret (results_none rfl _ _ _) rfl ?_; exact .no HRF.out hI.frm hI.room) | (go_end0; exact .no HRF.out hI.frm hI.room)
          · have hcallv := HVC.out w1 HV1.out
            have HCV := Lib.hid hcallv
            clear hcallv
            cases vv
            · have HR : Hid (r = (!true && decide (b + name.size + vBytes values ≤ 4096))) := Lib.hid (by rw [HR0.out]; rfl)
              go_wp2_with (first | (go_at_call 66; refine (HNM.out _).mono ?_; rintro e w' ⟨rfl, rfl⟩))
              refine (HCV.out).mono ?_
              rintro e w2 ⟨rfl, hb2⟩
              have hI1' := hI1.step hb2
              have z2' := hI1'.room.c 2 rfl
              have fz' := hI1'.room.f 2
              have x1' := hI1'.box.c 1 rfl
              have x3' := hI1'.box.c 3 rfl
              clear z2 fz x1 x3 hI1
              have hI2 := hI1'.set hg 2 (.bool true)
              have y1 := hI2.box.c 1 rfl
              go_wp2_with fail
              refine (C_ref_text g _ b true name _ hI2.room hb hnm).mono ?_
              rintro e w3 ⟨⟨v3, rfl⟩, hf3, hB3⟩
              have hI3 := hI2.next hg hf3 hB3
              clear x1' x3' hf3 hB3 y1 z2' fz'
              go_wp2_with fail
              go_loopw [6] (fun i wr => ∃ (k bk : Nat) (bad : Bool), k ≤ values.length ∧ i = .int .i64 k ∧ HX w wr g (szL ((n : Int) + 1) bk bad) 97 (mL 4 name value A1 values.length c1 A2 kids.length c2) ∧ AmongI r values b name.size k bk bad) (fun i _ => values.length - (intOf i).toNat)
              case atStart => exact ⟨0, _, _, Nat.zero_le _, rfl, hI3, AmongI.start HR.out⟩
              case round =>
                obtain ⟨k, bk, bad, hk, rfl, hI, hA⟩ := hrel
                clear hI3
                have u3 := hI.box.c 3 rfl
                have u2 := hI.room.c 2 rfl
                cases bad
                · by_cases hlt : k < values.length
                  · have hvsl := HVS.out.keep (hI.frm.keeps (fun k _ h => (HOK.out k h).2))
                    obtain ⟨bv, ov, rfl, _, _, hcv, hso⟩ := hvsl.str hlt
                    have hbk := hA.le rfl
                    have hnx := hA.next hlt
                    have HNX := Lib.hid hnx
                    clear hvsl hnx hA
                    generalize values[k] = vk at *
                    go_wp2_with fail
                    refine (C_ref_text g _ bk false vk _ hI.room hbk hso).mono ?_
                    rintro e w5 ⟨⟨v5, rfl⟩, hf5, hB5⟩
                    have hI5 := hI.next hg hf5 hB5
                    clear hI hf5 hB5 u3 u2
                    go_wp2
                    go_roundw
                    case rel => exact ⟨k + 1, _, _, by omega, by go_num, hI5, HNX.out⟩
                    case measure => simp [intOf]; omega
                  · have hkk : k = values.length := by omega
                    have HKK := Lib.hid hkk
                    have HAI := Lib.hid hA
                    clear hkk hA
                    go_wp2
                    first | (refine bodyPost_ret (results_none rfl _ _ _) rfl ?_; exact AmongI.fin HAI.out HRT.out HKK.out rfl hI.frm hI.room) | (go_end0; exact AmongI.fin HAI.out HRT.out HKK.out rfl hI.frm hI.room)
                · have hrf := hA.isbad rfl
                  have HRF := Lib.hid hrf
                  clear hrf hA
                  by_cases hlt : k < values.length
                  · go_wp2
                    first | (refine bodyPost_ret (results_none rfl _ _ _) rfl ?_; exact .no HRF.out hI.frm hI.room) | (go_end0; exact .no HRF.out hI.frm hI.room)
                  · go_wp2
                    first | (refine bodyPost_ret (results_none rfl _ _ _) rfl ?_; exact .no HRF.out hI.frm hI.room) | (go_end0; exact .no HRF.out hI.frm hI.room)
            · have HR : Hid (r = (!false && decide (b + name.size + vBytes values ≤ 4096))) := Lib.hid (by rw [HR0.out]; rfl)
              go_wp2_with (first | (go_at_call 66; refine (HNM.out _).mono ?_; rintro e w' ⟨rfl, rfl⟩))
              refine (HCV.out).mono ?_
              rintro e w2 ⟨rfl, hb2⟩
              have hI1' := hI1.step hb2
              have z2' := hI1'.room.c 2 rfl
              have fz' := hI1'.room.f 2
              have x1' := hI1'.box.c 1 rfl
              have x3' := hI1'.box.c 3 rfl
              clear z2 fz x1 x3 hI1
              have hI2 := hI1'.set hg 2 (.bool false)
              have y1 := hI2.box.c 1 rfl
              go_wp2_with fail
              refine (C_ref_text g _ b false name _ hI2.room hb hnm).mono ?_
              rintro e w3 ⟨⟨v3, rfl⟩, hf3, hB3⟩
              have hI3 := hI2.next hg hf3 hB3
              clear x1' x3' hf3 hB3 y1 z2' fz'
              go_wp2_with fail
              go_loopw [6] (fun i wr => ∃ (k bk : Nat) (bad : Bool), k ≤ values.length ∧ i = .int .i64 k ∧ HX w wr g (szL ((n : Int) + 1) bk bad) 97 (mL 4 name value A1 values.length c1 A2 kids.length c2) ∧ AmongI r values b name.size k bk bad) (fun i _ => values.length - (intOf i).toNat)
              case atStart => exact ⟨0, _, _, Nat.zero_le _, rfl, hI3, AmongI.start HR.out⟩
              case round =>
                obtain ⟨k, bk, bad, hk, rfl, hI, hA⟩ := hrel
                clear hI3
                have u3 := hI.box.c 3 rfl
                have u2 := hI.room.c 2 rfl
                cases bad
                · by_cases hlt : k < values.length
                  · have hvsl := HVS.out.keep (hI.frm.keeps (fun k _ h => (HOK.out k h).2))
                    obtain ⟨bv, ov, rfl, _, _, hcv, hso⟩ := hvsl.str hlt
                    have hbk := hA.le rfl
                    have hnx := hA.next hlt
                    have HNX := Lib.hid hnx
                    clear hvsl hnx hA
                    generalize values[k] = vk at *
                    go_wp2_with fail
                    refine (C_ref_text g _ bk false vk _ hI.room hbk hso).mono ?_
                    rintro e w5 ⟨⟨v5, rfl⟩, hf5, hB5⟩
                    have hI5 := hI.next hg hf5 hB5
                    clear hI hf5 hB5 u3 u2
                    go_wp2
                    go_roundw
                    case rel => exact ⟨k + 1, _, _, by omega, by go_num, hI5, HNX.out⟩
                    case measure => simp [intOf]; omega
                  · have hkk : k = values.length := by omega
                    have HKK := Lib.hid hkk
                    have HAI := Lib.hid hA
                    clear hkk hA
                    go_wp2
                    first | (refine bodyPost_ret (results_none rfl _ _ _) rfl ?_; exact AmongI.fin HAI.out HRT.out HKK.out rfl hI.frm hI.room) | (go_end0; exact AmongI.fin HAI.out HRT.out HKK.out rfl hI.frm hI.room)
                · have hrf := hA.isbad rfl
                  have HRF := Lib.hid hrf
                  clear hrf hA
                  by_cases hlt : k < values.length
                  · go_wp2
                    first | (refine bodyPost_ret (results_none rfl _ _ _) rfl ?_; exact .no HRF.out hI.frm hI.room) | (go_end0; exact .no HRF.out hI.frm hI.room)
                  · go_wp2
                    first | (refine bodyPost_ret (results_none rfl _ _ _) rfl ?_; exact .no HRF.out hI.frm hI.room) | (go_end0; exact .no HRF.out hI.frm hI.room)
      · -- kids
        rcases ho with rfl | rfl | rfl
        · have hrf := look_kids (op := 5) (name := name) (value := value) (values := values) (kids := kids) (by omega) hd8 hn64 hb
          rw [← hr] at hrf
          have hyes : r = true → mBytes (.mk 5 name value values kids) = mBytesL kids := fun h => by
            rw [hrf] at h
            simp only [Bool.and_eq_true, Bool.not_eq_true', Bool.or_eq_false_iff, Bool.not_eq_false'] at h
            obtain ⟨⟨h1, _⟩, _⟩ := h
            unfold bareB at h1
            simp only [Bool.false_or, Bool.true_or, Bool.true_and, Bool.or_true, Bool.and_true, Bool.and_eq_true, decide_eq_true_eq] at h1
            obtain ⟨a1, a2, a3⟩ := h1
            have b1 : values = [] := List.length_eq_zero_iff.1 (by omega)
            have b2 := size0 _ a1
            have b3 := size0 _ a2
            rw [b1]; unfold mBytes; rw [b2, b3]; simp [vBytes]
          have HRT := Lib.hid hyes
          have HB0 : ∀ W, Calls Tryz.prog 88 #[.agg (mL 5 name value A1 values.length c1 A2 kids.length c2).toArray, .bool false, .bool false, .bool true] W fun e w' => e = .returned (.bool (bareB false false true name.toList.isEmpty value.toList.isEmpty values.length kids.length)) ∧ Below W.heap.size W w' := fun W => C_ref_bare false false true 5 name value A1 values.length c1 A2 kids.length c2 W
          have HBR := Lib.hid HB0
          clear hyes HB0 hr
          generalize bareB false false true name.toList.isEmpty value.toList.isEmpty values.length kids.length = bb at *
          have HR0 := Lib.hid hrf
          clear hrf
          go_enter Tryz.func55, Tryz.ntmps55
          go_wp2_with fail
          rw [← hZ]
          refine (HBR.out Z).mono ?_
          rintro e w1 ⟨rfl, hb1⟩
          have hI1 := hI.step hb1
          have z2 := hI1.room.c 2 rfl
          have fz := hI1.room.f 2
          have x0' := hI1.box.c 0 rfl
          have x4 := hI1.box.c 4 rfl
          clear hI hb1 hZ x0 f0 f2
          cases bb
          · have HR : Hid (r = (!true && (mOkL kids (d + 1) && decide (n + 1 + mNodesL kids ≤ 64) && decide (b + mBytesL kids ≤ 4096)))) := Lib.hid (by rw [HR0.out]; rfl)
            have hI2 : HX w (w1.setCell ⟨g, 2, none⟩ (.bool true)) g (szL ((n + 1 : Nat) : Int) b true) 97 (mL 5 name value A1 values.length c1 A2 kids.length c2) := by
              have := hI1.set hg 2 (.bool true)
              rw [show ((n + 1 : Nat) : Int) = (n : Int) + 1 by omega]; exact this
            clear hI1
            go_wp2_with fail
            clear z2 fz x0' x4
            go_loopw [7] (fun i wr => ∃ (k : Nat) (n' b' : Int) (bad : Bool), k ≤ kids.length ∧ i = .int .i64 k ∧ HX w wr g (szL n' b' bad) 97 (mL 5 name value A1 values.length c1 A2 kids.length c2) ∧ KidsI r kids (d + 1) n b k n' b' bad) (fun i _ => kids.length - (intOf i).toNat)
            case atStart => exact ⟨0, _, _, _, Nat.zero_le _, rfl, hI2, KidsI.start HR.out hn64 hb⟩
            case round =>
              obtain ⟨k, n', b', bad, hk, rfl, hI, hA⟩ := hrel
              clear hI2
              have u4 := hI.box.c 4 rfl
              have u2 := hI.room.c 2 rfl
              cases bad
              · by_cases hlt : k < kids.length
                · have hksl := HKS.out.keep (hI.frm.keeps (fun k _ h => (HOK.out k h).2))
                  obtain ⟨bk, ok_, A3, c3, A4, c4, rfl, _, _, z0, z1, z2, z3, z4, hmr⟩ := hksl.matcher hlt
                  obtain ⟨rfl, rfl, hn', hb', _, _⟩ := hA.isgood rfl
                  obtain ⟨r', hr'⟩ : ∃ r', r' = lookB kids[k] (d + 1) (n + 1 + mNodesL (kids.take k)) (b + mBytesL (kids.take k)) := ⟨_, rfl⟩
                  have HNX := Lib.hid (hA.next hlt hr')
                  have HNB := Lib.hid (hA.nextbad hlt hr')
                  have HR' := Lib.hid hr'
                  have hkN : mNodes kids[k] ≤ N := Nat.le_trans (mNodes_kid hlt) hNK
                  have hwsz := hI.frm.size
                  clear hksl hA hr'
                  generalize n + 1 + mNodesL (kids.take k) = na at *
                  generalize b + mBytesL (kids.take k) = ba at *
                  generalize kids[k] = kid at *
                  go_wp2_with fail
                  have hcall := HIH.out kid (d + 1) na ba g r' ok _ _ hkN HR'.out (by omega) hn' hb' hI.room (fun k h => ⟨by have := (HOK.out k h).1; omega, (HOK.out k h).2⟩) hmr
                  clear z0 z1 z2 z3 z4 hmr u4 u2
                  refine hcall.mono ?_
                  rintro e w5 ⟨⟨v5, rfl⟩, hf5, n5, b5, hB5, hy5⟩
                  have hI5 := hI.next hg hf5 hB5
                  have HY5 := Lib.hid hy5
                  clear hcall hI hf5 hB5 hy5
                  cases r'
                  · have HRF := Lib.hid (HNB.out rfl)
                    go_wp2
                    go_roundw
                    case rel => exact ⟨k + 1, n5, b5, true, by omega, by go_num, hI5, ⟨fun _ => HRF.out, fun h => by cases h⟩⟩
                    case measure => simp [intOf]; omega
                  · have hyy := HY5.out rfl
                    obtain ⟨e5, e6⟩ := hyy
                    have E5 := Lib.hid e5
                    have E6 := Lib.hid e6
                    clear e5 e6
                    go_wp2
                    go_roundw
                    case rel => exact ⟨k + 1, n5, b5, false, by omega, by go_num, hI5, by rw [E5.out, E6.out]; exact HNX.out (by trivial)⟩
                    case measure => simp [intOf]; omega
                · have hkk : k = kids.length := by omega
                  have HKK := Lib.hid hkk
                  have HAI := Lib.hid hA
                  clear hkk hA
                  go_wp2
                  first | (refine bodyPost_ret (results_none rfl _ _ _) rfl ?_; exact KidsI.fin HAI.out HRT.out HKK.out rfl hI.frm hI.room) | (go_end0; exact KidsI.fin HAI.out HRT.out HKK.out rfl hI.frm hI.room)
              · have hrf := hA.isbad rfl
                have HRF := Lib.hid hrf
                clear hrf hA
                by_cases hlt : k < kids.length
                · go_wp2
                  first | (refine bodyPost_ret (results_none rfl _ _ _) rfl ?_; exact .no HRF.out hI.frm hI.room) | (go_end0; exact .no HRF.out hI.frm hI.room)
                · go_wp2
                  first | (refine bodyPost_ret (results_none rfl _ _ _) rfl ?_; exact .no HRF.out hI.frm hI.room) | (go_end0; exact .no HRF.out hI.frm hI.room)
          · have HR : Hid (r = (!false && (mOkL kids (d + 1) && decide (n + 1 + mNodesL kids ≤ 64) && decide (b + mBytesL kids ≤ 4096)))) := Lib.hid (by rw [HR0.out]; rfl)
            have hI2 : HX w (w1.setCell ⟨g, 2, none⟩ (.bool false)) g (szL ((n + 1 : Nat) : Int) b false) 97 (mL 5 name value A1 values.length c1 A2 kids.length c2) := by
              have := hI1.set hg 2 (.bool false)
              rw [show ((n + 1 : Nat) : Int) = (n : Int) + 1 by omega]; exact this
            clear hI1
            go_wp2_with fail
            clear z2 fz x0' x4
            go_loopw [7] (fun i wr => ∃ (k : Nat) (n' b' : Int) (bad : Bool), k ≤ kids.length ∧ i = .int .i64 k ∧ HX w wr g (szL n' b' bad) 97 (mL 5 name value A1 values.length c1 A2 kids.length c2) ∧ KidsI r kids (d + 1) n b k n' b' bad) (fun i _ => kids.length - (intOf i).toNat)
            case atStart => exact ⟨0, _, _, _, Nat.zero_le _, rfl, hI2, KidsI.start HR.out hn64 hb⟩
            case round =>
              obtain ⟨k, n', b', bad, hk, rfl, hI, hA⟩ := hrel
              clear hI2
              have u4 := hI.box.c 4 rfl
              have u2 := hI.room.c 2 rfl
              cases bad
              · by_cases hlt : k < kids.length
                · have hksl := HKS.out.keep (hI.frm.keeps (fun k _ h => (HOK.out k h).2))
                  obtain ⟨bk, ok_, A3, c3, A4, c4, rfl, _, _, z0, z1, z2, z3, z4, hmr⟩ := hksl.matcher hlt
                  obtain ⟨rfl, rfl, hn', hb', _, _⟩ := hA.isgood rfl
                  obtain ⟨r', hr'⟩ : ∃ r', r' = lookB kids[k] (d + 1) (n + 1 + mNodesL (kids.take k)) (b + mBytesL (kids.take k)) := ⟨_, rfl⟩
                  have HNX := Lib.hid (hA.next hlt hr')
                  have HNB := Lib.hid (hA.nextbad hlt hr')
                  have HR' := Lib.hid hr'
                  have hkN : mNodes kids[k] ≤ N := Nat.le_trans (mNodes_kid hlt) hNK
                  have hwsz := hI.frm.size
                  clear hksl hA hr'
                  generalize n + 1 + mNodesL (kids.take k) = na at *
                  generalize b + mBytesL (kids.take k) = ba at *
                  generalize kids[k] = kid at *
                  go_wp2_with fail
                  have hcall := HIH.out kid (d + 1) na ba g r' ok _ _ hkN HR'.out (by omega) hn' hb' hI.room (fun k h => ⟨by have := (HOK.out k h).1; omega, (HOK.out k h).2⟩) hmr
                  clear z0 z1 z2 z3 z4 hmr u4 u2
                  refine hcall.mono ?_
                  rintro e w5 ⟨⟨v5, rfl⟩, hf5, n5, b5, hB5, hy5⟩
                  have hI5 := hI.next hg hf5 hB5
                  have HY5 := Lib.hid hy5
                  clear hcall hI hf5 hB5 hy5
                  cases r'
                  · have HRF := Lib.hid (HNB.out rfl)
                    go_wp2
                    go_roundw
                    case rel => exact ⟨k + 1, n5, b5, true, by omega, by go_num, hI5, ⟨fun _ => HRF.out, fun h => by cases h⟩⟩
                    case measure => simp [intOf]; omega
                  · have hyy := HY5.out rfl
                    obtain ⟨e5, e6⟩ := hyy
                    have E5 := Lib.hid e5
                    have E6 := Lib.hid e6
                    clear e5 e6
                    go_wp2
                    go_roundw
                    case rel => exact ⟨k + 1, n5, b5, false, by omega, by go_num, hI5, by rw [E5.out, E6.out]; exact HNX.out (by trivial)⟩
                    case measure => simp [intOf]; omega
                · have hkk : k = kids.length := by omega
                  have HKK := Lib.hid hkk
                  have HAI := Lib.hid hA
                  clear hkk hA
                  go_wp2
                  first | (refine bodyPost_ret (results_none rfl _ _ _) rfl ?_; exact KidsI.fin HAI.out HRT.out HKK.out rfl hI.frm hI.room) | (go_end0; exact KidsI.fin HAI.out HRT.out HKK.out rfl hI.frm hI.room)
              · have hrf := hA.isbad rfl
                have HRF := Lib.hid hrf
                clear hrf hA
                by_cases hlt : k < kids.length
                · go_wp2
                  first | (refine bodyPost_ret (results_none rfl _ _ _) rfl ?_; exact .no HRF.out hI.frm hI.room) | (go_end0; exact .no HRF.out hI.frm hI.room)
                · go_wp2
                  first | (refine bodyPost_ret (results_none rfl _ _ _) rfl ?_; exact .no HRF.out hI.frm hI.room) | (go_end0; exact .no HRF.out hI.frm hI.room)
        · have hrf := look_kids (op := 6) (name := name) (value := value) (values := values) (kids := kids) (by omega) hd8 hn64 hb
          rw [← hr] at hrf
          have hyes : r = true → mBytes (.mk 6 name value values kids) = mBytesL kids := fun h => by
            rw [hrf] at h
            simp only [Bool.and_eq_true, Bool.not_eq_true', Bool.or_eq_false_iff, Bool.not_eq_false'] at h
            obtain ⟨⟨h1, _⟩, _⟩ := h
            unfold bareB at h1
            simp only [Bool.false_or, Bool.true_or, Bool.true_and, Bool.or_true, Bool.and_true, Bool.and_eq_true, decide_eq_true_eq] at h1
            obtain ⟨a1, a2, a3⟩ := h1
            have b1 : values = [] := List.length_eq_zero_iff.1 (by omega)
            have b2 := size0 _ a1
            have b3 := size0 _ a2
            rw [b1]; unfold mBytes; rw [b2, b3]; simp [vBytes]
          have HRT := Lib.hid hyes
          have HB0 : ∀ W, Calls Tryz.prog 88 #[.agg (mL 6 name value A1 values.length c1 A2 kids.length c2).toArray, .bool false, .bool false, .bool true] W fun e w' => e = .returned (.bool (bareB false false true name.toList.isEmpty value.toList.isEmpty values.length kids.length)) ∧ Below W.heap.size W w' := fun W => C_ref_bare false false true 6 name value A1 values.length c1 A2 kids.length c2 W
          have HBR := Lib.hid HB0
          clear hyes HB0 hr
          generalize bareB false false true name.toList.isEmpty value.toList.isEmpty values.length kids.length = bb at *
          have HR0 := Lib.hid hrf
          clear hrf
          go_enter Tryz.func55, Tryz.ntmps55
          go_wp2_with fail
          rw [← hZ]
          refine (HBR.out Z).mono ?_
          rintro e w1 ⟨rfl, hb1⟩
          have hI1 := hI.step hb1
          have z2 := hI1.room.c 2 rfl
          have fz := hI1.room.f 2
          have x0' := hI1.box.c 0 rfl
          have x4 := hI1.box.c 4 rfl
          clear hI hb1 hZ x0 f0 f2
          cases bb
          · have HR : Hid (r = (!true && (mOkL kids (d + 1) && decide (n + 1 + mNodesL kids ≤ 64) && decide (b + mBytesL kids ≤ 4096)))) := Lib.hid (by rw [HR0.out]; rfl)
            have hI2 : HX w (w1.setCell ⟨g, 2, none⟩ (.bool true)) g (szL ((n + 1 : Nat) : Int) b true) 97 (mL 6 name value A1 values.length c1 A2 kids.length c2) := by
              have := hI1.set hg 2 (.bool true)
              rw [show ((n + 1 : Nat) : Int) = (n : Int) + 1 by omega]; exact this
            clear hI1
            go_wp2_with fail
            clear z2 fz x0' x4
            go_loopw [7] (fun i wr => ∃ (k : Nat) (n' b' : Int) (bad : Bool), k ≤ kids.length ∧ i = .int .i64 k ∧ HX w wr g (szL n' b' bad) 97 (mL 6 name value A1 values.length c1 A2 kids.length c2) ∧ KidsI r kids (d + 1) n b k n' b' bad) (fun i _ => kids.length - (intOf i).toNat)
            case atStart => exact ⟨0, _, _, _, Nat.zero_le _, rfl, hI2, KidsI.start HR.out hn64 hb⟩
            case round =>
              obtain ⟨k, n', b', bad, hk, rfl, hI, hA⟩ := hrel
              clear hI2
              have u4 := hI.box.c 4 rfl
              have u2 := hI.room.c 2 rfl
              cases bad
              · by_cases hlt : k < kids.length
                · have hksl := HKS.out.keep (hI.frm.keeps (fun k _ h => (HOK.out k h).2))
                  obtain ⟨bk, ok_, A3, c3, A4, c4, rfl, _, _, z0, z1, z2, z3, z4, hmr⟩ := hksl.matcher hlt
                  obtain ⟨rfl, rfl, hn', hb', _, _⟩ := hA.isgood rfl
                  obtain ⟨r', hr'⟩ : ∃ r', r' = lookB kids[k] (d + 1) (n + 1 + mNodesL (kids.take k)) (b + mBytesL (kids.take k)) := ⟨_, rfl⟩
                  have HNX := Lib.hid (hA.next hlt hr')
                  have HNB := Lib.hid (hA.nextbad hlt hr')
                  have HR' := Lib.hid hr'
                  have hkN : mNodes kids[k] ≤ N := Nat.le_trans (mNodes_kid hlt) hNK
                  have hwsz := hI.frm.size
                  clear hksl hA hr'
                  generalize n + 1 + mNodesL (kids.take k) = na at *
                  generalize b + mBytesL (kids.take k) = ba at *
                  generalize kids[k] = kid at *
                  go_wp2_with fail
                  have hcall := HIH.out kid (d + 1) na ba g r' ok _ _ hkN HR'.out (by omega) hn' hb' hI.room (fun k h => ⟨by have := (HOK.out k h).1; omega, (HOK.out k h).2⟩) hmr
                  clear z0 z1 z2 z3 z4 hmr u4 u2
                  refine hcall.mono ?_
                  rintro e w5 ⟨⟨v5, rfl⟩, hf5, n5, b5, hB5, hy5⟩
                  have hI5 := hI.next hg hf5 hB5
                  have HY5 := Lib.hid hy5
                  clear hcall hI hf5 hB5 hy5
                  cases r'
                  · have HRF := Lib.hid (HNB.out rfl)
                    go_wp2
                    go_roundw
                    case rel => exact ⟨k + 1, n5, b5, true, by omega, by go_num, hI5, ⟨fun _ => HRF.out, fun h => by cases h⟩⟩
                    case measure => simp [intOf]; omega
                  · have hyy := HY5.out rfl
                    obtain ⟨e5, e6⟩ := hyy
                    have E5 := Lib.hid e5
                    have E6 := Lib.hid e6
                    clear e5 e6
                    go_wp2
                    go_roundw
                    case rel => exact ⟨k + 1, n5, b5, false, by omega, by go_num, hI5, by rw [E5.out, E6.out]; exact HNX.out (by trivial)⟩
                    case measure => simp [intOf]; omega
                · have hkk : k = kids.length := by omega
                  have HKK := Lib.hid hkk
                  have HAI := Lib.hid hA
                  clear hkk hA
                  go_wp2
                  first | (refine bodyPost_ret (results_none rfl _ _ _) rfl ?_; exact KidsI.fin HAI.out HRT.out HKK.out rfl hI.frm hI.room) | (go_end0; exact KidsI.fin HAI.out HRT.out HKK.out rfl hI.frm hI.room)
              · have hrf := hA.isbad rfl
                have HRF := Lib.hid hrf
                clear hrf hA
                by_cases hlt : k < kids.length
                · go_wp2
                  first | (refine bodyPost_ret (results_none rfl _ _ _) rfl ?_; exact .no HRF.out hI.frm hI.room) | (go_end0; exact .no HRF.out hI.frm hI.room)
                · go_wp2
                  first | (refine bodyPost_ret (results_none rfl _ _ _) rfl ?_; exact .no HRF.out hI.frm hI.room) | (go_end0; exact .no HRF.out hI.frm hI.room)
          · have HR : Hid (r = (!false && (mOkL kids (d + 1) && decide (n + 1 + mNodesL kids ≤ 64) && decide (b + mBytesL kids ≤ 4096)))) := Lib.hid (by rw [HR0.out]; rfl)
            have hI2 : HX w (w1.setCell ⟨g, 2, none⟩ (.bool false)) g (szL ((n + 1 : Nat) : Int) b false) 97 (mL 6 name value A1 values.length c1 A2 kids.length c2) := by
              have := hI1.set hg 2 (.bool false)
              rw [show ((n + 1 : Nat) : Int) = (n : Int) + 1 by omega]; exact this
            clear hI1
            go_wp2_with fail
            clear z2 fz x0' x4
            go_loopw [7] (fun i wr => ∃ (k : Nat) (n' b' : Int) (bad : Bool), k ≤ kids.length ∧ i = .int .i64 k ∧ HX w wr g (szL n' b' bad) 97 (mL 6 name value A1 values.length c1 A2 kids.length c2) ∧ KidsI r kids (d + 1) n b k n' b' bad) (fun i _ => kids.length - (intOf i).toNat)
            case atStart => exact ⟨0, _, _, _, Nat.zero_le _, rfl, hI2, KidsI.start HR.out hn64 hb⟩
            case round =>
              obtain ⟨k, n', b', bad, hk, rfl, hI, hA⟩ := hrel
              clear hI2
              have u4 := hI.box.c 4 rfl
              have u2 := hI.room.c 2 rfl
              cases bad
              · by_cases hlt : k < kids.length
                · have hksl := HKS.out.keep (hI.frm.keeps (fun k _ h => (HOK.out k h).2))
                  obtain ⟨bk, ok_, A3, c3, A4, c4, rfl, _, _, z0, z1, z2, z3, z4, hmr⟩ := hksl.matcher hlt
                  obtain ⟨rfl, rfl, hn', hb', _, _⟩ := hA.isgood rfl
                  obtain ⟨r', hr'⟩ : ∃ r', r' = lookB kids[k] (d + 1) (n + 1 + mNodesL (kids.take k)) (b + mBytesL (kids.take k)) := ⟨_, rfl⟩
                  have HNX := Lib.hid (hA.next hlt hr')
                  have HNB := Lib.hid (hA.nextbad hlt hr')
                  have HR' := Lib.hid hr'
                  have hkN : mNodes kids[k] ≤ N := Nat.le_trans (mNodes_kid hlt) hNK
                  have hwsz := hI.frm.size
                  clear hksl hA hr'
                  generalize n + 1 + mNodesL (kids.take k) = na at *
                  generalize b + mBytesL (kids.take k) = ba at *
                  generalize kids[k] = kid at *
                  go_wp2_with fail
                  have hcall := HIH.out kid (d + 1) na ba g r' ok _ _ hkN HR'.out (by omega) hn' hb' hI.room (fun k h => ⟨by have := (HOK.out k h).1; omega, (HOK.out k h).2⟩) hmr
                  clear z0 z1 z2 z3 z4 hmr u4 u2
                  refine hcall.mono ?_
                  rintro e w5 ⟨⟨v5, rfl⟩, hf5, n5, b5, hB5, hy5⟩
                  have hI5 := hI.next hg hf5 hB5
                  have HY5 := Lib.hid hy5
                  clear hcall hI hf5 hB5 hy5
                  cases r'
                  · have HRF := Lib.hid (HNB.out rfl)
                    go_wp2
                    go_roundw
                    case rel => exact ⟨k + 1, n5, b5, true, by omega, by go_num, hI5, ⟨fun _ => HRF.out, fun h => by cases h⟩⟩
                    case measure => simp [intOf]; omega
                  · have hyy := HY5.out rfl
                    obtain ⟨e5, e6⟩ := hyy
                    have E5 := Lib.hid e5
                    have E6 := Lib.hid e6
                    clear e5 e6
                    go_wp2
                    go_roundw
                    case rel => exact ⟨k + 1, n5, b5, false, by omega, by go_num, hI5, by rw [E5.out, E6.out]; exact HNX.out (by trivial)⟩
                    case measure => simp [intOf]; omega
                · have hkk : k = kids.length := by omega
                  have HKK := Lib.hid hkk
                  have HAI := Lib.hid hA
                  clear hkk hA
                  go_wp2
                  first | (refine bodyPost_ret (results_none rfl _ _ _) rfl ?_; exact KidsI.fin HAI.out HRT.out HKK.out rfl hI.frm hI.room) | (go_end0; exact KidsI.fin HAI.out HRT.out HKK.out rfl hI.frm hI.room)
              · have hrf := hA.isbad rfl
                have HRF := Lib.hid hrf
                clear hrf hA
                by_cases hlt : k < kids.length
                · go_wp2
                  first | (refine bodyPost_ret (results_none rfl _ _ _) rfl ?_; exact .no HRF.out hI.frm hI.room) | (go_end0; exact .no HRF.out hI.frm hI.room)
                · go_wp2
                  first | (refine bodyPost_ret (results_none rfl _ _ _) rfl ?_; exact .no HRF.out hI.frm hI.room) | (go_end0; exact .no HRF.out hI.frm hI.room)
        · have hrf := look_kids (op := 7) (name := name) (value := value) (values := values) (kids := kids) (by omega) hd8 hn64 hb
          rw [← hr] at hrf
          have hyes : r = true → mBytes (.mk 7 name value values kids) = mBytesL kids := fun h => by
            rw [hrf] at h
            simp only [Bool.and_eq_true, Bool.not_eq_true', Bool.or_eq_false_iff, Bool.not_eq_false'] at h
            obtain ⟨⟨h1, _⟩, _⟩ := h
            unfold bareB at h1
            simp only [Bool.false_or, Bool.true_or, Bool.true_and, Bool.or_true, Bool.and_true, Bool.and_eq_true, decide_eq_true_eq] at h1
            obtain ⟨a1, a2, a3⟩ := h1
            have b1 : values = [] := List.length_eq_zero_iff.1 (by omega)
            have b2 := size0 _ a1
            have b3 := size0 _ a2
            rw [b1]; unfold mBytes; rw [b2, b3]; simp [vBytes]
          have HRT := Lib.hid hyes
          have HB0 : ∀ W, Calls Tryz.prog 88 #[.agg (mL 7 name value A1 values.length c1 A2 kids.length c2).toArray, .bool false, .bool false, .bool true] W fun e w' => e = .returned (.bool (bareB false false true name.toList.isEmpty value.toList.isEmpty values.length kids.length)) ∧ Below W.heap.size W w' := fun W => C_ref_bare false false true 7 name value A1 values.length c1 A2 kids.length c2 W
          have HBR := Lib.hid HB0
          clear hyes HB0 hr
          generalize bareB false false true name.toList.isEmpty value.toList.isEmpty values.length kids.length = bb at *
          have HR0 := Lib.hid hrf
          clear hrf
          go_enter Tryz.func55, Tryz.ntmps55
          go_wp2_with fail
          rw [← hZ]
          refine (HBR.out Z).mono ?_
          rintro e w1 ⟨rfl, hb1⟩
          have hI1 := hI.step hb1
          have z2 := hI1.room.c 2 rfl
          have fz := hI1.room.f 2
          have x0' := hI1.box.c 0 rfl
          have x4 := hI1.box.c 4 rfl
          clear hI hb1 hZ x0 f0 f2
          cases bb
          · have HR : Hid (r = (!true && (mOkL kids (d + 1) && decide (n + 1 + mNodesL kids ≤ 64) && decide (b + mBytesL kids ≤ 4096)))) := Lib.hid (by rw [HR0.out]; rfl)
            have hI2 : HX w (w1.setCell ⟨g, 2, none⟩ (.bool true)) g (szL ((n + 1 : Nat) : Int) b true) 97 (mL 7 name value A1 values.length c1 A2 kids.length c2) := by
              have := hI1.set hg 2 (.bool true)
              rw [show ((n + 1 : Nat) : Int) = (n : Int) + 1 by omega]; exact this
            clear hI1
            go_wp2_with fail
            clear z2 fz x0' x4
            go_loopw [7] (fun i wr => ∃ (k : Nat) (n' b' : Int) (bad : Bool), k ≤ kids.length ∧ i = .int .i64 k ∧ HX w wr g (szL n' b' bad) 97 (mL 7 name value A1 values.length c1 A2 kids.length c2) ∧ KidsI r kids (d + 1) n b k n' b' bad) (fun i _ => kids.length - (intOf i).toNat)
            case atStart => exact ⟨0, _, _, _, Nat.zero_le _, rfl, hI2, KidsI.start HR.out hn64 hb⟩
            case round =>
              obtain ⟨k, n', b', bad, hk, rfl, hI, hA⟩ := hrel
              clear hI2
              have u4 := hI.box.c 4 rfl
              have u2 := hI.room.c 2 rfl
              cases bad
              · by_cases hlt : k < kids.length
                · have hksl := HKS.out.keep (hI.frm.keeps (fun k _ h => (HOK.out k h).2))
                  obtain ⟨bk, ok_, A3, c3, A4, c4, rfl, _, _, z0, z1, z2, z3, z4, hmr⟩ := hksl.matcher hlt
                  obtain ⟨rfl, rfl, hn', hb', _, _⟩ := hA.isgood rfl
                  obtain ⟨r', hr'⟩ : ∃ r', r' = lookB kids[k] (d + 1) (n + 1 + mNodesL (kids.take k)) (b + mBytesL (kids.take k)) := ⟨_, rfl⟩
                  have HNX := Lib.hid (hA.next hlt hr')
                  have HNB := Lib.hid (hA.nextbad hlt hr')
                  have HR' := Lib.hid hr'
                  have hkN : mNodes kids[k] ≤ N := Nat.le_trans (mNodes_kid hlt) hNK
                  have hwsz := hI.frm.size
                  clear hksl hA hr'
                  generalize n + 1 + mNodesL (kids.take k) = na at *
                  generalize b + mBytesL (kids.take k) = ba at *
                  generalize kids[k] = kid at *
                  go_wp2_with fail
                  have hcall := HIH.out kid (d + 1) na ba g r' ok _ _ hkN HR'.out (by omega) hn' hb' hI.room (fun k h => ⟨by have := (HOK.out k h).1; omega, (HOK.out k h).2⟩) hmr
                  clear z0 z1 z2 z3 z4 hmr u4 u2
                  refine hcall.mono ?_
                  rintro e w5 ⟨⟨v5, rfl⟩, hf5, n5, b5, hB5, hy5⟩
                  have hI5 := hI.next hg hf5 hB5
                  have HY5 := Lib.hid hy5
                  clear hcall hI hf5 hB5 hy5
                  cases r'
                  · have HRF := Lib.hid (HNB.out rfl)
                    go_wp2
                    go_roundw
                    case rel => exact ⟨k + 1, n5, b5, true, by omega, by go_num, hI5, ⟨fun _ => HRF.out, fun h => by cases h⟩⟩
                    case measure => simp [intOf]; omega
                  · have hyy := HY5.out rfl
                    obtain ⟨e5, e6⟩ := hyy
                    have E5 := Lib.hid e5
                    have E6 := Lib.hid e6
                    clear e5 e6
                    go_wp2
                    go_roundw
                    case rel => exact ⟨k + 1, n5, b5, false, by omega, by go_num, hI5, by rw [E5.out, E6.out]; exact HNX.out (by trivial)⟩
                    case measure => simp [intOf]; omega
                · have hkk : k = kids.length := by omega
                  have HKK := Lib.hid hkk
                  have HAI := Lib.hid hA
                  clear hkk hA
                  go_wp2
                  first | (refine bodyPost_ret (results_none rfl _ _ _) rfl ?_; exact KidsI.fin HAI.out HRT.out HKK.out rfl hI.frm hI.room) | (go_end0; exact KidsI.fin HAI.out HRT.out HKK.out rfl hI.frm hI.room)
              · have hrf := hA.isbad rfl
                have HRF := Lib.hid hrf
                clear hrf hA
                by_cases hlt : k < kids.length
                · go_wp2
                  first | (refine bodyPost_ret (results_none rfl _ _ _) rfl ?_; exact .no HRF.out hI.frm hI.room) | (go_end0; exact .no HRF.out hI.frm hI.room)
                · go_wp2
                  first | (refine bodyPost_ret (results_none rfl _ _ _) rfl ?_; exact .no HRF.out hI.frm hI.room) | (go_end0; exact .no HRF.out hI.frm hI.room)
          · by_cases h1 : kids.length = 1
            · have hq : ((kids.length : Int) != 1) = false := by simp; omega
              have HR : Hid (r = (!false && (mOkL kids (d + 1) && decide (n + 1 + mNodesL kids ≤ 64) && decide (b + mBytesL kids ≤ 4096)))) := Lib.hid (by rw [HR0.out, h1]; rfl)
              clear h1
              have hI2 : HX w (w1.setCell ⟨g, 2, none⟩ (.bool false)) g (szL ((n + 1 : Nat) : Int) b false) 97 (mL 7 name value A1 values.length c1 A2 kids.length c2) := by
                have := hI1.set hg 2 (.bool false)
                rw [show ((n + 1 : Nat) : Int) = (n : Int) + 1 by omega]; exact this
              clear hI1
              go_wp2_with fail
              clear z2 fz x0' x4
              go_loopw [7] (fun i wr => ∃ (k : Nat) (n' b' : Int) (bad : Bool), k ≤ kids.length ∧ i = .int .i64 k ∧ HX w wr g (szL n' b' bad) 97 (mL 7 name value A1 values.length c1 A2 kids.length c2) ∧ KidsI r kids (d + 1) n b k n' b' bad) (fun i _ => kids.length - (intOf i).toNat)
              case atStart => exact ⟨0, _, _, _, Nat.zero_le _, rfl, hI2, KidsI.start HR.out hn64 hb⟩
              case round =>
                obtain ⟨k, n', b', bad, hk, rfl, hI, hA⟩ := hrel
                clear hI2
                have u4 := hI.box.c 4 rfl
                have u2 := hI.room.c 2 rfl
                cases bad
                · by_cases hlt : k < kids.length
                  · have hksl := HKS.out.keep (hI.frm.keeps (fun k _ h => (HOK.out k h).2))
                    obtain ⟨bk, ok_, A3, c3, A4, c4, rfl, _, _, z0, z1, z2, z3, z4, hmr⟩ := hksl.matcher hlt
                    obtain ⟨rfl, rfl, hn', hb', _, _⟩ := hA.isgood rfl
                    obtain ⟨r', hr'⟩ : ∃ r', r' = lookB kids[k] (d + 1) (n + 1 + mNodesL (kids.take k)) (b + mBytesL (kids.take k)) := ⟨_, rfl⟩
                    have HNX := Lib.hid (hA.next hlt hr')
                    have HNB := Lib.hid (hA.nextbad hlt hr')
                    have HR' := Lib.hid hr'
                    have hkN : mNodes kids[k] ≤ N := Nat.le_trans (mNodes_kid hlt) hNK
                    have hwsz := hI.frm.size
                    clear hksl hA hr'
                    generalize n + 1 + mNodesL (kids.take k) = na at *
                    generalize b + mBytesL (kids.take k) = ba at *
                    generalize kids[k] = kid at *
                    go_wp2_with fail
                    have hcall := HIH.out kid (d + 1) na ba g r' ok _ _ hkN HR'.out (by omega) hn' hb' hI.room (fun k h => ⟨by have := (HOK.out k h).1; omega, (HOK.out k h).2⟩) hmr
                    clear z0 z1 z2 z3 z4 hmr u4 u2
                    refine hcall.mono ?_
                    rintro e w5 ⟨⟨v5, rfl⟩, hf5, n5, b5, hB5, hy5⟩
                    have hI5 := hI.next hg hf5 hB5
                    have HY5 := Lib.hid hy5
                    clear hcall hI hf5 hB5 hy5
                    cases r'
                    · have HRF := Lib.hid (HNB.out rfl)
                      go_wp2
                      go_roundw
                      case rel => exact ⟨k + 1, n5, b5, true, by omega, by go_num, hI5, ⟨fun _ => HRF.out, fun h => by cases h⟩⟩
                      case measure => simp [intOf]; omega
                    · have hyy := HY5.out rfl
                      obtain ⟨e5, e6⟩ := hyy
                      have E5 := Lib.hid e5
                      have E6 := Lib.hid e6
                      clear e5 e6
                      go_wp2
                      go_roundw
                      case rel => exact ⟨k + 1, n5, b5, false, by omega, by go_num, hI5, by rw [E5.out, E6.out]; exact HNX.out (by trivial)⟩
                      case measure => simp [intOf]; omega
                  · have hkk : k = kids.length := by omega
                    have HKK := Lib.hid hkk
                    have HAI := Lib.hid hA
                    clear hkk hA
                    go_wp2
                    first | (refine bodyPost_ret (results_none rfl _ _ _) rfl ?_; exact KidsI.fin HAI.out HRT.out HKK.out rfl hI.frm hI.room) | (go_end0; exact KidsI.fin HAI.out HRT.out HKK.out rfl hI.frm hI.room)
                · have hrf := hA.isbad rfl
                  have HRF := Lib.hid hrf
                  clear hrf hA
                  by_cases hlt : k < kids.length
                  · go_wp2
                    first | (refine bodyPost_ret (results_none rfl _ _ _) rfl ?_; exact .no HRF.out hI.frm hI.room) | (go_end0; exact .no HRF.out hI.frm hI.room)
                  · go_wp2
                    first | (refine bodyPost_ret (results_none rfl _ _ _) rfl ?_; exact .no HRF.out hI.frm hI.room) | (go_end0; exact .no HRF.out hI.frm hI.room)
            · have hq : ((kids.length : Int) != 1) = true := by simp; omega
              have hq' : (kids.length == 1) = false := by simp; omega
              have HR : Hid (r = (!true && (mOkL kids (d + 1) && decide (n + 1 + mNodesL kids ≤ 64) && decide (b + mBytesL kids ≤ 4096)))) := Lib.hid (by rw [HR0.out, hq']; rfl)
              clear hq'
              have hI2 : HX w (w1.setCell ⟨g, 2, none⟩ (.bool true)) g (szL ((n + 1 : Nat) : Int) b true) 97 (mL 7 name value A1 values.length c1 A2 kids.length c2) := by
                have := hI1.set hg 2 (.bool true)
                rw [show ((n + 1 : Nat) : Int) = (n : Int) + 1 by omega]; exact this
              clear hI1
              go_wp2_with fail
              clear z2 fz x0' x4
              go_loopw [7] (fun i wr => ∃ (k : Nat) (n' b' : Int) (bad : Bool), k ≤ kids.length ∧ i = .int .i64 k ∧ HX w wr g (szL n' b' bad) 97 (mL 7 name value A1 values.length c1 A2 kids.length c2) ∧ KidsI r kids (d + 1) n b k n' b' bad) (fun i _ => kids.length - (intOf i).toNat)
              case atStart => exact ⟨0, _, _, _, Nat.zero_le _, rfl, hI2, KidsI.start HR.out hn64 hb⟩
              case round =>
                obtain ⟨k, n', b', bad, hk, rfl, hI, hA⟩ := hrel
                clear hI2
                have u4 := hI.box.c 4 rfl
                have u2 := hI.room.c 2 rfl
                cases bad
                · by_cases hlt : k < kids.length
                  · have hksl := HKS.out.keep (hI.frm.keeps (fun k _ h => (HOK.out k h).2))
                    obtain ⟨bk, ok_, A3, c3, A4, c4, rfl, _, _, z0, z1, z2, z3, z4, hmr⟩ := hksl.matcher hlt
                    obtain ⟨rfl, rfl, hn', hb', _, _⟩ := hA.isgood rfl
                    obtain ⟨r', hr'⟩ : ∃ r', r' = lookB kids[k] (d + 1) (n + 1 + mNodesL (kids.take k)) (b + mBytesL (kids.take k)) := ⟨_, rfl⟩
                    have HNX := Lib.hid (hA.next hlt hr')
                    have HNB := Lib.hid (hA.nextbad hlt hr')
                    have HR' := Lib.hid hr'
                    have hkN : mNodes kids[k] ≤ N := Nat.le_trans (mNodes_kid hlt) hNK
                    have hwsz := hI.frm.size
                    clear hksl hA hr'
                    generalize n + 1 + mNodesL (kids.take k) = na at *
                    generalize b + mBytesL (kids.take k) = ba at *
                    generalize kids[k] = kid at *
                    go_wp2_with fail
                    have hcall := HIH.out kid (d + 1) na ba g r' ok _ _ hkN HR'.out (by omega) hn' hb' hI.room (fun k h => ⟨by have := (HOK.out k h).1; omega, (HOK.out k h).2⟩) hmr
                    clear z0 z1 z2 z3 z4 hmr u4 u2
                    refine hcall.mono ?_
                    rintro e w5 ⟨⟨v5, rfl⟩, hf5, n5, b5, hB5, hy5⟩
                    have hI5 := hI.next hg hf5 hB5
                    have HY5 := Lib.hid hy5
                    clear hcall hI hf5 hB5 hy5
                    cases r'
                    · have HRF := Lib.hid (HNB.out rfl)
                      go_wp2
                      go_roundw
                      case rel => exact ⟨k + 1, n5, b5, true, by omega, by go_num, hI5, ⟨fun _ => HRF.out, fun h => by cases h⟩⟩
                      case measure => simp [intOf]; omega
                    · have hyy := HY5.out rfl
                      obtain ⟨e5, e6⟩ := hyy
                      have E5 := Lib.hid e5
                      have E6 := Lib.hid e6
                      clear e5 e6
                      go_wp2
                      go_roundw
                      case rel => exact ⟨k + 1, n5, b5, false, by omega, by go_num, hI5, by rw [E5.out, E6.out]; exact HNX.out (by trivial)⟩
                      case measure => simp [intOf]; omega
                  · have hkk : k = kids.length := by omega
                    have HKK := Lib.hid hkk
                    have HAI := Lib.hid hA
                    clear hkk hA
                    go_wp2
                    first | (refine bodyPost_ret (results_none rfl _ _ _) rfl ?_; exact KidsI.fin HAI.out HRT.out HKK.out rfl hI.frm hI.room) | (go_end0; exact KidsI.fin HAI.out HRT.out HKK.out rfl hI.frm hI.room)
                · have hrf := hA.isbad rfl
                  have HRF := Lib.hid hrf
                  clear hrf hA
                  by_cases hlt : k < kids.length
                  · go_wp2
                    first | (refine bodyPost_ret (results_none rfl _ _ _) rfl ?_; exact .no HRF.out hI.frm hI.room) | (go_end0; exact .no HRF.out hI.frm hI.room)
                  · go_wp2
                    first | (refine bodyPost_ret (results_none rfl _ _ _) rfl ?_; exact .no HRF.out hI.frm hI.room) | (go_end0; exact .no HRF.out hI.frm hI.room)
      · -- none of these
        have hrf : r = false := by rw [hr]; exact look_none ho
        have HRF := Lib.hid hrf
        have hB1 : Blk (((w.setCell ⟨g, 0, none⟩ (.int .i64 ((n : Int) + 1))).setCell ⟨g, 2, none⟩ (.bool true)).alloc (.cells (mL op name value A1 values.length c1 A2 kids.length c2).toArray 28)) g (szL ((n : Int) + 1) b true) 97 := ((hroom.set 0 _).set 2 _).below ((Below.refl _ _).alloc (Nat.le_refl _) _)
        have hF1 : Frm (fun k => k = g) w (((w.setCell ⟨g, 0, none⟩ (.int .i64 ((n : Int) + 1))).setCell ⟨g, 2, none⟩ (.bool true)).alloc (.cells (mL op name value A1 values.length c1 A2 kids.length c2).toArray 28)) := (((Frm.refl (fun k => k = g) w).one rfl 0 _).one rfl 2 _).alloc _
        clear hr hrf hI hZ
        have o0 : (op == 0) = false := by simp; omega
        have o1 : (op == 1) = false := by simp; omega
        have o2 : (op == 2) = false := by simp; omega
        have o3 : (op == 3) = false := by simp; omega
        have o4 : (op == 4) = false := by simp; omega
        have o5 : (op == 5) = false := by simp; omega
        have o6 : (op == 6) = false := by simp; omega
        have o7 : (op == 7) = false := by simp; omega
        go_enter Tryz.func55, Tryz.ntmps55
        go_wp2
        first | (refine bodyPost_ret (results_none rfl _ _ _) rfl ?_; exact .no HRF.out hF1 hB1) | (go_end0; exact .no HRF.out hF1 hB1)

theorem C_ref_Check (ok : Nat → Prop) (m : Matcher) (vs : List Value) (w : World) (hok : ∀ k, ok k → k < w.heap.size) (hM : MRep ok w vs m) :
    Calls Tryz.prog 21 #[.agg vs.toArray] w fun e w' => e = .returned (.bool (holdsB m 1 64 4096)) ∧ Below w.heap.size w w' := by
  have hM0 := hM
  obtain ⟨A1, c1, A2, c2, rfl, _⟩ := MRep.open_ hM
  obtain ⟨r, hr⟩ : ∃ r, r = holdsB m 1 64 4096 := ⟨_, rfl⟩
  rw [← hr]
  have HR := Lib.hid (show r = lookB m 1 0 0 from hr)
  clear hr
  go_enter Tryz.func21, Tryz.ntmps21
  go_wp2_with fail
  have hB := Blk.new (w.alloc (.cells (mL m.op m.name m.value A1 m.values.length c1 A2 m.kids.length c2).toArray 28)) (szL 0 0 false) 97
  have hs : (w.alloc (.cells (mL m.op m.name m.value A1 m.values.length c1 A2 m.kids.length c2).toArray 28)).heap.size = w.heap.size + 1 := by simp
  rw [hs] at hB
  have hb : Below w.heap.size w ((w.alloc (.cells (mL m.op m.name m.value A1 m.values.length c1 A2 m.kids.length c2).toArray 28)).alloc (.cells (szL 0 0 false).toArray 97)) := ((Below.refl _ _).alloc (Nat.le_refl _) _).alloc (by omega) _
  have hm1 := hM0.keep (Keeps.of_below hb)
  refine (C_look _ m 1 0 0 (w.heap.size + 1) r ok _ _ (Nat.le_refl _) HR.out (by omega) (by omega) (by omega) hB (fun k h => ⟨Nat.lt_of_lt_of_le (hok k h) hb.size, by have := hok k h; omega⟩) hm1).mono ?_
  rintro e w1 ⟨⟨v1, rfl⟩, hf, n', b', hB1, _⟩
  have hfin := hf.to_below hb (fun k _ e => by omega)
  have x2 := hB1.c 2 rfl
  clear hf hB1 hB hb hm1
  go_wp2
  go_ret
  exact ⟨ret_b (by simp), hfin⟩
end Go.Proofs.YtbefkiebdokbdaaGreat.V
end
