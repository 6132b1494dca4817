/- Part 17 of the proof: Mat, Mat2, Mat3, Eval, Eval2, MeantG. -/
import Derived.WalkLawsBesides
import Derived.BigGuardPart
import Derived.Deep.DeepCutAuto
import Derived.StillTailTactics
import Derived.Test.YtbefkiebdokbdaaGreatB16

section
/- Contracts of package match for every matcher: values, alone. -/
namespace Go.Proofs.YtbefkiebdokbdaaGreat.V
open Go.RowKit
set_option linter.unusedVariables false
set_option maxRecDepth 100000

theorem Sl.str {ok : Nat → Prop} {w : World} {A : Option Addr} {xs : List ByteArray} (h : Sl ok w A xs) {k : Nat} (hk : k < xs.length) :
    ∃ b off, A = some ⟨b, off, none⟩ ∧ ok b ∧ b < w.heap.size ∧ w.cell? ⟨b, off + k, none⟩ = some (.string xs[k]) ∧ StrOk xs[k] := by
  obtain ⟨b, off, vs, rfl, hv, hc⟩ := h.at_ hk
  obtain ⟨rfl, h1⟩ := hv
  have e : Rep.sz ByteArray = 1 := rfl
  rw [e, Nat.mul_one] at hc
  exact ⟨b, off, rfl, hc.1, hc.2.1, hc.c0, h1⟩
/-- May the value at place k be, behind its fore-runner? -/
def valB (xs : List ByteArray) (k : Nat) : Bool := decide ((xs.getD k ⟨#[]⟩).size ≤ 64) && (k == 0 || !strLe (xs.getD k ⟨#[]⟩) (xs.getD (k - 1) ⟨#[]⟩))
def valsB (xs : List ByteArray) : Bool := decide (1 ≤ xs.length) && decide (xs.length ≤ 16) && (List.range xs.length).all (valB xs)
theorem all_lt_no {p : Nat → Bool} {n k : Nat} (hk : k < n) (h : p k = false) : (List.range n).all p = false := by
  rw [List.all_eq_false]
  exact ⟨k, List.mem_range.2 hk, by rw [h]; simp⟩
theorem all_lt_yes {p : Nat → Bool} {n : Nat} (h : ∀ k, k < n → p k = true) : (List.range n).all p = true := by
  rw [List.all_eq_true]
  exact fun k hk => h k (List.mem_range.1 hk)

set_option maxHeartbeats 2000000 in
theorem C_values (ok : Nat → Prop) (A : Option Addr) (cap : Nat) (xs : List ByteArray) (w : World) (hr : Sl ok w A xs) :
    Calls Tryz.prog 125 #[.slice A xs.length cap] w fun e w' => e = .returned (.bool (valsB xs)) ∧ w = w' := by
  have hlen := hr.1
  by_cases h1 : xs.length < 1
  · have hv : valsB xs = false := by unfold valsB; simp; omega
    have HV := Lib.hid hv
    clear hv
    go_enter Tryz.func125, Tryz.ntmps125
    go_wp2
    all_goals
      go_ret
      exact ⟨ret_b HV.out.symm, rfl⟩
  by_cases h2 : 16 < xs.length
  · have hv : valsB xs = false := by unfold valsB; simp; omega
    have HV := Lib.hid hv
    clear hv
    go_enter Tryz.func125, Tryz.ntmps125
    go_wp2
    all_goals
      go_ret
      exact ⟨ret_b HV.out.symm, rfl⟩
  have NO : ∀ k, k < xs.length → valB xs k = false → valsB xs = false := fun k hk h => by unfold valsB; rw [all_lt_no hk h]; simp
  have YES : (∀ k, k < xs.length → valB xs k = true) → valsB xs = true := fun h => by unfold valsB; rw [all_lt_yes h]; simp; omega
  have HNO := Lib.hid NO
  have HYES := Lib.hid YES
  clear NO YES
  generalize valsB xs = res at *
  have g1 : decide ((xs.length : Int) < 1) = false := by simp; omega
  have g2 : decide ((16 : Int) < (xs.length : Int)) = false := by simp; omega
  go_enter Tryz.func125, Tryz.ntmps125
  go_wp2_with fail
  go_loop [3, 4, 15] (fun _ _ i => ∃ k : Nat, k ≤ xs.length ∧ i = .int .i64 k ∧ ∀ j, j < k → valB xs j = true) (fun _ _ i => xs.length - (intOf i).toNat)
  case atStart => exact ⟨0, Nat.zero_le _, rfl, fun j hj => by omega⟩
  case round =>
    obtain ⟨k, hk, rfl, hpre⟩ := hrel
    have HP := Lib.hid hpre
    clear hpre
    by_cases hlt : k < xs.length
    · obtain ⟨b, off, rfl, hob, hlb, hc, hso⟩ := hr.str hlt
      have hd : xs.getD k ⟨#[]⟩ = xs[k] := by simp [List.getD, hlt]
      have hvk : valB xs k = (decide (xs[k].size ≤ 64) && (k == 0 || !strLe xs[k] (xs.getD (k - 1) ⟨#[]⟩))) := by unfold valB; rw [hd]
      have HVK := Lib.hid hvk
      clear hvk hd
      generalize xs[k] = x at *
      by_cases h3 : 64 < x.size
      · have HF := Lib.hid (HNO.out k hlt (by rw [HVK.out]; simp; omega))
        have hd1 : decide ((64 : Int) < (x.size : Int)) = true := by simp; omega
        clear HNO HYES HP HVK
        go_wp2
        go_ret
        exact ⟨ret_b HF.out.symm, rfl⟩
      · have hd1 : decide ((64 : Int) < (x.size : Int)) = false := by simp; omega
        by_cases h4 : k = 0
        · have HS := Lib.hid (show valB xs k = true by rw [HVK.out, h4]; simp; omega)
          subst h4
          rw [Nat.add_zero] at hc
          have hd3 : decide ((0 : Int) < ((0 : Nat) : Int)) = false := by simp
          clear HNO HVK
          go_wp2
          go_round
          case rel => exact ⟨1, by omega, by go_num, fun j hj => by
            obtain rfl : j = 0 := by omega
            exact HS.out⟩
          case measure => simp [intOf]; omega
        · obtain ⟨b', off', e', _, _, hc', _⟩ := hr.str (k := k - 1) (by omega)
          cases e'
          have hd' : xs.getD (k - 1) ⟨#[]⟩ = xs[k - 1] := by simp [List.getD, (show k - 1 < xs.length by omega)]
          rw [hd'] at HVK
          have hk1 : (0 : Int) < (k : Int) := by omega
          have hd3 : decide ((0 : Int) < (k : Int)) = true := by simp; omega
          have hs : IntKind.i64.wrap ((k : Int) - 1) = (k : Int) - 1 := IntWalk.i64_in _ (by omega)
          have hs1 : (0 : Int) ≤ (k : Int) - 1 := by omega
          have hs2 : ((k : Int) - 1).toNat = k - 1 := by omega
          have hs3 : (k : Int) - 1 < (xs.length : Int) := by omega
          have hk0 : (k == 0) = false := by simp; omega
          have hkN : 0 < k := by omega
          have hkD : decide (0 < k) = true := by simp; omega
          clear hd'
          generalize xs[k - 1] = pn at *
          cases hLe : strLe x pn
          · have HS := Lib.hid (show valB xs k = true by rw [HVK.out, hk0, hLe]; simp; omega)
            clear HNO HVK hk0
            unfold strLe at hLe
            rw [Bool.or_eq_false_iff] at hLe
            obtain ⟨hl1, hl2⟩ := hLe
            go_wp2
            go_round
            case rel => exact ⟨k + 1, by omega, by go_num, fun j hj => by
              by_cases e : j = k
              · rw [e]; exact HS.out
              · exact HP.out j (by omega)⟩
            case measure => simp [intOf]; omega
          · have HF := Lib.hid (HNO.out k hlt (by rw [HVK.out, hk0, hLe]; simp))
            clear HNO HYES HP HVK hk0
            unfold strLe at hLe
            rw [Bool.or_eq_true] at hLe
            rcases hLe with hLe | hLe
            · go_wp2
              go_ret
              exact ⟨ret_b HF.out.symm, rfl⟩
            · go_wp2
              go_ret
              exact ⟨ret_b HF.out.symm, rfl⟩
    · have hkk : k = xs.length := by omega
      have HR := Lib.hid (HYES.out (fun j hj => HP.out j (by omega)))
      clear HNO HYES HP
      go_wp2
      go_ret
      exact ⟨ret_b HR.out.symm, rfl⟩

/-- May a matcher be, whatever its kids are? (nk: how many.) -/
noncomputable def aloneB (op : Int) (name value : ByteArray) (values : List ByteArray) (nk : Nat) : Bool :=
  let named := tr (NameP name) && decide (value.size ≤ 64) && (nk == 0)
  let plain := name.toList.isEmpty && value.toList.isEmpty && (values.length == 0)
  if op = 0 then plain && (nk == 0) else if op = 1 ∨ op = 2 ∨ op = 3 then named && (values.length == 0) else if op = 4 then named && value.toList.isEmpty && valsB values
  else if op = 5 ∨ op = 6 then plain else if op = 7 then plain && (nk == 1) else false
/-- The same in the walk's own words. -/
def aloneW (op : Int) (tn nE vE vv : Bool) (vs n1 n2 : Int) : Bool :=
  bif op == 0 then nE && (vE && (decide (n1 = 0) && (n2 == 0))) else bif op == 1 then tn && (decide (vs ≤ 64) && (decide (n2 = 0) && (n1 == 0))) else bif op == 2 then tn && (decide (vs ≤ 64) && (decide (n2 = 0) && (n1 == 0))) else bif op == 3 then tn && (decide (vs ≤ 64) && (decide (n2 = 0) && (n1 == 0)))
  else bif op == 4 then tn && (decide (vs ≤ 64) && (decide (n2 = 0) && (vE && vv))) else bif op == 5 then nE && (vE && (n1 == 0)) else bif op == 6 then nE && (vE && (n1 == 0)) else bif op == 7 then nE && (vE && (decide (n1 = 0) && (n2 == 1))) else false
theorem aloneB_w (op : Int) (name value : ByteArray) (values : List ByteArray) (n2 : Nat) : aloneB op name value values n2 = aloneW op (tr (NameP name)) name.toList.isEmpty value.toList.isEmpty (valsB values) value.size values.length n2 := by
  have e0 : ∀ n : Nat, ((n : Int) == 0) = (n == 0) := fun n => by rw [Bool.eq_iff_iff]; simp
  have e1 : ∀ n : Nat, ((n : Int) == 1) = (n == 1) := fun n => by rw [Bool.eq_iff_iff]; simp; omega
  have e2 : ∀ n : Nat, decide ((n : Int) = 0) = (n == 0) := fun n => by rw [Bool.eq_iff_iff]; simp
  have e3 : decide ((value.size : Int) ≤ 64) = decide (value.size ≤ 64) := by rw [Bool.eq_iff_iff]; simp; omega
  unfold aloneB aloneW
  simp only [e0, e1, e2, e3]
  generalize (values.length == 0) = l0
  generalize (n2 == 0) = k0
  generalize (n2 == 1) = k1
  generalize decide (value.size ≤ 64) = v64
  generalize tr (NameP name) = t
  generalize name.toList.isEmpty = ne
  generalize value.toList.isEmpty = ve
  generalize valsB values = vv
  have b : ∀ i : Int, (op == i) = decide (op = i) := fun i => by rw [Bool.eq_iff_iff]; simp
  simp only [b]
  by_cases h0 : op = 0
  · subst h0; cases ne <;> cases ve <;> cases l0 <;> cases k0 <;> rfl
  by_cases h1 : op = 1
  · subst h1; cases t <;> cases v64 <;> cases l0 <;> cases k0 <;> rfl
  by_cases h2 : op = 2
  · subst h2; cases t <;> cases v64 <;> cases l0 <;> cases k0 <;> rfl
  by_cases h3 : op = 3
  · subst h3; cases t <;> cases v64 <;> cases l0 <;> cases k0 <;> rfl
  by_cases h4 : op = 4
  · subst h4; cases t <;> cases v64 <;> cases ve <;> cases k0 <;> cases vv <;> rfl
  by_cases h5 : op = 5
  · subst h5; cases ne <;> cases ve <;> cases l0 <;> rfl
  by_cases h6 : op = 6
  · subst h6; cases ne <;> cases ve <;> cases l0 <;> rfl
  by_cases h7 : op = 7
  · subst h7; cases ne <;> cases ve <;> cases l0 <;> cases k1 <;> rfl
  simp [h0, h1, h2, h3, h4, h5, h6, h7]
@[reducible] def mL (op : Int) (name value : ByteArray) (A1 : Option Addr) (n1 c1 : Nat) (A2 : Option Addr) (n2 c2 : Nat) : List Value := [.int .i64 op, .string name, .string value, .slice A1 n1 c1, .slice A2 n2 c2]

set_option maxHeartbeats 4000000 in
theorem C_alone (ok : Nat → Prop) (op : Int) (name value : ByteArray) (values : List ByteArray) (A1 : Option Addr) (c1 : Nat) (A2 : Option Addr) (n2 c2 : Nat) (w : World) (hr : Sl ok w A1 values) (hn : StrOk name) (hv : StrOk value) :
    Calls Tryz.prog 103 #[.agg (mL op name value A1 values.length c1 A2 n2 c2).toArray] w fun e w' => e = .returned (.bool (aloneB op name value values n2)) ∧ Below w.heap.size w w' := by
  have hname : ∀ w, Calls Tryz.prog 124 #[.string name] w fun e w' => e = .returned (.bool (tr (NameP name))) ∧ w = w' := fun w => C_label_Name name w hn
  have HN := Lib.hid hname
  clear hname
  have hvals : ∀ o : Obj, Calls Tryz.prog 125 #[.slice A1 values.length c1] (w.alloc o) fun e w' => e = .returned (.bool (valsB values)) ∧ w.alloc o = w' := fun o => C_values ok A1 c1 values _ (hr.below ((Below.refl _ _).alloc (Nat.le_refl _) o))
  have HV := Lib.hid hvals
  clear hvals
  generalize htn : tr (NameP name) = tn at *
  have HTN := Lib.hid htn
  clear htn
  go_enter Tryz.func103, Tryz.ntmps103
  go_wp2_with (first | (go_at_call 124; refine (HN.out _).mono ?_; rintro e w' ⟨rfl, rfl⟩) | (go_at_call 125; refine (HV.out _).mono ?_; rintro e w' ⟨rfl, rfl⟩))
  all_goals
    go_ret
    refine ⟨ret_b ?_, (Below.refl _ _).alloc (Nat.le_refl _) _⟩
    rw [aloneB_w, HTN.out]
    clear HN HV HTN hr hn hv
    first
      | (simp only [aloneW, *, cond_true, cond_false, Bool.true_or, Bool.or_true, Bool.false_or, Bool.or_false, Bool.true_and, Bool.and_true, Bool.false_and, Bool.and_false, decide_true, decide_false, beq_self_eq_true]; done)
      | (have hx : ¬ ((value.size : Int) ≤ 64) := by omega
         simp only [aloneW, *, cond_true, cond_false, Bool.true_or, Bool.or_true, Bool.false_or, Bool.or_false, Bool.true_and, Bool.and_true, Bool.false_and, Bool.and_false, decide_true, decide_false, beq_self_eq_true]; done)
end Go.Proofs.YtbefkiebdokbdaaGreat.V
end

section
/- match.Check for every matcher. -/
namespace Go.Proofs.YtbefkiebdokbdaaGreat.V
open Go.RowKit
set_option linter.unusedVariables false
set_option maxRecDepth 100000

mutual
/-- May a matcher be, so deep? -/
noncomputable def mOk : Matcher → Nat → Bool
  | .mk op name value values kids, d => decide (d ≤ 8) && aloneB op name value values kids.length && mOkL kids (d + 1)
noncomputable def mOkL : List Matcher → Nat → Bool
  | [], _ => true
  | k :: ks, d => mOk k d && mOkL ks d
end
mutual
def mNodes : Matcher → Nat
  | .mk _ _ _ _ kids => 1 + mNodesL kids
def mNodesL : List Matcher → Nat
  | [] => 0
  | k :: ks => mNodes k + mNodesL ks
end
def vBytes : List ByteArray → Nat
  | [] => 0
  | v :: vs => v.size + vBytes vs
mutual
def mBytes : Matcher → Nat
  | .mk _ name value values kids => name.size + value.size + vBytes values + mBytesL kids
def mBytesL : List Matcher → Nat
  | [] => 0
  | k :: ks => mBytes k + mBytesL ks
end
theorem mOkL_append (d : Nat) : ∀ a b : List Matcher, mOkL (a ++ b) d = (mOkL a d && mOkL b d)
  | [], b => by simp [mOkL]
  | x :: a, b => by simp [mOkL, mOkL_append d a b, Bool.and_assoc]
theorem mNodesL_append : ∀ a b : List Matcher, mNodesL (a ++ b) = mNodesL a + mNodesL b
  | [], b => by simp [mNodesL]
  | x :: a, b => by simp [mNodesL, mNodesL_append a b, Nat.add_assoc]
theorem mBytesL_append : ∀ a b : List Matcher, mBytesL (a ++ b) = mBytesL a + mBytesL b
  | [], b => by simp [mBytesL]
  | x :: a, b => by simp [mBytesL, mBytesL_append a b, Nat.add_assoc]
theorem vBytes_append : ∀ a b : List ByteArray, vBytes (a ++ b) = vBytes a + vBytes b
  | [], b => by simp [vBytes]
  | x :: a, b => by simp [vBytes, vBytes_append a b, Nat.add_assoc]
theorem mOkL_snoc {l : List Matcher} {k d : Nat} (hk : k < l.length) : mOkL (l.take (k + 1)) d = (mOkL (l.take k) d && mOk l[k] d) := by
  rw [List.take_succ_eq_append_getElem hk, mOkL_append]; simp [mOkL]
theorem mNodesL_snoc {l : List Matcher} {k : Nat} (hk : k < l.length) : mNodesL (l.take (k + 1)) = mNodesL (l.take k) + mNodes l[k] := by
  rw [List.take_succ_eq_append_getElem hk, mNodesL_append]; simp [mNodesL]
theorem mBytesL_snoc {l : List Matcher} {k : Nat} (hk : k < l.length) : mBytesL (l.take (k + 1)) = mBytesL (l.take k) + mBytes l[k] := by
  rw [List.take_succ_eq_append_getElem hk, mBytesL_append]; simp [mBytesL]
theorem vBytes_snoc {l : List ByteArray} {k : Nat} (hk : k < l.length) : vBytes (l.take (k + 1)) = vBytes (l.take k) + l[k].size := by
  rw [List.take_succ_eq_append_getElem hk, vBytes_append]; simp [vBytes]
/-- Of all kids, if of one. -/
theorem mOkL_split {l : List Matcher} {k d : Nat} (hk : k < l.length) : mOkL l d = (mOkL (l.take k) d && mOk l[k] d && mOkL (l.drop (k + 1)) d) := by
  conv => lhs; rw [← List.take_append_drop (k + 1) l]
  rw [mOkL_append, mOkL_snoc hk]
theorem mNodesL_split {l : List Matcher} {k : Nat} (hk : k < l.length) : mNodesL l = mNodesL (l.take k) + mNodes l[k] + mNodesL (l.drop (k + 1)) := by
  conv => lhs; rw [← List.take_append_drop (k + 1) l]
  rw [mNodesL_append, mNodesL_snoc hk]
theorem mBytesL_split {l : List Matcher} {k : Nat} (hk : k < l.length) : mBytesL l = mBytesL (l.take k) + mBytes l[k] + mBytesL (l.drop (k + 1)) := by
  conv => lhs; rw [← List.take_append_drop (k + 1) l]
  rw [mBytesL_append, mBytesL_snoc hk]
theorem mNodes_pos (m : Matcher) : 1 ≤ mNodes m := by cases m; unfold mNodes; omega
theorem mNodes_kid {l : List Matcher} {k : Nat} (hk : k < l.length) : mNodes l[k] ≤ mNodesL l := by rw [mNodesL_split hk]; omega
theorem vBytes_le {n : Nat} : ∀ {l : List ByteArray}, (∀ v ∈ l, v.size ≤ n) → vBytes l ≤ l.length * n
  | [], _ => by simp [vBytes]
  | v :: l, h => by
    have h1 := h v (by simp)
    have h2 := vBytes_le (l := l) (fun x hx => h x (by simp [hx]))
    simp only [vBytes, List.length_cons, Nat.add_mul]
    omega
theorem valsB_ok {l : List ByteArray} (h : valsB l = true) : l.length ≤ 16 ∧ ∀ v ∈ l, v.size ≤ 64 := by
  unfold valsB at h
  rw [Bool.and_eq_true, Bool.and_eq_true] at h
  obtain ⟨⟨_, h2⟩, h3⟩ := h
  refine ⟨by simpa using h2, fun v hv => ?_⟩
  obtain ⟨k, hk, rfl⟩ := List.mem_iff_getElem.1 hv
  have := List.all_eq_true.1 h3 k (List.mem_range.2 hk)
  unfold valB at this
  rw [Bool.and_eq_true] at this
  have h4 := this.1
  simp only [List.getD, List.getElem?_eq_getElem hk, Option.getD_some] at h4
  simpa using h4
theorem isEmpty_size {s : ByteArray} (h : s.toList.isEmpty = true) : s.size = 0 := by
  have h1 : s.toList = [] := List.isEmpty_iff.1 h
  have h2 : s.toList.length = s.size := by rw [Lib.toList_data]; rfl
  rw [h1] at h2
  simpa using h2.symm
theorem aloneB_ok {op : Int} {name value : ByteArray} {values : List ByteArray} {nk : Nat} (h : aloneB op name value values nk = true) : name.size ≤ 32 ∧ value.size ≤ 64 ∧ values.length ≤ 16 ∧ ∀ v ∈ values, v.size ≤ 64 := by
  have hN : ∀ {s : ByteArray}, tr (NameP s) = true → s.size ≤ 32 := fun h => (tr_iff.1 h).2.1
  unfold aloneB at h
  dsimp only at h
  split at h
  · simp only [Bool.and_eq_true, decide_eq_true_eq, beq_iff_eq, List.length_eq_zero_iff] at h
    obtain ⟨⟨⟨h1, h2⟩, rfl⟩, _⟩ := h
    have h1 := isEmpty_size h1
    have h2 := isEmpty_size h2
    exact ⟨by omega, by omega, by simp, fun v hv => by cases hv⟩
  · split at h
    · simp only [Bool.and_eq_true, decide_eq_true_eq, beq_iff_eq, List.length_eq_zero_iff] at h
      obtain ⟨⟨⟨h1, h2⟩, _⟩, rfl⟩ := h
      exact ⟨hN h1, h2, by simp, fun v hv => by cases hv⟩
    · split at h
      · simp only [Bool.and_eq_true, decide_eq_true_eq, beq_iff_eq] at h
        obtain ⟨⟨⟨⟨h1, h2⟩, _⟩, _⟩, h5⟩ := h
        obtain ⟨h6, h7⟩ := valsB_ok h5
        exact ⟨hN h1, h2, h6, h7⟩
      · split at h
        · simp only [Bool.and_eq_true, decide_eq_true_eq, beq_iff_eq, List.length_eq_zero_iff] at h
          obtain ⟨⟨h1, h2⟩, rfl⟩ := h
          have h1 := isEmpty_size h1
          have h2 := isEmpty_size h2
          exact ⟨by omega, by omega, by simp, fun v hv => by cases hv⟩
        · split at h
          · simp only [Bool.and_eq_true, decide_eq_true_eq, beq_iff_eq, List.length_eq_zero_iff] at h
            obtain ⟨⟨⟨h1, h2⟩, rfl⟩, _⟩ := h
            have h1 := isEmpty_size h1
            have h2 := isEmpty_size h2
            exact ⟨by omega, by omega, by simp, fun v hv => by cases hv⟩
          · cases h

/-- A matcher of a slice. -/
theorem Sl.matcher {ok : Nat → Prop} {w : World} {A : Option Addr} {xs : List Matcher} (h : Sl ok w A xs) {k : Nat} (hk : k < xs.length) :
    ∃ b off A1 c1 A2 c2, A = some ⟨b, off, none⟩ ∧ ok b ∧ b < w.heap.size ∧ w.cell? ⟨b, off + k * 5, none⟩ = some (.int .i64 xs[k].op) ∧ w.cell? ⟨b, off + k * 5 + 1, none⟩ = some (.string xs[k].name) ∧ w.cell? ⟨b, off + k * 5 + 2, none⟩ = some (.string xs[k].value)
      ∧ w.cell? ⟨b, off + k * 5 + 3, none⟩ = some (.slice A1 xs[k].values.length c1) ∧ w.cell? ⟨b, off + k * 5 + 4, none⟩ = some (.slice A2 xs[k].kids.length c2) ∧ MRep ok w (mL xs[k].op xs[k].name xs[k].value A1 xs[k].values.length c1 A2 xs[k].kids.length c2) xs[k] := by
  obtain ⟨b, off, vs, rfl, hv, hc⟩ := h.at_ hk
  obtain ⟨A1, c1, A2, c2, rfl, _⟩ := MRep.open_ hv
  exact ⟨b, off, A1, c1, A2, c2, rfl, hc.1, hc.2.1, hc.c0, hc.c1, hc.cj 2 _ rfl, hc.cj 3 _ rfl, hc.cj 4 _ rfl, hv⟩

/-- What holds answers. -/
noncomputable def holdsB (m : Matcher) (d n b : Nat) : Bool := mOk m d && decide (mNodes m ≤ n) && decide (mBytes m ≤ b)
def RoomAt (w : World) (g : Nat) (n b : Int) : Prop := Blk w g [.int .i64 n, .int .i64 b] 116
def HoldsC (N : Nat) : Prop := ∀ (m : Matcher) (d n b g : Nat) (r : Bool) (ok : Nat → Prop) (vs : List Value) (w : World), mNodes m ≤ N → r = holdsB m d n b → d ≤ 9 → n ≤ 64 → b ≤ 4096 → RoomAt w g n b → (∀ k, ok k → k < w.heap.size ∧ k ≠ g) → MRep ok w vs m →
  Calls Tryz.prog 70 #[.pointer (some ⟨g, 0, none⟩), .agg vs.toArray, .int .i64 d] w fun e w' => e = .returned (.bool r) ∧ Frm (fun k => k = g) w w' ∧ (r = true → RoomAt w' g (n - mNodes m) (b - mBytes m))
end Go.Proofs.YtbefkiebdokbdaaGreat.V
end

section
/- match.room.holds, match.Check: the walks, for every matcher. -/
namespace Go.Proofs.YtbefkiebdokbdaaGreat.V
open Go.RowKit
set_option linter.unusedVariables false
set_option maxRecDepth 100000

/-- What holds has in hand behind its first tests. -/
structure HI (w X : World) (g : Nat) (n b : Int) (M : List Value) : Prop where
  room : RoomAt X g n b
  box : Blk X w.heap.size M 28
  frm : Frm (fun k => k = g) w X
section
variable {w X X' : World} {g : Nat} {n b : Int} {M : List Value}
theorem HI.step (h : HI w X g n b M) (hb : Below X.heap.size X X') : HI w X' g n b M := ⟨Blk.below h.room hb, h.box.below hb, h.frm.trans (.of_below hb)⟩
theorem HI.set0 (h : HI w X g n b M) (hg : g < w.heap.size) (x : Int) : HI w (X.setCell ⟨g, 0, none⟩ (.int .i64 x)) g x b M := ⟨Blk.set h.room 0 _, h.box.other 0 _ (by omega), h.frm.one rfl 0 _⟩
theorem HI.set1 (h : HI w X g n b M) (hg : g < w.heap.size) (x : Int) : HI w (X.setCell ⟨g, 1, none⟩ (.int .i64 x)) g n x M := ⟨Blk.set h.room 1 _, h.box.other 1 _ (by omega), h.frm.one rfl 1 _⟩
theorem HI.next (h : HI w X g n b M) (hg : g < w.heap.size) {n' b' : Int} (hf : Frm (fun k => k = g) X X') (hr : RoomAt X' g n' b') : HI w X' g n' b' M := ⟨hr, h.box.frm hf (by omega), h.frm.trans hf⟩
end

theorem bad_kid {kids : List Matcher} {k d nn b2 c n b : Nat} (hk : k < kids.length) (h : holdsB kids[k] d (nn - mNodesL (kids.take k)) (b2 - mBytesL (kids.take k)) = false) (h1 : mNodesL (kids.take k) ≤ nn) (h2 : mBytesL (kids.take k) ≤ b2) (hn : n = nn + 1) (hb : b = b2 + c) :
    (mOkL kids d && decide (1 + mNodesL kids ≤ n) && decide (c + mBytesL kids ≤ b)) = false := by
  have e1 := mNodesL_split hk
  have e2 := mBytesL_split hk
  have e3 := mOkL_split (d := d) hk
  unfold holdsB at h
  rw [Bool.and_eq_false_iff, Bool.and_eq_false_iff] at h ⊢
  rcases h with (h | h) | h
  · exact .inl (.inl (by rw [e3, h]; simp))
  · refine .inl (.inr ?_); rw [decide_eq_false_iff_not] at h ⊢; omega
  · refine .inr ?_; rw [decide_eq_false_iff_not] at h ⊢; omega
theorem good_kid {kids : List Matcher} {k d nn b2 : Nat} (hk : k < kids.length) (h : holdsB kids[k] d (nn - mNodesL (kids.take k)) (b2 - mBytesL (kids.take k)) = true) (h0 : mOkL (kids.take k) d = true) (h1 : mNodesL (kids.take k) ≤ nn) (h2 : mBytesL (kids.take k) ≤ b2) :
    mOkL (kids.take (k + 1)) d = true ∧ mNodesL (kids.take (k + 1)) ≤ nn ∧ mBytesL (kids.take (k + 1)) ≤ b2 ∧ mNodes kids[k] ≤ nn - mNodesL (kids.take k) ∧ mBytes kids[k] ≤ b2 - mBytesL (kids.take k) := by
  unfold holdsB at h
  rw [Bool.and_eq_true, Bool.and_eq_true, decide_eq_true_iff, decide_eq_true_iff] at h
  obtain ⟨⟨g0, g1⟩, g2⟩ := h
  refine ⟨by rw [mOkL_snoc hk, h0, g0]; rfl, by rw [mNodesL_snoc hk]; omega, by rw [mBytesL_snoc hk]; omega, g1, g2⟩
def HoldsP (g : Nat) (w : World) (n b : Int) (r : Bool) (e : Ending) (w' : World) : Prop := e = .returned (.bool r) ∧ Frm (fun k => k = g) w w' ∧ (r = true → RoomAt w' g n b)
theorem HoldsP.no {g : Nat} {w w' : World} {n b : Int} {r : Bool} (h : r = false) (hf : Frm (fun k => k = g) w w') : HoldsP g w n b r (.returned (.bool false)) w' := ⟨by rw [h], hf, fun c => by rw [h] at c; cases c⟩

set_option maxHeartbeats 8000000 in
theorem C_holds : ∀ N, HoldsC N := by
  intro N
  induction N with
  | zero => intro m d n b g r ok vs w hN; have := mNodes_pos m; omega
  | succ N ih =>
    intro m d n b g r ok vs w hN hr hd hn hb hroom hok hM
    obtain ⟨A1, c1, A2, c2, rfl, hop, hnm, hva, hvs, hks, _, _⟩ := MRep.open_ hM
    obtain ⟨op, name, value, values, kids⟩ := m
    simp only [Matcher.op, Matcher.name, Matcher.value, Matcher.values, Matcher.kids] at hop hnm hva hvs hks ⊢
    have hg := Blk.lt hroom
    have hne : g ≠ w.heap.size := by omega
    have hne' : w.heap.size ≠ g := by omega
    have x0 := Blk.c hroom 0 rfl
    have x1 := Blk.c hroom 1 rfl
    have f0 := Blk.f hroom 0
    have hR0 : holdsB (.mk op name value values kids) d n b = (decide (d ≤ 8) && aloneB op name value values kids.length && (mOkL kids (d + 1) && decide (1 + mNodesL kids ≤ n) && decide (name.size + value.size + vBytes values + mBytesL kids ≤ b))) := by
      unfold holdsB mOk mNodes mBytes; simp only [Bool.and_assoc]
    have HR := Lib.hid (hr.trans hR0)
    have hNK : mNodesL kids ≤ N := by unfold mNodes at hN; omega
    have hkl := hks.1
    have HKS := Lib.hid hks
    have HVS := Lib.hid hvs
    have HOK := Lib.hid hok
    have HIH := Lib.hid ih
    have hgoal : HoldsP g w (n - mNodes (.mk op name value values kids)) (b - mBytes (.mk op name value values kids)) r = fun e w' => e = .returned (.bool r) ∧ Frm (fun k => k = g) w w' ∧ (r = true → RoomAt w' g (n - mNodes (.mk op name value values kids)) (b - mBytes (.mk op name value values kids))) := rfl
    rw [← hgoal]
    clear hgoal hr hR0 hM hks hvs hok ih
    have hw1 : IntKind.i64.wrap ((n : Int) - 1) = (n : Int) - 1 := IntWalk.i64_in _ (by omega)
    have hA : ∀ W, Sl ok W A1 values → Calls Tryz.prog 103 #[.agg (mL op name value A1 values.length c1 A2 kids.length c2).toArray] W fun e w' => e = .returned (.bool (aloneB op name value values kids.length)) ∧ Below W.heap.size W w' := fun W h => C_alone ok op name value values A1 c1 A2 kids.length c2 W h hnm hva
    have HA := Lib.hid hA
    clear hA
    go_enter Tryz.func70, Tryz.ntmps70
    go_wp2_with fail
    · go_ret
      refine .no (by rw [HR.out]; simp; omega) ?_
      exact ((Frm.refl (fun k => k = g) w).one rfl 0 _).alloc _
    · go_ret
      refine .no (by rw [HR.out]; simp; omega) ?_
      exact ((Frm.refl (fun k => k = g) w).one rfl 0 _).alloc _
    · obtain ⟨nn, hnn⟩ : ∃ nn : Nat, n = nn + 1 := ⟨n - 1, by omega⟩
      subst hnn
      have ec : ((nn + 1 : Nat) : Int) - 1 = nn := by omega
      rw [ec]
      obtain ⟨Z, hZ⟩ : ∃ Z, Z = (w.setCell ⟨g, 0, none⟩ (.int .i64 nn)).alloc (.cells (mL op name value A1 values.length c1 A2 kids.length c2).toArray 28) := ⟨_, rfl⟩
      have hI : HI w Z g nn b (mL op name value A1 values.length c1 A2 kids.length c2) := by
        rw [hZ]
        refine ⟨(Blk.set hroom 0 _).below ((Below.refl _ _).alloc (Nat.le_refl _) _), ?_, ((Frm.refl (fun k => k = g) w).one rfl 0 (.int .i64 nn)).alloc _⟩
        have := Blk.new (w.setCell ⟨g, 0, none⟩ (.int .i64 nn)) (mL op name value A1 values.length c1 A2 kids.length c2) 28
        simpa [World.setCell] using this
      show Calls _ _ _ ((w.setCell ⟨g, 0, none⟩ (.int .i64 nn)).alloc (.cells (mL op name value A1 values.length c1 A2 kids.length c2).toArray 28)) _
      rw [← hZ]
      clear hZ x0 x1 f0 hroom hw1 ec
      refine (HA.out Z (HVS.out.keep (hI.frm.keeps (fun k _ h => (HOK.out k h).2)))).mono ?_
      rintro e w1 ⟨rfl, hb1⟩
      have hI1 := hI.step hb1
      clear hI hb1 HA
      cases hal : aloneB op name value values kids.length
      · have hrf : r = false := by rw [HR.out, hal]; simp
        have HRF := Lib.hid hrf
        clear hrf hal
        go_wp2
        go_ret
        exact .no HRF.out hI1.frm
      · obtain ⟨q1, q2, q3, q4⟩ := aloneB_ok hal
        have q5 : vBytes values ≤ 1024 := by have := vBytes_le q4; omega
        have hR1 : r = (mOkL kids (d + 1) && decide (1 + mNodesL kids ≤ nn + 1) && decide (name.size + value.size + vBytes values + mBytesL kids ≤ b)) := by
          rw [HR.out, hal]; simp; intros; omega
        have HR1 := Lib.hid hR1
        have HQ4 := Lib.hid q4
        clear HR hR1 hal q4
        have x1 := Blk.c hI1.room 1 rfl
        have f1 := Blk.f hI1.room 1
        have y1 := hI1.box.c 1 rfl
        have y2 := hI1.box.c 2 rfl
        have s1 : IntKind.i64.wrap ((name.size : Int) + (value.size : Int)) = (name.size : Int) + (value.size : Int) := IntWalk.i64_in _ (by omega)
        have s2 : IntKind.i64.wrap ((b : Int) - ((name.size : Int) + (value.size : Int))) = (b : Int) - ((name.size : Int) + (value.size : Int)) := IntWalk.i64_in _ (by omega)
        go_wp2_with fail
        refine wp_region_still_tail 14 (by kernel_rfl) (by kernel_rfl) ?_
        simp only [List.take_succ_cons, List.take_zero, List.drop_succ_cons, List.drop_zero]
        change wpStill _ _ w1.drew _ _ _
        repeat still_step
        refine wpStill_nil ?_
        change wpList _ _ _ _ _ w1.drew
        have hI2 := (hI1.set1 hg ((b : Int) - ((name.size : Int) + (value.size : Int)))).step (X' := (w1.setCell ⟨g, 1, none⟩ (.int .i64 ((b : Int) - ((name.size : Int) + (value.size : Int))))).drew) ⟨rfl, rfl, rfl, Nat.le_refl _, fun _ _ => rfl⟩
        have y3 := hI2.box.c 3 rfl
        go_wp2_with fail
        clear x1 f1 y1 y2 y3 hI1 s1 s2
        generalize (w1.setCell ⟨g, 1, none⟩ (.int .i64 ((b : Int) - ((name.size : Int) + (value.size : Int))))).drew = w2 at hI2 ⊢
        obtain ⟨b1, hb1⟩ : ∃ b1 : Int, b1 = (b : Int) - ((name.size : Int) + (value.size : Int)) := ⟨_, rfl⟩
        rw [← hb1] at hI2 ⊢
        have hb11 : -96 ≤ b1 ∧ b1 ≤ 4096 := by omega
        obtain ⟨hb12, hb13⟩ := hb11
        have HB1 := Lib.hid hb1
        clear hb1
        go_loopw [8, 49] (fun _ i wr => ∃ k : Nat, k ≤ values.length ∧ i = .int .i64 k ∧ HI w wr g nn (b1 - vBytes (values.take k)) (mL op name value A1 values.length c1 A2 kids.length c2)) (fun _ i _ => values.length - (intOf i).toNat)
        case atStart => exact ⟨0, Nat.zero_le _, rfl, by simpa [vBytes] using hI2⟩
        case round =>
          obtain ⟨k, hk, rfl, hI⟩ := hrel
          clear hI2
          by_cases hlt : k < values.length
          · have hsn := vBytes_snoc hlt
            have HSN := Lib.hid hsn
            have hvk : values[k].size ≤ 64 := HQ4.out _ (List.getElem_mem hlt)
            have hvt : vBytes (values.take k) ≤ 1024 := by
              have := vBytes_append (values.take k) (values.drop k)
              rw [List.take_append_drop] at this
              omega
            have hvsl := HVS.out.keep (hI.frm.keeps (fun k _ h => (HOK.out k h).2))
            obtain ⟨bv, ov, rfl, _, _, hcv, _⟩ := hvsl.str hlt
            have x1 := Blk.c hI.room 1 rfl
            have f1 := Blk.f hI.room 1
            have s1 : IntKind.i64.wrap (b1 - (vBytes (values.take k) : Int) - (values[k].size : Int)) = b1 - (vBytes (values.take k) : Int) - (values[k].size : Int) := IntWalk.i64_in _ (by omega)
            clear hsn hvsl
            generalize vBytes (values.take k) = vb at *
            generalize values[k] = vk at *
            go_wp2
            go_roundw
            case rel => exact ⟨k + 1, by omega, by go_num, by rw [HSN.out]; have := hI.set1 hg (b1 - (vb : Int) - (vk.size : Int)); rwa [show b1 - (vb : Int) - (vk.size : Int) = b1 - ((vb + vk.size : Nat) : Int) by omega] at this ⊢⟩
            case measure => simp [intOf]; omega
          · have hkk : k = values.length := by omega
            rw [hkk, List.take_length] at hI
            clear hkk
            have x1 := Blk.c hI.room 1 rfl
            by_cases hneg : b1 - (vBytes values : Int) < 0
            · have hrf : r = false := by rw [HR1.out]; have := HB1.out; simp; intros; omega
              have HRF := Lib.hid hrf
              clear hrf
              go_wp2
              go_ret
              exact .no HRF.out hI.frm
            · obtain ⟨b2, hb2⟩ : ∃ b2 : Nat, b1 - (vBytes values : Int) = b2 := ⟨(b1 - (vBytes values : Int)).toNat, by omega⟩
              have hbb : b = b2 + (name.size + value.size + vBytes values) := by have := HB1.out; omega
              rw [hb2] at hI x1 hneg
              have HBB := Lib.hid hbb
              have b23 : b2 ≤ 4096 := by omega
              clear hb2 hbb
              have y4 := hI.box.c 4 rfl
              go_wp2_with fail
              clear x1 y4
              have hd8 : d ≤ 8 := by omega
              have hsd : IntKind.i64.wrap ((d : Int) + 1) = (d : Int) + 1 := IntWalk.i64_in _ (by omega)
              go_loopw [10, 71] (fun _ i wr => ∃ k : Nat, k ≤ kids.length ∧ i = .int .i64 k ∧ HI w wr g ((nn - mNodesL (kids.take k) : Nat) : Int) ((b2 - mBytesL (kids.take k) : Nat) : Int) (mL op name value A1 values.length c1 A2 kids.length c2) ∧ mOkL (kids.take k) (d + 1) = true ∧ mNodesL (kids.take k) ≤ nn ∧ mBytesL (kids.take k) ≤ b2) (fun _ i _ => kids.length - (intOf i).toNat)
              case atStart => exact ⟨0, Nat.zero_le _, rfl, by simpa [mNodesL, mBytesL] using hI, by simp [mOkL], by simp [mNodesL], by simp [mBytesL]⟩
              case round =>
                obtain ⟨k, hk, rfl, hI, hk0, hk1, hk2⟩ := hrel
                by_cases hlt : k < kids.length
                · have hksl := HKS.out.keep (hI.frm.keeps (fun k _ h => (HOK.out k h).2))
                  obtain ⟨bk, ok_, A3, c3, A4, c4, rfl, _, _, z0, z1, z2, z3, z4, hmr⟩ := hksl.matcher hlt
                  obtain ⟨r', hr'⟩ : ∃ r', r' = holdsB kids[k] (d + 1) (nn - mNodesL (kids.take k)) (b2 - mBytesL (kids.take k)) := ⟨_, rfl⟩
                  have BAD := fun h : r' = false => bad_kid (n := nn + 1) (b := b) hlt (hr' ▸ h) hk1 hk2 rfl HBB.out
                  have GOOD := fun h : r' = true => good_kid hlt (hr' ▸ h) hk0 hk1 hk2
                  have e1 := mNodesL_snoc hlt
                  have e2 := mBytesL_snoc hlt
                  have hkN : mNodes kids[k] ≤ N := Nat.le_trans (mNodes_kid hlt) hNK
                  have HBAD := Lib.hid BAD
                  have HGOOD := Lib.hid GOOD
                  have HE1 := Lib.hid e1
                  have HE2 := Lib.hid e2
                  have HR' := Lib.hid hr'
                  clear BAD GOOD e1 e2 hr' hk0 hksl
                  generalize mNodesL (kids.take k) = na at *
                  generalize mBytesL (kids.take k) = ba at *
                  generalize kids[k] = kid at *
                  go_wp2_with fail
                  have hba : Below wr.heap.size wr (wr.alloc (.cells (mL kid.op kid.name kid.value A3 kid.values.length c3 A4 kid.kids.length c4).toArray 28)) := (Below.refl _ _).alloc (Nat.le_refl _) _
                  have hIa := hI.step hba
                  have hmra := hmr.keep (Keeps.of_below hba)
                  have hwsz := hI.frm.size
                  have hcall := HIH.out kid (d + 1) (nn - na) (b2 - ba) g r' ok _ _ hkN HR'.out (by omega) (by omega) (by omega) hIa.room (fun k h => ⟨by have := (HOK.out k h).1; have := hba.size; omega, (HOK.out k h).2⟩) hmra
                  clear z0 z1 z2 z3 z4 hmr hmra hba hI
                  refine hcall.mono ?_
                  rintro e w3 ⟨rfl, hf3, hro3⟩
                  clear hcall
                  cases r'
                  · have HRF := Lib.hid (HR1.out.trans (HBAD.out rfl))
                    go_wp2
                    go_ret
                    exact .no HRF.out (hIa.frm.trans hf3)
                  · obtain ⟨g1, g2, g3, g4, g5⟩ := HGOOD.out rfl
                    have hI3 := hIa.next hg hf3 (hro3 rfl)
                    clear hro3 hf3 hIa
                    go_wp2
                    go_roundw
                    case rel =>
                      refine ⟨k + 1, by omega, by go_num, ?_, g1, g2, g3⟩
                      rw [HE1.out, HE2.out]
                      rw [show ((nn - (na + mNodes kid) : Nat) : Int) = ((nn - na : Nat) : Int) - (mNodes kid : Int) by omega, show ((b2 - (ba + mBytes kid) : Nat) : Int) = ((b2 - ba : Nat) : Int) - (mBytes kid : Int) by omega]
                      exact hI3
                    case measure => simp [intOf]; omega
                · have hkk : k = kids.length := by omega
                  rw [hkk, List.take_length] at hI hk0 hk1 hk2
                  have hrt : r = true := by
                    rw [HR1.out, hk0]
                    have := HBB.out
                    simp; omega
                  have HRT := Lib.hid hrt
                  have hcl : RoomAt wr g (((nn + 1 : Nat) : Int) - (mNodes (.mk op name value values kids) : Int)) ((b : Int) - (mBytes (.mk op name value values kids) : Int)) := by
                    have e1 : ((nn - mNodesL kids : Nat) : Int) = ((nn + 1 : Nat) : Int) - (mNodes (.mk op name value values kids) : Int) := by unfold mNodes; omega
                    have e2 : ((b2 - mBytesL kids : Nat) : Int) = (b : Int) - (mBytes (.mk op name value values kids) : Int) := by have := HBB.out; unfold mBytes; omega
                    rw [← e1, ← e2]; exact hI.room
                  have hff := hI.frm
                  clear hkk hrt hI hk0 hk1 hk2
                  go_wp2
                  go_ret
                  exact ⟨ret_b HRT.out.symm, hff, fun _ => hcl⟩

theorem C_match_Check (ok : Nat → Prop) (m : Matcher) (vs : List Value) (w : World) (hok : ∀ k, ok k → k < w.heap.size) (hM : MRep ok w vs m) :
    Calls Tryz.prog 36 #[.agg vs.toArray] w fun e w' => e = .returned (.bool (holdsB m 1 64 4096)) ∧ Below w.heap.size w w' := by
  have hM0 := hM
  obtain ⟨A1, c1, A2, c2, rfl, _⟩ := MRep.open_ hM
  obtain ⟨r, hr⟩ : ∃ r, r = holdsB m 1 64 4096 := ⟨_, rfl⟩
  rw [← hr]
  have HR := Lib.hid hr
  clear hr
  go_enter Tryz.func36, Tryz.ntmps36
  go_wp2_with fail
  have hB := Blk.new (w.alloc (.cells (mL m.op m.name m.value A1 m.values.length c1 A2 m.kids.length c2).toArray 28)) [.int .i64 64, .int .i64 4096] 116
  have hs : (w.alloc (.cells (mL m.op m.name m.value A1 m.values.length c1 A2 m.kids.length c2).toArray 28)).heap.size = w.heap.size + 1 := by simp
  rw [hs] at hB
  have hb : Below w.heap.size w ((w.alloc (.cells (mL m.op m.name m.value A1 m.values.length c1 A2 m.kids.length c2).toArray 28)).alloc (.cells [.int .i64 64, .int .i64 4096].toArray 116)) := ((Below.refl _ _).alloc (Nat.le_refl _) _).alloc (by omega) _
  have hm1 := hM0.keep (Keeps.of_below hb)
  refine (C_holds _ m 1 64 4096 (w.heap.size + 1) r ok _ _ (Nat.le_refl _) HR.out (by omega) (by omega) (by omega) hB (fun k h => ⟨Nat.lt_of_lt_of_le (hok k h) hb.size, by have := hok k h; omega⟩) hm1).mono ?_
  rintro e w1 ⟨rfl, hf, _⟩
  have hfin := hf.to_below hb (fun k _ e => by omega)
  go_wp2
  go_ret
  exact ⟨rfl, hfin⟩
end Go.Proofs.YtbefkiebdokbdaaGreat.V
end

section
/- match.eval, match.Eval for every matcher that may be. -/
namespace Go.Proofs.YtbefkiebdokbdaaGreat.V
open Go.RowKit
set_option linter.unusedVariables false
set_option maxRecDepth 100000

/-- Does v begin with p? -/
def hasPre (v p : ByteArray) : Bool := decide (p.size ≤ v.size) && ((v.extract 0 p.size).toList == p.toList)
mutual
/-- Does a matcher mean a set? -/
def evalB : Matcher → List Label → Bool
  | .mk op name value values kids, l =>
    if op = 0 then true else if op = 1 then (lval l name).toList == value.toList else if op = 2 then !((lval l name).toList == value.toList) else if op = 3 then hasPre (lval l name) value
    else if op = 4 then values.any (fun x => x.toList == (lval l name).toList) else if op = 7 then !evalK kids l else if op = 6 then evalAny kids l else evalAll kids l
def evalK : List Matcher → List Label → Bool
  | [], _ => false
  | k :: _, l => evalB k l
def evalAny : List Matcher → List Label → Bool
  | [], _ => false
  | k :: ks, l => evalB k l || evalAny ks l
def evalAll : List Matcher → List Label → Bool
  | [], _ => true
  | k :: ks, l => evalB k l && evalAll ks l
end
theorem evalAny_iff (l : List Label) : ∀ ks : List Matcher, evalAny ks l = ks.any (fun k => evalB k l)
  | [] => rfl
  | k :: ks => by simp [evalAny, evalAny_iff l ks]
theorem evalAll_iff (l : List Label) : ∀ ks : List Matcher, evalAll ks l = ks.all (fun k => evalB k l)
  | [] => rfl
  | k :: ks => by simp [evalAll, evalAll_iff l ks]
theorem any_yes {α : Type} {p : α → Bool} {l : List α} {k : Nat} (hk : k < l.length) (h : p l[k] = true) : l.any p = true := List.any_eq_true.2 ⟨_, List.getElem_mem hk, h⟩
theorem any_no {α : Type} {p : α → Bool} {l : List α} (h : ∀ k, (hk : k < l.length) → p l[k] = false) : l.any p = false := by
  rw [List.any_eq_false]
  intro x hx
  obtain ⟨k, hk, rfl⟩ := List.mem_iff_getElem.1 hx
  rw [h k hk]; simp
theorem all_no {α : Type} {p : α → Bool} {l : List α} {k : Nat} (hk : k < l.length) (h : p l[k] = false) : l.all p = false := by
  rw [List.all_eq_false]
  exact ⟨_, List.getElem_mem hk, by rw [h]; simp⟩
theorem all_yes {α : Type} {p : α → Bool} {l : List α} (h : ∀ k, (hk : k < l.length) → p l[k] = true) : l.all p = true := by
  rw [List.all_eq_true]
  intro x hx
  obtain ⟨k, hk, rfl⟩ := List.mem_iff_getElem.1 hx
  exact h k hk
theorem C_hasPre (v p : ByteArray) (w : World) (hv : StrOk v) (hp : StrOk p) :
    Calls Tryz.prog 131 #[.string v, .string p] w fun e w' => e = .returned (.bool (hasPre v p)) ∧ w = w' := by
  unfold StrOk at hv hp
  have hcall : ∀ W, Calls Tryz.prog 135 #[.string v, .string p] W fun e w' => e = .returned (.bool (hasPre v p)) ∧ W = w' := fun W => by
    obtain ⟨r, hr⟩ : ∃ r, r = hasPre v p := ⟨_, rfl⟩
    rw [← hr]
    unfold hasPre at hr
    have HR := Lib.hid hr
    clear hr
    by_cases h : p.size ≤ v.size
    · have hd : decide (p.size ≤ v.size) = true := by rw [decide_eq_true_iff]; exact h
      have hi : (p.size : Int) ≤ (v.size : Int) := by omega
      go_enter Tryz.func135, Tryz.ntmps135
      go_wp2
      go_ret
      exact ⟨ret_b (by rw [HR.out, hd]; simp), rfl⟩
    · have hd : decide (p.size ≤ v.size) = false := by rw [decide_eq_false_iff_not]; exact h
      go_enter Tryz.func135, Tryz.ntmps135
      go_wp2
      go_ret
      exact ⟨ret_b (by rw [HR.out, hd]; simp), rfl⟩
  have HC := Lib.hid hcall
  clear hcall
  go_enter Tryz.func131, Tryz.ntmps131
  go_wp2_with fail
  refine (HC.out _).mono ?_
  rintro e w' ⟨rfl, rfl⟩
  go_wp2
  go_ret
  exact ⟨rfl, rfl⟩
end Go.Proofs.YtbefkiebdokbdaaGreat.V
end

section
/- match.eval, match.Eval: the walks. -/
namespace Go.Proofs.YtbefkiebdokbdaaGreat.V
open Go.RowKit
set_option linter.unusedVariables false
set_option maxRecDepth 100000

theorem labels_ok {ok : Nat → Prop} {w : World} {A : Option Addr} {l : List Label} (h : Sl ok w A l) : ∀ x ∈ l, StrOk x.value := by
  intro x hx
  obtain ⟨k, hk, rfl⟩ := List.mem_iff_getElem.1 hx
  obtain ⟨b, off, rfl, _, _, _, _, _, h2⟩ := h.label hk
  exact h2
def EvalC (N : Nat) : Prop := ∀ (m : Matcher) (d cap : Nat) (r : Bool) (ok ok' : Nat → Prop) (vs : List Value) (A : Option Addr) (l : List Label) (w : World), mNodes m ≤ N → r = evalB m l → mOk m d = true → MRep ok w vs m → Sl ok' w A l →
  Calls Tryz.prog 118 #[.agg vs.toArray, .slice A l.length cap] w fun e w' => e = .returned (.bool r) ∧ Below w.heap.size w w'
/-- What eval has in hand. -/
structure EI (w X : World) (M : List Value) : Prop where
  box : Blk X w.heap.size M 28
  below : Below w.heap.size w X
theorem EI.step {w X X' : World} {M : List Value} (h : EI w X M) (hb : Below X.heap.size X X') : EI w X' M := ⟨h.box.below hb, h.below.trans (hb.mono h.below.size)⟩

set_option maxHeartbeats 8000000 in
theorem C_eval : ∀ N, EvalC N := by
  intro N
  induction N with
  | zero => intro m d cap r ok ok' vs A l w hN; have := mNodes_pos m; omega
  | succ N ih =>
    intro m d cap r ok ok' vs A l w hN hr hok hM hl
    obtain ⟨A1, c1, A2, c2, rfl, hop, hnm, hva, hvs, hks, _, _⟩ := MRep.open_ hM
    obtain ⟨op, name, value, values, kids⟩ := m
    simp only [Matcher.op, Matcher.name, Matcher.value, Matcher.values, Matcher.kids] at hop hnm hva hvs hks ⊢
    have hkl := hks.1
    have hvl := hvs.1
    have hNK : mNodesL kids ≤ N := by unfold mNodes at hN; omega
    have hok2 : aloneB op name value values kids.length = true ∧ mOkL kids (d + 1) = true := by
      unfold mOk at hok; simp only [Bool.and_eq_true] at hok; exact ⟨hok.1.2, hok.2⟩
    obtain ⟨hal, hkok⟩ := hok2
    have hv : StrOk (lval l name) := lval_ok (labels_ok hl)
    have HKS := Lib.hid hks
    have HVS := Lib.hid hvs
    have HL := Lib.hid hl
    have HIH := Lib.hid ih
    have HKOK := Lib.hid hkok
    have hlv := fun W h => C_label_Value ok' A cap l name W h
    have HLV := Lib.hid hlv
    obtain ⟨v, hvd⟩ : ∃ v, v = lval l name := ⟨_, rfl⟩
    have hR0 : r = (if op = 0 then true else if op = 1 then v.toList == value.toList else if op = 2 then !(v.toList == value.toList) else if op = 3 then hasPre v value
        else if op = 4 then values.any (fun x => x.toList == v.toList) else if op = 7 then !evalK kids l else if op = 6 then evalAny kids l else evalAll kids l) := by rw [hr, hvd]; unfold evalB; rfl
    have HR := Lib.hid hR0
    have hcase : op = 0 ∨ op = 1 ∨ op = 2 ∨ op = 3 ∨ op = 4 ∨ (op = 5 ∨ op = 6) ∨ (op = 7 ∧ kids.length = 1) := by
      unfold aloneB at hal
      dsimp only at hal
      by_cases o0 : op = 0
      · exact .inl o0
      by_cases o1 : op = 1 ∨ op = 2 ∨ op = 3
      · omega
      by_cases o4 : op = 4
      · omega
      by_cases o5 : op = 5 ∨ op = 6
      · omega
      by_cases o7 : op = 7
      · rw [if_neg o0, if_neg o1, if_neg o4, if_neg o5, if_pos o7] at hal
        simp only [Bool.and_eq_true, beq_iff_eq] at hal
        omega
      · rw [if_neg o0, if_neg o1, if_neg o4, if_neg o5, if_neg o7] at hal
        cases hal
    rw [← hvd] at hv
    have HVD := Lib.hid hvd
    clear hM hks hvs hl ih hr hR0 hkok hlv hok hal hvd
    have hI0 : EI w (w.alloc (.cells (mL op name value A1 values.length c1 A2 kids.length c2).toArray 28)) (mL op name value A1 values.length c1 A2 kids.length c2) := ⟨Blk.new _ _ _, (Below.refl _ _).alloc (Nat.le_refl _) _⟩
    go_enter Tryz.func118, Tryz.ntmps118
    go_wp2_with fail
    refine (HLV.out _ (HL.out.below hI0.below)).mono ?_
    rintro e w1 ⟨rfl, hb1⟩
    rw [← HVD.out]
    have hI := hI0.step hb1
    have x0 := hI.box.c 0 rfl
    clear hI0 hb1 HLV HVD
    rcases hcase with rfl | rfl | rfl | rfl | rfl | ho | ⟨rfl, hk1⟩
    · have HR2 := Lib.hid (show r = true by rw [HR.out]; rfl)
      go_wp2
      go_ret
      exact ⟨ret_b HR2.out.symm, hI.below⟩
    · have x2 := hI.box.c 2 rfl
      have HR2 := Lib.hid (show r = (v.toList == value.toList) by rw [HR.out]; rfl)
      go_wp2
      go_ret
      exact ⟨ret_b HR2.out.symm, hI.below⟩
    · have x2 := hI.box.c 2 rfl
      have HR2 := Lib.hid (show r = (!(v.toList == value.toList)) by rw [HR.out]; rfl)
      go_wp2
      go_ret
      exact ⟨ret_b (by rw [HR2.out]), hI.below⟩
    · have x2 := hI.box.c 2 rfl
      have HR2 := Lib.hid (show r = hasPre v value by rw [HR.out]; rfl)
      go_wp2_with fail
      refine (C_hasPre v value _ hv hva).mono ?_
      rintro e w2 ⟨rfl, rfl⟩
      go_wp2
      go_ret
      exact ⟨ret_b HR2.out.symm, hI.below⟩
    · have x3 := hI.box.c 3 rfl
      have hR2 : r = values.any (fun x => x.toList == v.toList) := by rw [HR.out]; rfl
      have YES : ∀ k, (h : k < values.length) → (values[k].toList == v.toList) = true → r = true := fun k h he => by rw [hR2]; exact any_yes h he
      have NO : (∀ k, (h : k < values.length) → (values[k].toList == v.toList) = false) → r = false := fun h => by rw [hR2]; exact any_no h
      have HYES := Lib.hid YES
      have HNO := Lib.hid NO
      clear YES NO hR2
      go_wp2_with fail
      go_loop [7, 42] (fun _ i => ∃ k : Nat, k ≤ values.length ∧ i = .int .i64 k ∧ ∀ j, (h : j < values.length) → j < k → (values[j].toList == v.toList) = false) (fun _ i => values.length - (intOf i).toNat)
      case atStart => exact ⟨0, Nat.zero_le _, rfl, fun j h hj => by omega⟩
      case round =>
        obtain ⟨k, hk, rfl, hpre⟩ := hrel
        have HP := Lib.hid hpre
        clear hpre
        by_cases hlt : k < values.length
        · obtain ⟨bv, ov, rfl, _, _, hcv, _⟩ := (HVS.out.below hI.below).str hlt
          have hy := HYES.out k hlt
          have hp2 : (values[k].toList == v.toList) = false → ∀ j, (h : j < values.length) → j < k + 1 → (values[j].toList == v.toList) = false := fun he j hj hjk => by
            by_cases e : j = k
            · subst e; exact he
            · exact HP.out j hj (by omega)
          have HY := Lib.hid hy
          have HP2 := Lib.hid hp2
          clear hy hp2
          generalize values[k] = vk at *
          cases he : (vk.toList == v.toList)
          · have HN := Lib.hid (HP2.out he)
            go_wp2
            go_round
            case rel => exact ⟨k + 1, by omega, by go_num, HN.out⟩
            case measure => simp [intOf]; omega
          · have HN := Lib.hid (HY.out he)
            go_wp2
            go_ret
            exact ⟨ret_b HN.out.symm, hI.below⟩
        · have hkk : k = values.length := by omega
          have HN := Lib.hid (HNO.out (fun j hj => HP.out j hj (by omega)))
          clear hkk
          go_wp2
          go_ret
          exact ⟨ret_b HN.out.symm, hI.below⟩
    · rcases ho with rfl | rfl
      · have x4 := hI.box.c 4 rfl
        have hR2 : r = evalAll kids l := by rw [HR.out]; rfl
        have DEC : ∀ k, (h : k < kids.length) → evalB kids[k] l = false → r = false := fun k h he => by rw [hR2, evalAll_iff]; exact all_no h he
        have END : (∀ k, (h : k < kids.length) → evalB kids[k] l = true) → r = true := fun h => by rw [hR2, evalAll_iff]; exact all_yes h
        have HDEC := Lib.hid DEC
        have HEND := Lib.hid END
        have hMM : ∀ X, EI w X (mL 5 name value A1 values.length c1 A2 kids.length c2) → True := fun _ _ => trivial
        clear DEC END hR2 hMM
        go_wp2_with fail
        go_loopw [10, 65] (fun _ i wr => ∃ k : Nat, k ≤ kids.length ∧ i = .int .i64 k ∧ EI w wr (mL 5 name value A1 values.length c1 A2 kids.length c2) ∧ ∀ j, (h : j < kids.length) → j < k → evalB kids[j] l = true) (fun _ i _ => kids.length - (intOf i).toNat)
        case atStart => exact ⟨0, Nat.zero_le _, rfl, hI, fun j h hj => by omega⟩
        case round =>
          obtain ⟨k, hk, rfl, hI', hpre⟩ := hrel
          have HP := Lib.hid hpre
          clear hpre hI x0 x4
          by_cases hlt : k < kids.length
          · have hksl := HKS.out.below hI'.below
            obtain ⟨bk, ok_, A3, c3, A4, c4, rfl, _, _, z0, z1, z2, z3, z4, hmr⟩ := hksl.matcher hlt
            have hkN : mNodes kids[k] ≤ N := Nat.le_trans (mNodes_kid hlt) hNK
            have hkO : mOk kids[k] (d + 1) = true := by
              have := mOkL_split (d := d + 1) hlt
              rw [HKOK.out] at this
              cases h : mOk kids[k] (d + 1)
              · rw [h] at this; simp at this
              · rfl
            have hy := HDEC.out k hlt
            have hp2 : evalB kids[k] l = true → ∀ j, (h : j < kids.length) → j < k + 1 → evalB kids[j] l = true := fun he j hj hjk => by
              by_cases e : j = k
              · subst e; exact he
              · exact HP.out j hj (by omega)
            obtain ⟨q, hq⟩ : ∃ q, q = evalB kids[k] l := ⟨_, rfl⟩
            rw [← hq] at hy hp2
            have HQ := Lib.hid hq
            have HY := Lib.hid hy
            have HP2 := Lib.hid hp2
            clear hy hp2 hq hksl
            generalize kids[k] = kid at *
            have hba : Below wr.heap.size wr (wr.alloc (.cells (mL kid.op kid.name kid.value A3 kid.values.length c3 A4 kid.kids.length c4).toArray 28)) := (Below.refl _ _).alloc (Nat.le_refl _) _
            have hIa := hI'.step hba
            have hcall := HIH.out kid (d + 1) cap q _ _ _ A l _ hkN HQ.out hkO (hmr.keep (Keeps.of_below hba)) (HL.out.below hIa.below)
            have HCL := Lib.hid hcall
            clear hcall hba hI'
            go_wp2_with fail
            refine HCL.out.mono ?_
            rintro e w3 ⟨rfl, hb3⟩
            have hI3 := hIa.step hb3
            clear hIa z0 z1 z2 z3 z4 hb3 hmr HCL
            cases q
            · have HN := Lib.hid (HY.out rfl)
              go_wp2
              go_ret
              exact ⟨ret_b HN.out.symm, hI3.below⟩
            · have HN := Lib.hid (HP2.out rfl)
              go_wp2
              go_roundw
              case rel => exact ⟨k + 1, by omega, by go_num, hI3, HN.out⟩
              case measure => simp [intOf]; omega
          · have hkk : k = kids.length := by omega
            have HN := Lib.hid (HEND.out (fun j hj => HP.out j hj (by omega)))
            clear hkk
            go_wp2
            go_ret
            exact ⟨ret_b HN.out.symm, hI'.below⟩
      · have x4 := hI.box.c 4 rfl
        have hR2 : r = evalAny kids l := by rw [HR.out]; rfl
        have DEC : ∀ k, (h : k < kids.length) → evalB kids[k] l = true → r = true := fun k h he => by rw [hR2, evalAny_iff]; exact any_yes h he
        have END : (∀ k, (h : k < kids.length) → evalB kids[k] l = false) → r = false := fun h => by rw [hR2, evalAny_iff]; exact any_no h
        have HDEC := Lib.hid DEC
        have HEND := Lib.hid END
        have hMM : ∀ X, EI w X (mL 6 name value A1 values.length c1 A2 kids.length c2) → True := fun _ _ => trivial
        clear DEC END hR2 hMM
        go_wp2_with fail
        go_loopw [10, 65] (fun _ i wr => ∃ k : Nat, k ≤ kids.length ∧ i = .int .i64 k ∧ EI w wr (mL 6 name value A1 values.length c1 A2 kids.length c2) ∧ ∀ j, (h : j < kids.length) → j < k → evalB kids[j] l = false) (fun _ i _ => kids.length - (intOf i).toNat)
        case atStart => exact ⟨0, Nat.zero_le _, rfl, hI, fun j h hj => by omega⟩
        case round =>
          obtain ⟨k, hk, rfl, hI', hpre⟩ := hrel
          have HP := Lib.hid hpre
          clear hpre hI x0 x4
          by_cases hlt : k < kids.length
          · have hksl := HKS.out.below hI'.below
            obtain ⟨bk, ok_, A3, c3, A4, c4, rfl, _, _, z0, z1, z2, z3, z4, hmr⟩ := hksl.matcher hlt
            have hkN : mNodes kids[k] ≤ N := Nat.le_trans (mNodes_kid hlt) hNK
            have hkO : mOk kids[k] (d + 1) = true := by
              have := mOkL_split (d := d + 1) hlt
              rw [HKOK.out] at this
              cases h : mOk kids[k] (d + 1)
              · rw [h] at this; simp at this
              · rfl
            have hy := HDEC.out k hlt
            have hp2 : evalB kids[k] l = false → ∀ j, (h : j < kids.length) → j < k + 1 → evalB kids[j] l = false := fun he j hj hjk => by
              by_cases e : j = k
              · subst e; exact he
              · exact HP.out j hj (by omega)
            obtain ⟨q, hq⟩ : ∃ q, q = evalB kids[k] l := ⟨_, rfl⟩
            rw [← hq] at hy hp2
            have HQ := Lib.hid hq
            have HY := Lib.hid hy
            have HP2 := Lib.hid hp2
            clear hy hp2 hq hksl
            generalize kids[k] = kid at *
            have hba : Below wr.heap.size wr (wr.alloc (.cells (mL kid.op kid.name kid.value A3 kid.values.length c3 A4 kid.kids.length c4).toArray 28)) := (Below.refl _ _).alloc (Nat.le_refl _) _
            have hIa := hI'.step hba
            have hcall := HIH.out kid (d + 1) cap q _ _ _ A l _ hkN HQ.out hkO (hmr.keep (Keeps.of_below hba)) (HL.out.below hIa.below)
            have HCL := Lib.hid hcall
            clear hcall hba hI'
            go_wp2_with fail
            refine HCL.out.mono ?_
            rintro e w3 ⟨rfl, hb3⟩
            have hI3 := hIa.step hb3
            clear hIa z0 z1 z2 z3 z4 hb3 hmr HCL
            cases q
            · have HN := Lib.hid (HP2.out rfl)
              go_wp2
              go_roundw
              case rel => exact ⟨k + 1, by omega, by go_num, hI3, HN.out⟩
              case measure => simp [intOf]; omega
            · have HN := Lib.hid (HY.out rfl)
              go_wp2
              go_ret
              exact ⟨ret_b HN.out.symm, hI3.below⟩
          · have hkk : k = kids.length := by omega
            have HN := Lib.hid (HEND.out (fun j hj => HP.out j hj (by omega)))
            clear hkk
            go_wp2
            go_ret
            exact ⟨ret_b HN.out.symm, hI'.below⟩
    · have x4 := hI.box.c 4 rfl
      have hksl := HKS.out.below hI.below
      obtain ⟨bk, ok_, A3, c3, A4, c4, rfl, _, _, z0, z1, z2, z3, z4, hmr⟩ := hksl.matcher (k := 0) (by omega)
      have e0 : evalK kids l = evalB kids[0] l := by
        match kids, hk1 with
        | [x], _ => rfl
      have HR2 := Lib.hid (show r = !evalB kids[0] l by rw [HR.out]; simp [e0])
      have hkN : mNodes kids[0] ≤ N := Nat.le_trans (mNodes_kid (by omega)) hNK
      have hkO : mOk kids[0] (d + 1) = true := by
        have := mOkL_split (d := d + 1) (show 0 < kids.length by omega)
        rw [HKOK.out] at this
        simp only [List.take_zero] at this
        cases h : mOk kids[0] (d + 1)
        · rw [h] at this; simp at this
        · rfl
      rw [Nat.zero_mul, Nat.add_zero] at z0 z1 z2 z3 z4
      clear e0 hksl
      generalize kids[0] = kid at *
      go_wp2_with fail
      refine (HIH.out kid (d + 1) cap (evalB kid l) _ _ _ A l _ hkN rfl hkO hmr (HL.out.below hI.below)).mono ?_
      rintro e w2 ⟨rfl, hb2⟩
      have hfin := hI.below.trans (hb2.mono hI.below.size)
      generalize evalB kid l = q at *
      clear z0 z1 z2 z3 z4 x4 x0
      go_wp2
      go_ret
      exact ⟨ret_b HR2.out.symm, hfin⟩

/-- Does a matcher that may be mean a set? -/
noncomputable def meansB (m : Matcher) (l : List Label) : Bool := holdsB m 1 64 4096 && evalB m l
theorem holdsB_ok {m : Matcher} {d n b : Nat} (h : holdsB m d n b = true) : mOk m d = true := by unfold holdsB at h; simp only [Bool.and_eq_true] at h; exact h.1.1
theorem C_Eval (ok : Nat → Prop) (m : Matcher) (vs : List Value) (A : Option Addr) (cap : Nat) (l : List Label) (w : World) (hM : MRep (fun k => k < w.heap.size) w vs m) (hl : Sl ok w A l) :
    Calls Tryz.prog 94 #[.agg vs.toArray, .slice A l.length cap] w fun e w' => e = .returned (.bool (meansB m l)) ∧ Below w.heap.size w w' := by
  have hM0 := hM
  obtain ⟨A1, c1, A2, c2, rfl, _⟩ := MRep.open_ hM
  have hb : Below w.heap.size w (w.alloc (.cells (mL m.op m.name m.value A1 m.values.length c1 A2 m.kids.length c2).toArray 28)) := (Below.refl _ _).alloc (Nat.le_refl _) _
  have hB := Blk.new w (mL m.op m.name m.value A1 m.values.length c1 A2 m.kids.length c2) 28
  have hm1 := (hM0.keep (Keeps.of_below hb)).mono (ok' := fun k => k < (w.alloc (.cells (mL m.op m.name m.value A1 m.values.length c1 A2 m.kids.length c2).toArray 28)).heap.size) (fun k _ h => Nat.lt_of_lt_of_le h hb.size)
  obtain ⟨r, hr⟩ : ∃ r, r = meansB m l := ⟨_, rfl⟩
  rw [← hr]
  have HR := Lib.hid hr
  clear hr
  go_enter Tryz.func94, Tryz.ntmps94
  go_wp2_with fail
  refine (C_match_Check _ m _ _ (fun k h => h) hm1).mono ?_
  rintro e w1 ⟨rfl, hb1⟩
  have hb2 := hb.trans (hb1.mono hb.size)
  have hB1 := hB.below hb1
  have x0 := hB1.c 0 rfl
  have x1 := hB1.c 1 rfl
  have x2 := hB1.c 2 rfl
  have x3 := hB1.c 3 rfl
  have x4 := hB1.c 4 rfl
  clear hB hB1 hm1
  cases hh : holdsB m 1 64 4096
  · have HN := Lib.hid (show r = false by rw [HR.out]; unfold meansB; rw [hh]; rfl)
    clear hh
    go_wp2
    go_ret
    exact ⟨ret_b HN.out.symm, hb2⟩
  · have HN := Lib.hid (show r = evalB m l by rw [HR.out]; unfold meansB; rw [hh]; rfl)
    have hok := holdsB_ok hh
    clear hh
    go_wp2_with fail
    refine (C_eval _ m 1 cap r _ _ _ A l _ (Nat.le_refl _) HN.out hok (hM0.keep (Keeps.of_below hb2)) (hl.below hb2)).mono ?_
    rintro e w2 ⟨rfl, hb3⟩
    go_wp2
    go_ret
    exact ⟨rfl, hb2.trans (hb3.mono hb2.size)⟩
end Go.Proofs.YtbefkiebdokbdaaGreat.V
end

section
/- query.Meant for every matcher. -/
namespace Go.Proofs.YtbefkiebdokbdaaGreat.V
open Go.RowKit
set_option linter.unusedVariables false
set_option maxRecDepth 100000

/-- A row that may be, and that a matcher means. -/
noncomputable def mayM (m : Matcher) (r : Row) : Bool := mayB r && meansB m r.labels
set_option maxHeartbeats 4000000 in
theorem C_MeantG (m : Matcher) (vs : List Value) (A : Option Addr) (cap : Nat) (xs : List Row) (w : World) (hr : Sl (fun k => k < w.heap.size) w A xs) (hl : xs.length ≤ 1048576) (hM : MRep (fun k => k < w.heap.size) w vs m) :
    Calls Tryz.prog 58 #[.agg vs.toArray, .slice A xs.length cap] w fun e w' => ∃ v, e = .returned v ∧ Own w' w.heap.size 67 v (xs.filter (mayM m)) ∧ Below w.heap.size w w' := by
  have hM0 := hM
  obtain ⟨M1, d1, M2, d2, rfl, _⟩ := MRep.open_ hM
  have HMR := Lib.hid hM0
  have hlen := hr.1
  clear hM hM0
  go_enter Tryz.func58, Tryz.ntmps58
  go_wp2_with fail
  have hB := Blk.new w (mL m.op m.name m.value M1 m.values.length d1 M2 m.kids.length d2) 28
  have hb : Below w.heap.size w (w.alloc (.cells (mL m.op m.name m.value M1 m.values.length d1 M2 m.kids.length d2).toArray 28)) := (Below.refl _ _).alloc (Nat.le_refl _) _
  generalize w.alloc (.cells (mL m.op m.name m.value M1 m.values.length d1 M2 m.kids.length d2).toArray 28) = W at hB hb ⊢
  go_step3
  go_wp2_with fail
  go_step3
  go_wp2_with fail
  go_loopw [5, 7, 10] (fun v _ i wr => ∃ (k : Nat), k ≤ xs.length ∧ i = .int .i64 k ∧ Own wr (w.heap.size + 1) 67 v ((xs.take k).filter (mayM m)) ∧ Below w.heap.size w wr ∧ Blk wr w.heap.size (mL m.op m.name m.value M1 m.values.length d1 M2 m.kids.length d2) 28) (fun _ _ i _ => xs.length - (intOf i).toNat)
  case atStart => exact ⟨0, Nat.zero_le _, rfl, Own.nil _ _ _, hb, hB⟩
  case round =>
    clear hB hb
    obtain ⟨k, hk, rfl, hown, hbl, hB⟩ := hrel
    by_cases hlt : k < xs.length
    · obtain ⟨b, off, A0, c0, A1, c1, A2, c2, rfl, hob, hlb, y0, y1, y2, y3, y4, y5, y6, y7, s0, hi, s1, s2, hg, m0, m1, m2⟩ := (hr.below hbl).row hlt
      have htk : xs.take (k + 1) = xs.take k ++ [xs[k]] := List.take_succ_eq_append_getElem hlt
      have hle : ((xs.take k).filter (mayM m)).length ≤ k := by
        have := List.length_filter_le (mayM m) (xs.take k); simp at this; omega
      have hfl : (xs.take (k + 1)).filter (mayM m) = (xs.take k).filter (mayM m) ++ (if mayM m xs[k] = true then [xs[k]] else []) := by
        rw [htk, List.filter_append]; simp only [List.filter_cons, List.filter_nil]
      have HT := Lib.hid hfl
      clear htk hfl
      generalize (xs.take k).filter (mayM m) = pre at *
      generalize xs[k] = r at *
      go_wp2_with fail
      obtain ⟨W, hW⟩ : ∃ W, W = wr.alloc (.cells (rowL A0 c0 A1 c1 A2 c2 r).toArray 67) := ⟨_, rfl⟩
      have hbW : Below wr.heap.size wr W := hW ▸ (Below.refl _ _).alloc (Nat.le_refl _) _
      have hBW : Blk W wr.heap.size (rowL A0 c0 A1 c1 A2 c2 r) 67 := hW ▸ Blk.new _ _ _
      rw [← hW]
      clear hW y0 y1 y2 y3 y4 y5 y6 y7
      have hws := hbl.size
      have hwz := hbW.size
      refine (C_rows_May _ A0 c0 A1 c1 A2 c2 r _ (s0.below hbW) (s1.below hbW) (s2.below hbW) hg).mono ?_
      rintro e w1 ⟨rfl, hb1⟩
      have hb2 : Below w.heap.size w w1 := (hbl.trans (hbW.mono hws)).trans (hb1.mono (by omega))
      have hz1 := hb1.size
      have hB1 := (hB.below hbW).below hb1
      have hBr := hBW.below hb1
      have t0 := (s0.below hbW).below hb1
      have t1 := (s1.below hbW).below hb1
      have t2 := (s2.below hbW).below hb1
      have hown1 := (hown.below hbW).below hb1
      have hub : ∀ j, u5.ownBlock = some j → w.heap.size + 1 ≤ j ∧ j < wr.heap.size := fun j hj => by obtain ⟨cs, _, ho'⟩ := hown; exact ho'.lt j hj
      clear hown hbl hb1 hbW hBW hB s0 s1 s2
      have emb : mayB r = (tr (LabelsP r.labels) && pCheck r.s) := rfl
      rw [← emb]
      have z0 := hB1.c 0 rfl
      have z1 := hB1.c 1 rfl
      have z2 := hB1.c 2 rfl
      have z3 := hB1.c 3 rfl
      have z4 := hB1.c 4 rfl
      have x0 := hBr.c 0 rfl
      clear emb
      cases hm : mayB r
      · have HM := Lib.hid hm
        clear hm
        go_wp2
        go_roundw
        case rel => exact ⟨k + 1, by omega, by go_num, by rw [HT.out, show mayM m r = false by unfold mayM; rw [HM.out]; rfl]; simpa using hown1, hb2, hB1⟩
        case measure => simp [intOf]; omega
      · have HM := Lib.hid hm
        clear hm
        go_wp2_with fail
        have hq : mayM m r = meansB m r.labels := by unfold mayM; rw [HM.out]; rfl
        have HQ := Lib.hid hq
        clear hq
        refine (C_Eval _ m _ A0 c0 r.labels w1 ((HMR.out.keep (Keeps.of_below hb2)).mono (fun k _ h => Nat.lt_of_lt_of_le h hb2.size)) t0).mono ?_
        rintro e w2 ⟨rfl, hbe⟩
        generalize meansB m r.labels = qq at *
        have hB2 := hB1.below hbe
        have hBr2 := hBr.below hbe
        have q0 := hBr2.c 0 rfl
        have q1 := hBr2.c 1 rfl
        have q2 := hBr2.c 2 rfl
        have q3 := hBr2.c 3 rfl
        have q4 := hBr2.c 4 rfl
        have q5 := hBr2.c 5 rfl
        have q6 := hBr2.c 6 rfl
        have q7 := hBr2.c 7 rfl
        have hown2 := hown1.below hbe
        have hb3 := hb2.trans (hbe.mono hb2.size)
        have hz2 := hbe.size
        have hrow1 : Rep.rep (fun k => k < w2.heap.size ∧ some k ≠ u5.ownBlock) w2 (rowL A0 c0 A1 c1 A2 c2 r) r := by
          have hf : ∀ k, k < w2.heap.size → k < w.heap.size → (k < w2.heap.size ∧ some k ≠ u5.ownBlock) := fun k h1 h2 => ⟨h1, fun e => by have := (hub k e.symm).1; omega⟩
          exact ⟨A0, c0, A1, c1, A2, c2, rfl, (t0.below hbe).mono hf, hi, (t1.below hbe).mono hf, (t2.below hbe).mono hf, hg, m0, m1, m2⟩
        cases qq
        · clear z0 z1 z2 z3 z4 x0 hBr2 hBr hown1 hb2 hbe hB1 t0 t1 t2 hrow1
          go_wp2
          go_roundw
          case rel => exact ⟨k + 1, by omega, by go_num, by rw [HT.out, HQ.out]; simpa using hown2, hb3, hB2⟩
          case measure => simp [intOf]; omega
        · have hA1 : pre.length + 1 ≤ 9223372036854775807 := by omega
          have hA2 : (pre.length + 1) * 112 ≤ 140737488355328 := by omega
          have hA3 : w.heap.size + 1 ≤ w2.heap.size := by have := hB2.lt; omega
          clear z0 z1 z2 z3 z4 x0 hBr2 hBr hown1 hb2 hbe hB1 t0 t1 t2
          go_wp2_with (at_builtin; refine wpOwn_append1 (rowL A0 c0 A1 c1 A2 c2 r) r rfl _ _ 51 67 67 112 (w.heap.size + 1) rfl rfl el_Row rfl hown2 rfl hrow1 hA1 hA2 hA3 ?_)
          intro v' w3 ho2 hg2 hat2
          go_wp2
          go_roundw
          case rel => exact ⟨k + 1, by omega, by go_num, by rw [HT.out, HQ.out]; simpa using ho2, hb3.grown hg2 hb3.size (fun j hj => by have := hub j hj; omega), hB2.frm (Frm.of_grown' hg2) (fun e => by have := hub _ e; omega)⟩
          case measure => simp [intOf]; omega
    · have hkk : k = xs.length := by omega
      rw [hkk, List.take_length] at hown
      go_wp2
      rw [Exit.noGoto_ret]
      go_ret
      exact ⟨_, rfl, hown.lower (by omega), hbl⟩
end Go.Proofs.YtbefkiebdokbdaaGreat.V
end
