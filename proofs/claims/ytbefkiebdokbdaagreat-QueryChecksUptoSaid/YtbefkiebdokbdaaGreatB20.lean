/- Part 20 of the proof: Mat, Mat2, Mat3, Tiny, Ref12, Ref12b. -/
import Derived.WalkLawsBesides
import Derived.BigGuardPart
import Derived.Deep.DeepCutAuto
import Derived.StillTailTactics
import Derived.Test.YtbefkiebdokbdaaGreatB18
import Derived.Test.YtbefkiebdokbdaaGreatB19

section
/- Contracts of package match for every matcher: values, alone. -/
namespace Go.Proofs.YtbefkiebdokbdaaGreat.V
open Go.RowKit
set_option linter.unusedVariables false
set_option maxRecDepth 100000

theorem Sl.str {ok : Nat → Prop} {w : World} {A : Option Addr} {xs : List ByteArray} (h : Sl ok w A xs) {k : Nat} (hk : k < xs.length) :
    ∃ b off, A = some ⟨b, off, none⟩ ∧ ok b ∧ b < w.heap.size ∧ w.cell? ⟨b, off + k, none⟩ = some (.string xs[k]) ∧ StrOk xs[k] := by
  obtain ⟨b, off, vs, rfl, hv, hc⟩ := h.at_ hk
  obtain ⟨rfl, h1⟩ := hv
  have e : Rep.sz ByteArray = 1 := rfl
  rw [e, Nat.mul_one] at hc
  exact ⟨b, off, rfl, hc.1, hc.2.1, hc.c0, h1⟩
/-- May the value at place k be, behind its fore-runner? -/
def valB (xs : List ByteArray) (k : Nat) : Bool := decide ((xs.getD k ⟨#[]⟩).size ≤ 64) && (k == 0 || !strLe (xs.getD k ⟨#[]⟩) (xs.getD (k - 1) ⟨#[]⟩))
def valsB (xs : List ByteArray) : Bool := decide (1 ≤ xs.length) && decide (xs.length ≤ 16) && (List.range xs.length).all (valB xs)
theorem all_lt_no {p : Nat → Bool} {n k : Nat} (hk : k < n) (h : p k = false) : (List.range n).all p = false := by
  rw [List.all_eq_false]
  exact ⟨k, List.mem_range.2 hk, by rw [h]; simp⟩
theorem all_lt_yes {p : Nat → Bool} {n : Nat} (h : ∀ k, k < n → p k = true) : (List.range n).all p = true := by
  rw [List.all_eq_true]
  exact fun k hk => h k (List.mem_range.1 hk)

set_option maxHeartbeats 2000000 in
theorem C_values (ok : Nat → Prop) (A : Option Addr) (cap : Nat) (xs : List ByteArray) (w : World) (hr : Sl ok w A xs) :
    Calls Tryz.prog 125 #[.slice A xs.length cap] w fun e w' => e = .returned (.bool (valsB xs)) ∧ w = w' := by
  have hlen := hr.1
  by_cases h1 : xs.length < 1
  · have hv : valsB xs = false := by unfold valsB; simp; omega
    have HV := Lib.hid hv
    clear hv
    go_enter Tryz.func125, Tryz.ntmps125
    go_wp2
    all_goals
      go_ret
      exact ⟨ret_b HV.out.symm, rfl⟩
  by_cases h2 : 16 < xs.length
  · have hv : valsB xs = false := by unfold valsB; simp; omega
    have HV := Lib.hid hv
    clear hv
    go_enter Tryz.func125, Tryz.ntmps125
    go_wp2
    all_goals
      go_ret
      exact ⟨ret_b HV.out.symm, rfl⟩
  have NO : ∀ k, k < xs.length → valB xs k = false → valsB xs = false := fun k hk h => by unfold valsB; rw [all_lt_no hk h]; simp
  have YES : (∀ k, k < xs.length → valB xs k = true) → valsB xs = true := fun h => by unfold valsB; rw [all_lt_yes h]; simp; omega
  have HNO := Lib.hid NO
  have HYES := Lib.hid YES
  clear NO YES
  generalize valsB xs = res at *
  have g1 : decide ((xs.length : Int) < 1) = false := by simp; omega
  have g2 : decide ((16 : Int) < (xs.length : Int)) = false := by simp; omega
  go_enter Tryz.func125, Tryz.ntmps125
  go_wp2_with fail
  go_loop [3, 4, 15] (fun _ _ i => ∃ k : Nat, k ≤ xs.length ∧ i = .int .i64 k ∧ ∀ j, j < k → valB xs j = true) (fun _ _ i => xs.length - (intOf i).toNat)
  case atStart => exact ⟨0, Nat.zero_le _, rfl, fun j hj => by omega⟩
  case round =>
    obtain ⟨k, hk, rfl, hpre⟩ := hrel
    have HP := Lib.hid hpre
    clear hpre
    by_cases hlt : k < xs.length
    · obtain ⟨b, off, rfl, hob, hlb, hc, hso⟩ := hr.str hlt
      have hd : xs.getD k ⟨#[]⟩ = xs[k] := by simp [List.getD, hlt]
      have hvk : valB xs k = (decide (xs[k].size ≤ 64) && (k == 0 || !strLe xs[k] (xs.getD (k - 1) ⟨#[]⟩))) := by unfold valB; rw [hd]
      have HVK := Lib.hid hvk
      clear hvk hd
      generalize xs[k] = x at *
      by_cases h3 : 64 < x.size
      · have HF := Lib.hid (HNO.out k hlt (by rw [HVK.out]; simp; omega))
        have hd1 : decide ((64 : Int) < (x.size : Int)) = true := by simp; omega
        clear HNO HYES HP HVK
        go_wp2
        go_ret
        exact ⟨ret_b HF.out.symm, rfl⟩
      · have hd1 : decide ((64 : Int) < (x.size : Int)) = false := by simp; omega
        by_cases h4 : k = 0
        · have HS := Lib.hid (show valB xs k = true by rw [HVK.out, h4]; simp; omega)
          subst h4
          rw [Nat.add_zero] at hc
          have hd3 : decide ((0 : Int) < ((0 : Nat) : Int)) = false := by simp
          clear HNO HVK
          go_wp2
          go_round
          case rel => exact ⟨1, by omega, by go_num, fun j hj => by
            obtain rfl : j = 0 := by omega
            exact HS.out⟩
          case measure => simp [intOf]; omega
        · obtain ⟨b', off', e', _, _, hc', _⟩ := hr.str (k := k - 1) (by omega)
          cases e'
          have hd' : xs.getD (k - 1) ⟨#[]⟩ = xs[k - 1] := by simp [List.getD, (show k - 1 < xs.length by omega)]
          rw [hd'] at HVK
          have hk1 : (0 : Int) < (k : Int) := by omega
          have hd3 : decide ((0 : Int) < (k : Int)) = true := by simp; omega
          have hs : IntKind.i64.wrap ((k : Int) - 1) = (k : Int) - 1 := IntWalk.i64_in _ (by omega)
          have hs1 : (0 : Int) ≤ (k : Int) - 1 := by omega
          have hs2 : ((k : Int) - 1).toNat = k - 1 := by omega
          have hs3 : (k : Int) - 1 < (xs.length : Int) := by omega
          have hk0 : (k == 0) = false := by simp; omega
          have hkN : 0 < k := by omega
          have hkD : decide (0 < k) = true := by simp; omega
          clear hd'
          generalize xs[k - 1] = pn at *
          cases hLe : strLe x pn
          · have HS := Lib.hid (show valB xs k = true by rw [HVK.out, hk0, hLe]; simp; omega)
            clear HNO HVK hk0
            unfold strLe at hLe
            rw [Bool.or_eq_false_iff] at hLe
            obtain ⟨hl1, hl2⟩ := hLe
            go_wp2
            go_round
            case rel => exact ⟨k + 1, by omega, by go_num, fun j hj => by
              by_cases e : j = k
              · rw [e]; exact HS.out
              · exact HP.out j (by omega)⟩
            case measure => simp [intOf]; omega
          · have HF := Lib.hid (HNO.out k hlt (by rw [HVK.out, hk0, hLe]; simp))
            clear HNO HYES HP HVK hk0
            unfold strLe at hLe
            rw [Bool.or_eq_true] at hLe
            rcases hLe with hLe | hLe
            · go_wp2
              go_ret
              exact ⟨ret_b HF.out.symm, rfl⟩
            · go_wp2
              go_ret
              exact ⟨ret_b HF.out.symm, rfl⟩
    · have hkk : k = xs.length := by omega
      have HR := Lib.hid (HYES.out (fun j hj => HP.out j (by omega)))
      clear HNO HYES HP
      go_wp2
      go_ret
      exact ⟨ret_b HR.out.symm, rfl⟩

/-- May a matcher be, whatever its kids are? (nk: how many.) -/
noncomputable def aloneB (op : Int) (name value : ByteArray) (values : List ByteArray) (nk : Nat) : Bool :=
  let named := tr (NameP name) && decide (value.size ≤ 64) && (nk == 0)
  let plain := name.toList.isEmpty && value.toList.isEmpty && (values.length == 0)
  if op = 0 then plain && (nk == 0) else if op = 1 ∨ op = 2 ∨ op = 3 then named && (values.length == 0) else if op = 4 then named && value.toList.isEmpty && valsB values
  else if op = 5 ∨ op = 6 then plain else if op = 7 then plain && (nk == 1) else false
/-- The same in the walk's own words. -/
def aloneW (op : Int) (tn nE vE vv : Bool) (vs n1 n2 : Int) : Bool :=
  bif op == 0 then nE && (vE && (decide (n1 = 0) && (n2 == 0))) else bif op == 1 then tn && (decide (vs ≤ 64) && (decide (n2 = 0) && (n1 == 0))) else bif op == 2 then tn && (decide (vs ≤ 64) && (decide (n2 = 0) && (n1 == 0))) else bif op == 3 then tn && (decide (vs ≤ 64) && (decide (n2 = 0) && (n1 == 0)))
  else bif op == 4 then tn && (decide (vs ≤ 64) && (decide (n2 = 0) && (vE && vv))) else bif op == 5 then nE && (vE && (n1 == 0)) else bif op == 6 then nE && (vE && (n1 == 0)) else bif op == 7 then nE && (vE && (decide (n1 = 0) && (n2 == 1))) else false
theorem aloneB_w (op : Int) (name value : ByteArray) (values : List ByteArray) (n2 : Nat) : aloneB op name value values n2 = aloneW op (tr (NameP name)) name.toList.isEmpty value.toList.isEmpty (valsB values) value.size values.length n2 := by
  have e0 : ∀ n : Nat, ((n : Int) == 0) = (n == 0) := fun n => by rw [Bool.eq_iff_iff]; simp
  have e1 : ∀ n : Nat, ((n : Int) == 1) = (n == 1) := fun n => by rw [Bool.eq_iff_iff]; simp; omega
  have e2 : ∀ n : Nat, decide ((n : Int) = 0) = (n == 0) := fun n => by rw [Bool.eq_iff_iff]; simp
  have e3 : decide ((value.size : Int) ≤ 64) = decide (value.size ≤ 64) := by rw [Bool.eq_iff_iff]; simp; omega
  unfold aloneB aloneW
  simp only [e0, e1, e2, e3]
  generalize (values.length == 0) = l0
  generalize (n2 == 0) = k0
  generalize (n2 == 1) = k1
  generalize decide (value.size ≤ 64) = v64
  generalize tr (NameP name) = t
  generalize name.toList.isEmpty = ne
  generalize value.toList.isEmpty = ve
  generalize valsB values = vv
  have b : ∀ i : Int, (op == i) = decide (op = i) := fun i => by rw [Bool.eq_iff_iff]; simp
  simp only [b]
  by_cases h0 : op = 0
  · subst h0; cases ne <;> cases ve <;> cases l0 <;> cases k0 <;> rfl
  by_cases h1 : op = 1
  · subst h1; cases t <;> cases v64 <;> cases l0 <;> cases k0 <;> rfl
  by_cases h2 : op = 2
  · subst h2; cases t <;> cases v64 <;> cases l0 <;> cases k0 <;> rfl
  by_cases h3 : op = 3
  · subst h3; cases t <;> cases v64 <;> cases l0 <;> cases k0 <;> rfl
  by_cases h4 : op = 4
  · subst h4; cases t <;> cases v64 <;> cases ve <;> cases k0 <;> cases vv <;> rfl
  by_cases h5 : op = 5
  · subst h5; cases ne <;> cases ve <;> cases l0 <;> rfl
  by_cases h6 : op = 6
  · subst h6; cases ne <;> cases ve <;> cases l0 <;> rfl
  by_cases h7 : op = 7
  · subst h7; cases ne <;> cases ve <;> cases l0 <;> cases k1 <;> rfl
  simp [h0, h1, h2, h3, h4, h5, h6, h7]
@[reducible] def mL (op : Int) (name value : ByteArray) (A1 : Option Addr) (n1 c1 : Nat) (A2 : Option Addr) (n2 c2 : Nat) : List Value := [.int .i64 op, .string name, .string value, .slice A1 n1 c1, .slice A2 n2 c2]

set_option maxHeartbeats 4000000 in
theorem C_alone (ok : Nat → Prop) (op : Int) (name value : ByteArray) (values : List ByteArray) (A1 : Option Addr) (c1 : Nat) (A2 : Option Addr) (n2 c2 : Nat) (w : World) (hr : Sl ok w A1 values) (hn : StrOk name) (hv : StrOk value) :
    Calls Tryz.prog 103 #[.agg (mL op name value A1 values.length c1 A2 n2 c2).toArray] w fun e w' => e = .returned (.bool (aloneB op name value values n2)) ∧ Below w.heap.size w w' := by
  have hname : ∀ w, Calls Tryz.prog 124 #[.string name] w fun e w' => e = .returned (.bool (tr (NameP name))) ∧ w = w' := fun w => C_label_Name name w hn
  have HN := Lib.hid hname
  clear hname
  have hvals : ∀ o : Obj, Calls Tryz.prog 125 #[.slice A1 values.length c1] (w.alloc o) fun e w' => e = .returned (.bool (valsB values)) ∧ w.alloc o = w' := fun o => C_values ok A1 c1 values _ (hr.below ((Below.refl _ _).alloc (Nat.le_refl _) o))
  have HV := Lib.hid hvals
  clear hvals
  generalize htn : tr (NameP name) = tn at *
  have HTN := Lib.hid htn
  clear htn
  go_enter Tryz.func103, Tryz.ntmps103
  go_wp2_with (first | (go_at_call 124; refine (HN.out _).mono ?_; rintro e w' ⟨rfl, rfl⟩) | (go_at_call 125; refine (HV.out _).mono ?_; rintro e w' ⟨rfl, rfl⟩))
  all_goals
    go_ret
    refine ⟨ret_b ?_, (Below.refl _ _).alloc (Nat.le_refl _) _⟩
    rw [aloneB_w, HTN.out]
    clear HN HV HTN hr hn hv
    first
      | (simp only [aloneW, *, cond_true, cond_false, Bool.true_or, Bool.or_true, Bool.false_or, Bool.or_false, Bool.true_and, Bool.and_true, Bool.false_and, Bool.and_false, decide_true, decide_false, beq_self_eq_true]; done)
      | (have hx : ¬ ((value.size : Int) ≤ 64) := by omega
         simp only [aloneW, *, cond_true, cond_false, Bool.true_or, Bool.or_true, Bool.false_or, Bool.or_false, Bool.true_and, Bool.and_true, Bool.false_and, Bool.and_false, decide_true, decide_false, beq_self_eq_true]; done)
end Go.Proofs.YtbefkiebdokbdaaGreat.V
end

section
/- match.Check for every matcher. -/
namespace Go.Proofs.YtbefkiebdokbdaaGreat.V
open Go.RowKit
set_option linter.unusedVariables false
set_option maxRecDepth 100000

mutual
/-- May a matcher be, so deep? -/
noncomputable def mOk : Matcher → Nat → Bool
  | .mk op name value values kids, d => decide (d ≤ 8) && aloneB op name value values kids.length && mOkL kids (d + 1)
noncomputable def mOkL : List Matcher → Nat → Bool
  | [], _ => true
  | k :: ks, d => mOk k d && mOkL ks d
end
mutual
def mNodes : Matcher → Nat
  | .mk _ _ _ _ kids => 1 + mNodesL kids
def mNodesL : List Matcher → Nat
  | [] => 0
  | k :: ks => mNodes k + mNodesL ks
end
def vBytes : List ByteArray → Nat
  | [] => 0
  | v :: vs => v.size + vBytes vs
mutual
def mBytes : Matcher → Nat
  | .mk _ name value values kids => name.size + value.size + vBytes values + mBytesL kids
def mBytesL : List Matcher → Nat
  | [] => 0
  | k :: ks => mBytes k + mBytesL ks
end
theorem mOkL_append (d : Nat) : ∀ a b : List Matcher, mOkL (a ++ b) d = (mOkL a d && mOkL b d)
  | [], b => by simp [mOkL]
  | x :: a, b => by simp [mOkL, mOkL_append d a b, Bool.and_assoc]
theorem mNodesL_append : ∀ a b : List Matcher, mNodesL (a ++ b) = mNodesL a + mNodesL b
  | [], b => by simp [mNodesL]
  | x :: a, b => by simp [mNodesL, mNodesL_append a b, Nat.add_assoc]
theorem mBytesL_append : ∀ a b : List Matcher, mBytesL (a ++ b) = mBytesL a + mBytesL b
  | [], b => by simp [mBytesL]
  | x :: a, b => by simp [mBytesL, mBytesL_append a b, Nat.add_assoc]
theorem vBytes_append : ∀ a b : List ByteArray, vBytes (a ++ b) = vBytes a + vBytes b
  | [], b => by simp [vBytes]
  | x :: a, b => by simp [vBytes, vBytes_append a b, Nat.add_assoc]
theorem mOkL_snoc {l : List Matcher} {k d : Nat} (hk : k < l.length) : mOkL (l.take (k + 1)) d = (mOkL (l.take k) d && mOk l[k] d) := by
  rw [List.take_succ_eq_append_getElem hk, mOkL_append]; simp [mOkL]
theorem mNodesL_snoc {l : List Matcher} {k : Nat} (hk : k < l.length) : mNodesL (l.take (k + 1)) = mNodesL (l.take k) + mNodes l[k] := by
  rw [List.take_succ_eq_append_getElem hk, mNodesL_append]; simp [mNodesL]
theorem mBytesL_snoc {l : List Matcher} {k : Nat} (hk : k < l.length) : mBytesL (l.take (k + 1)) = mBytesL (l.take k) + mBytes l[k] := by
  rw [List.take_succ_eq_append_getElem hk, mBytesL_append]; simp [mBytesL]
theorem vBytes_snoc {l : List ByteArray} {k : Nat} (hk : k < l.length) : vBytes (l.take (k + 1)) = vBytes (l.take k) + l[k].size := by
  rw [List.take_succ_eq_append_getElem hk, vBytes_append]; simp [vBytes]
/-- Of all kids, if of one. -/
theorem mOkL_split {l : List Matcher} {k d : Nat} (hk : k < l.length) : mOkL l d = (mOkL (l.take k) d && mOk l[k] d && mOkL (l.drop (k + 1)) d) := by
  conv => lhs; rw [← List.take_append_drop (k + 1) l]
  rw [mOkL_append, mOkL_snoc hk]
theorem mNodesL_split {l : List Matcher} {k : Nat} (hk : k < l.length) : mNodesL l = mNodesL (l.take k) + mNodes l[k] + mNodesL (l.drop (k + 1)) := by
  conv => lhs; rw [← List.take_append_drop (k + 1) l]
  rw [mNodesL_append, mNodesL_snoc hk]
theorem mBytesL_split {l : List Matcher} {k : Nat} (hk : k < l.length) : mBytesL l = mBytesL (l.take k) + mBytes l[k] + mBytesL (l.drop (k + 1)) := by
  conv => lhs; rw [← List.take_append_drop (k + 1) l]
  rw [mBytesL_append, mBytesL_snoc hk]
theorem mNodes_pos (m : Matcher) : 1 ≤ mNodes m := by cases m; unfold mNodes; omega
theorem mNodes_kid {l : List Matcher} {k : Nat} (hk : k < l.length) : mNodes l[k] ≤ mNodesL l := by rw [mNodesL_split hk]; omega
theorem vBytes_le {n : Nat} : ∀ {l : List ByteArray}, (∀ v ∈ l, v.size ≤ n) → vBytes l ≤ l.length * n
  | [], _ => by simp [vBytes]
  | v :: l, h => by
    have h1 := h v (by simp)
    have h2 := vBytes_le (l := l) (fun x hx => h x (by simp [hx]))
    simp only [vBytes, List.length_cons, Nat.add_mul]
    omega
theorem valsB_ok {l : List ByteArray} (h : valsB l = true) : l.length ≤ 16 ∧ ∀ v ∈ l, v.size ≤ 64 := by
  unfold valsB at h
  rw [Bool.and_eq_true, Bool.and_eq_true] at h
  obtain ⟨⟨_, h2⟩, h3⟩ := h
  refine ⟨by simpa using h2, fun v hv => ?_⟩
  obtain ⟨k, hk, rfl⟩ := List.mem_iff_getElem.1 hv
  have := List.all_eq_true.1 h3 k (List.mem_range.2 hk)
  unfold valB at this
  rw [Bool.and_eq_true] at this
  have h4 := this.1
  simp only [List.getD, List.getElem?_eq_getElem hk, Option.getD_some] at h4
  simpa using h4
theorem isEmpty_size {s : ByteArray} (h : s.toList.isEmpty = true) : s.size = 0 := by
  have h1 : s.toList = [] := List.isEmpty_iff.1 h
  have h2 : s.toList.length = s.size := by rw [Lib.toList_data]; rfl
  rw [h1] at h2
  simpa using h2.symm
theorem aloneB_ok {op : Int} {name value : ByteArray} {values : List ByteArray} {nk : Nat} (h : aloneB op name value values nk = true) : name.size ≤ 32 ∧ value.size ≤ 64 ∧ values.length ≤ 16 ∧ ∀ v ∈ values, v.size ≤ 64 := by
  have hN : ∀ {s : ByteArray}, tr (NameP s) = true → s.size ≤ 32 := fun h => (tr_iff.1 h).2.1
  unfold aloneB at h
  dsimp only at h
  split at h
  · simp only [Bool.and_eq_true, decide_eq_true_eq, beq_iff_eq, List.length_eq_zero_iff] at h
    obtain ⟨⟨⟨h1, h2⟩, rfl⟩, _⟩ := h
    have h1 := isEmpty_size h1
    have h2 := isEmpty_size h2
    exact ⟨by omega, by omega, by simp, fun v hv => by cases hv⟩
  · split at h
    · simp only [Bool.and_eq_true, decide_eq_true_eq, beq_iff_eq, List.length_eq_zero_iff] at h
      obtain ⟨⟨⟨h1, h2⟩, _⟩, rfl⟩ := h
      exact ⟨hN h1, h2, by simp, fun v hv => by cases hv⟩
    · split at h
      · simp only [Bool.and_eq_true, decide_eq_true_eq, beq_iff_eq] at h
        obtain ⟨⟨⟨⟨h1, h2⟩, _⟩, _⟩, h5⟩ := h
        obtain ⟨h6, h7⟩ := valsB_ok h5
        exact ⟨hN h1, h2, h6, h7⟩
      · split at h
        · simp only [Bool.and_eq_true, decide_eq_true_eq, beq_iff_eq, List.length_eq_zero_iff] at h
          obtain ⟨⟨h1, h2⟩, rfl⟩ := h
          have h1 := isEmpty_size h1
          have h2 := isEmpty_size h2
          exact ⟨by omega, by omega, by simp, fun v hv => by cases hv⟩
        · split at h
          · simp only [Bool.and_eq_true, decide_eq_true_eq, beq_iff_eq, List.length_eq_zero_iff] at h
            obtain ⟨⟨⟨h1, h2⟩, rfl⟩, _⟩ := h
            have h1 := isEmpty_size h1
            have h2 := isEmpty_size h2
            exact ⟨by omega, by omega, by simp, fun v hv => by cases hv⟩
          · cases h

/-- A matcher of a slice. -/
theorem Sl.matcher {ok : Nat → Prop} {w : World} {A : Option Addr} {xs : List Matcher} (h : Sl ok w A xs) {k : Nat} (hk : k < xs.length) :
    ∃ b off A1 c1 A2 c2, A = some ⟨b, off, none⟩ ∧ ok b ∧ b < w.heap.size ∧ w.cell? ⟨b, off + k * 5, none⟩ = some (.int .i64 xs[k].op) ∧ w.cell? ⟨b, off + k * 5 + 1, none⟩ = some (.string xs[k].name) ∧ w.cell? ⟨b, off + k * 5 + 2, none⟩ = some (.string xs[k].value)
      ∧ w.cell? ⟨b, off + k * 5 + 3, none⟩ = some (.slice A1 xs[k].values.length c1) ∧ w.cell? ⟨b, off + k * 5 + 4, none⟩ = some (.slice A2 xs[k].kids.length c2) ∧ MRep ok w (mL xs[k].op xs[k].name xs[k].value A1 xs[k].values.length c1 A2 xs[k].kids.length c2) xs[k] := by
  obtain ⟨b, off, vs, rfl, hv, hc⟩ := h.at_ hk
  obtain ⟨A1, c1, A2, c2, rfl, _⟩ := MRep.open_ hv
  exact ⟨b, off, A1, c1, A2, c2, rfl, hc.1, hc.2.1, hc.c0, hc.c1, hc.cj 2 _ rfl, hc.cj 3 _ rfl, hc.cj 4 _ rfl, hv⟩

/-- What holds answers. -/
noncomputable def holdsB (m : Matcher) (d n b : Nat) : Bool := mOk m d && decide (mNodes m ≤ n) && decide (mBytes m ≤ b)
def RoomAt (w : World) (g : Nat) (n b : Int) : Prop := Blk w g [.int .i64 n, .int .i64 b] 116
def HoldsC (N : Nat) : Prop := ∀ (m : Matcher) (d n b g : Nat) (r : Bool) (ok : Nat → Prop) (vs : List Value) (w : World), mNodes m ≤ N → r = holdsB m d n b → d ≤ 9 → n ≤ 64 → b ≤ 4096 → RoomAt w g n b → (∀ k, ok k → k < w.heap.size ∧ k ≠ g) → MRep ok w vs m →
  Calls Tryz.prog 70 #[.pointer (some ⟨g, 0, none⟩), .agg vs.toArray, .int .i64 d] w fun e w' => e = .returned (.bool r) ∧ Frm (fun k => k = g) w w' ∧ (r = true → RoomAt w' g (n - mNodes m) (b - mBytes m))
end Go.Proofs.YtbefkiebdokbdaaGreat.V
end

section
/- match.room.holds, match.Check: the walks, for every matcher. -/
namespace Go.Proofs.YtbefkiebdokbdaaGreat.V
open Go.RowKit
set_option linter.unusedVariables false
set_option maxRecDepth 100000

/-- What holds has in hand behind its first tests. -/
structure HI (w X : World) (g : Nat) (n b : Int) (M : List Value) : Prop where
  room : RoomAt X g n b
  box : Blk X w.heap.size M 28
  frm : Frm (fun k => k = g) w X
section
variable {w X X' : World} {g : Nat} {n b : Int} {M : List Value}
theorem HI.step (h : HI w X g n b M) (hb : Below X.heap.size X X') : HI w X' g n b M := ⟨Blk.below h.room hb, h.box.below hb, h.frm.trans (.of_below hb)⟩
theorem HI.set0 (h : HI w X g n b M) (hg : g < w.heap.size) (x : Int) : HI w (X.setCell ⟨g, 0, none⟩ (.int .i64 x)) g x b M := ⟨Blk.set h.room 0 _, h.box.other 0 _ (by omega), h.frm.one rfl 0 _⟩
theorem HI.set1 (h : HI w X g n b M) (hg : g < w.heap.size) (x : Int) : HI w (X.setCell ⟨g, 1, none⟩ (.int .i64 x)) g n x M := ⟨Blk.set h.room 1 _, h.box.other 1 _ (by omega), h.frm.one rfl 1 _⟩
theorem HI.next (h : HI w X g n b M) (hg : g < w.heap.size) {n' b' : Int} (hf : Frm (fun k => k = g) X X') (hr : RoomAt X' g n' b') : HI w X' g n' b' M := ⟨hr, h.box.frm hf (by omega), h.frm.trans hf⟩
end

theorem bad_kid {kids : List Matcher} {k d nn b2 c n b : Nat} (hk : k < kids.length) (h : holdsB kids[k] d (nn - mNodesL (kids.take k)) (b2 - mBytesL (kids.take k)) = false) (h1 : mNodesL (kids.take k) ≤ nn) (h2 : mBytesL (kids.take k) ≤ b2) (hn : n = nn + 1) (hb : b = b2 + c) :
    (mOkL kids d && decide (1 + mNodesL kids ≤ n) && decide (c + mBytesL kids ≤ b)) = false := by
  have e1 := mNodesL_split hk
  have e2 := mBytesL_split hk
  have e3 := mOkL_split (d := d) hk
  unfold holdsB at h
  rw [Bool.and_eq_false_iff, Bool.and_eq_false_iff] at h ⊢
  rcases h with (h | h) | h
  · exact .inl (.inl (by rw [e3, h]; simp))
  · refine .inl (.inr ?_); rw [decide_eq_false_iff_not] at h ⊢; omega
  · refine .inr ?_; rw [decide_eq_false_iff_not] at h ⊢; omega
theorem good_kid {kids : List Matcher} {k d nn b2 : Nat} (hk : k < kids.length) (h : holdsB kids[k] d (nn - mNodesL (kids.take k)) (b2 - mBytesL (kids.take k)) = true) (h0 : mOkL (kids.take k) d = true) (h1 : mNodesL (kids.take k) ≤ nn) (h2 : mBytesL (kids.take k) ≤ b2) :
    mOkL (kids.take (k + 1)) d = true ∧ mNodesL (kids.take (k + 1)) ≤ nn ∧ mBytesL (kids.take (k + 1)) ≤ b2 ∧ mNodes kids[k] ≤ nn - mNodesL (kids.take k) ∧ mBytes kids[k] ≤ b2 - mBytesL (kids.take k) := by
  unfold holdsB at h
  rw [Bool.and_eq_true, Bool.and_eq_true, decide_eq_true_iff, decide_eq_true_iff] at h
  obtain ⟨⟨g0, g1⟩, g2⟩ := h
  refine ⟨by rw [mOkL_snoc hk, h0, g0]; rfl, by rw [mNodesL_snoc hk]; omega, by rw [mBytesL_snoc hk]; omega, g1, g2⟩
def HoldsP (g : Nat) (w : World) (n b : Int) (r : Bool) (e : Ending) (w' : World) : Prop := e = .returned (.bool r) ∧ Frm (fun k => k = g) w w' ∧ (r = true → RoomAt w' g n b)
theorem HoldsP.no {g : Nat} {w w' : World} {n b : Int} {r : Bool} (h : r = false) (hf : Frm (fun k => k = g) w w') : HoldsP g w n b r (.returned (.bool false)) w' := ⟨by rw [h], hf, fun c => by rw [h] at c; cases c⟩

set_option maxHeartbeats 8000000 in
theorem C_holds : ∀ N, HoldsC N := by
  intro N
  induction N with
  | zero => intro m d n b g r ok vs w hN; have := mNodes_pos m; omega
  | succ N ih =>
    intro m d n b g r ok vs w hN hr hd hn hb hroom hok hM
    obtain ⟨A1, c1, A2, c2, rfl, hop, hnm, hva, hvs, hks, _, _⟩ := MRep.open_ hM
    obtain ⟨op, name, value, values, kids⟩ := m
    simp only [Matcher.op, Matcher.name, Matcher.value, Matcher.values, Matcher.kids] at hop hnm hva hvs hks ⊢
    have hg := Blk.lt hroom
    have hne : g ≠ w.heap.size := by omega
    have hne' : w.heap.size ≠ g := by omega
    have x0 := Blk.c hroom 0 rfl
    have x1 := Blk.c hroom 1 rfl
    have f0 := Blk.f hroom 0
    have hR0 : holdsB (.mk op name value values kids) d n b = (decide (d ≤ 8) && aloneB op name value values kids.length && (mOkL kids (d + 1) && decide (1 + mNodesL kids ≤ n) && decide (name.size + value.size + vBytes values + mBytesL kids ≤ b))) := by
      unfold holdsB mOk mNodes mBytes; simp only [Bool.and_assoc]
    have HR := Lib.hid (hr.trans hR0)
    have hNK : mNodesL kids ≤ N := by unfold mNodes at hN; omega
    have hkl := hks.1
    have HKS := Lib.hid hks
    have HVS := Lib.hid hvs
    have HOK := Lib.hid hok
    have HIH := Lib.hid ih
    have hgoal : HoldsP g w (n - mNodes (.mk op name value values kids)) (b - mBytes (.mk op name value values kids)) r = fun e w' => e = .returned (.bool r) ∧ Frm (fun k => k = g) w w' ∧ (r = true → RoomAt w' g (n - mNodes (.mk op name value values kids)) (b - mBytes (.mk op name value values kids))) := rfl
    rw [← hgoal]
    clear hgoal hr hR0 hM hks hvs hok ih
    have hw1 : IntKind.i64.wrap ((n : Int) - 1) = (n : Int) - 1 := IntWalk.i64_in _ (by omega)
    have hA : ∀ W, Sl ok W A1 values → Calls Tryz.prog 103 #[.agg (mL op name value A1 values.length c1 A2 kids.length c2).toArray] W fun e w' => e = .returned (.bool (aloneB op name value values kids.length)) ∧ Below W.heap.size W w' := fun W h => C_alone ok op name value values A1 c1 A2 kids.length c2 W h hnm hva
    have HA := Lib.hid hA
    clear hA
    go_enter Tryz.func70, Tryz.ntmps70
    go_wp2_with fail
    · go_ret
      refine .no (by rw [HR.out]; simp; omega) ?_
      exact ((Frm.refl (fun k => k = g) w).one rfl 0 _).alloc _
    · go_ret
      refine .no (by rw [HR.out]; simp; omega) ?_
      exact ((Frm.refl (fun k => k = g) w).one rfl 0 _).alloc _
    · obtain ⟨nn, hnn⟩ : ∃ nn : Nat, n = nn + 1 := ⟨n - 1, by omega⟩
      subst hnn
      have ec : ((nn + 1 : Nat) : Int) - 1 = nn := by omega
      rw [ec]
      obtain ⟨Z, hZ⟩ : ∃ Z, Z = (w.setCell ⟨g, 0, none⟩ (.int .i64 nn)).alloc (.cells (mL op name value A1 values.length c1 A2 kids.length c2).toArray 28) := ⟨_, rfl⟩
      have hI : HI w Z g nn b (mL op name value A1 values.length c1 A2 kids.length c2) := by
        rw [hZ]
        refine ⟨(Blk.set hroom 0 _).below ((Below.refl _ _).alloc (Nat.le_refl _) _), ?_, ((Frm.refl (fun k => k = g) w).one rfl 0 (.int .i64 nn)).alloc _⟩
        have := Blk.new (w.setCell ⟨g, 0, none⟩ (.int .i64 nn)) (mL op name value A1 values.length c1 A2 kids.length c2) 28
        simpa [World.setCell] using this
      show Calls _ _ _ ((w.setCell ⟨g, 0, none⟩ (.int .i64 nn)).alloc (.cells (mL op name value A1 values.length c1 A2 kids.length c2).toArray 28)) _
      rw [← hZ]
      clear hZ x0 x1 f0 hroom hw1 ec
      refine (HA.out Z (HVS.out.keep (hI.frm.keeps (fun k _ h => (HOK.out k h).2)))).mono ?_
      rintro e w1 ⟨rfl, hb1⟩
      have hI1 := hI.step hb1
      clear hI hb1 HA
      cases hal : aloneB op name value values kids.length
      · have hrf : r = false := by rw [HR.out, hal]; simp
        have HRF := Lib.hid hrf
        clear hrf hal
        go_wp2
        go_ret
        exact .no HRF.out hI1.frm
      · obtain ⟨q1, q2, q3, q4⟩ := aloneB_ok hal
        have q5 : vBytes values ≤ 1024 := by have := vBytes_le q4; omega
        have hR1 : r = (mOkL kids (d + 1) && decide (1 + mNodesL kids ≤ nn + 1) && decide (name.size + value.size + vBytes values + mBytesL kids ≤ b)) := by
          rw [HR.out, hal]; simp; intros; omega
        have HR1 := Lib.hid hR1
        have HQ4 := Lib.hid q4
        clear HR hR1 hal q4
        have x1 := Blk.c hI1.room 1 rfl
        have f1 := Blk.f hI1.room 1
        have y1 := hI1.box.c 1 rfl
        have y2 := hI1.box.c 2 rfl
        have s1 : IntKind.i64.wrap ((name.size : Int) + (value.size : Int)) = (name.size : Int) + (value.size : Int) := IntWalk.i64_in _ (by omega)
        have s2 : IntKind.i64.wrap ((b : Int) - ((name.size : Int) + (value.size : Int))) = (b : Int) - ((name.size : Int) + (value.size : Int)) := IntWalk.i64_in _ (by omega)
        go_wp2_with fail
        refine wp_region_still_tail 14 (by kernel_rfl) (by kernel_rfl) ?_
        simp only [List.take_succ_cons, List.take_zero, List.drop_succ_cons, List.drop_zero]
        change wpStill _ _ w1.drew _ _ _
        repeat still_step
        refine wpStill_nil ?_
        change wpList _ _ _ _ _ w1.drew
        have hI2 := (hI1.set1 hg ((b : Int) - ((name.size : Int) + (value.size : Int)))).step (X' := (w1.setCell ⟨g, 1, none⟩ (.int .i64 ((b : Int) - ((name.size : Int) + (value.size : Int))))).drew) ⟨rfl, rfl, rfl, Nat.le_refl _, fun _ _ => rfl⟩
        have y3 := hI2.box.c 3 rfl
        go_wp2_with fail
        clear x1 f1 y1 y2 y3 hI1 s1 s2
        generalize (w1.setCell ⟨g, 1, none⟩ (.int .i64 ((b : Int) - ((name.size : Int) + (value.size : Int))))).drew = w2 at hI2 ⊢
        obtain ⟨b1, hb1⟩ : ∃ b1 : Int, b1 = (b : Int) - ((name.size : Int) + (value.size : Int)) := ⟨_, rfl⟩
        rw [← hb1] at hI2 ⊢
        have hb11 : -96 ≤ b1 ∧ b1 ≤ 4096 := by omega
        obtain ⟨hb12, hb13⟩ := hb11
        have HB1 := Lib.hid hb1
        clear hb1
        go_loopw [8, 49] (fun _ i wr => ∃ k : Nat, k ≤ values.length ∧ i = .int .i64 k ∧ HI w wr g nn (b1 - vBytes (values.take k)) (mL op name value A1 values.length c1 A2 kids.length c2)) (fun _ i _ => values.length - (intOf i).toNat)
        case atStart => exact ⟨0, Nat.zero_le _, rfl, by simpa [vBytes] using hI2⟩
        case round =>
          obtain ⟨k, hk, rfl, hI⟩ := hrel
          clear hI2
          by_cases hlt : k < values.length
          · have hsn := vBytes_snoc hlt
            have HSN := Lib.hid hsn
            have hvk : values[k].size ≤ 64 := HQ4.out _ (List.getElem_mem hlt)
            have hvt : vBytes (values.take k) ≤ 1024 := by
              have := vBytes_append (values.take k) (values.drop k)
              rw [List.take_append_drop] at this
              omega
            have hvsl := HVS.out.keep (hI.frm.keeps (fun k _ h => (HOK.out k h).2))
            obtain ⟨bv, ov, rfl, _, _, hcv, _⟩ := hvsl.str hlt
            have x1 := Blk.c hI.room 1 rfl
            have f1 := Blk.f hI.room 1
            have s1 : IntKind.i64.wrap (b1 - (vBytes (values.take k) : Int) - (values[k].size : Int)) = b1 - (vBytes (values.take k) : Int) - (values[k].size : Int) := IntWalk.i64_in _ (by omega)
            clear hsn hvsl
            generalize vBytes (values.take k) = vb at *
            generalize values[k] = vk at *
            go_wp2
            go_roundw
            case rel => exact ⟨k + 1, by omega, by go_num, by rw [HSN.out]; have := hI.set1 hg (b1 - (vb : Int) - (vk.size : Int)); rwa [show b1 - (vb : Int) - (vk.size : Int) = b1 - ((vb + vk.size : Nat) : Int) by omega] at this ⊢⟩
            case measure => simp [intOf]; omega
          · have hkk : k = values.length := by omega
            rw [hkk, List.take_length] at hI
            clear hkk
            have x1 := Blk.c hI.room 1 rfl
            by_cases hneg : b1 - (vBytes values : Int) < 0
            · have hrf : r = false := by rw [HR1.out]; have := HB1.out; simp; intros; omega
              have HRF := Lib.hid hrf
              clear hrf
              go_wp2
              go_ret
              exact .no HRF.out hI.frm
            · obtain ⟨b2, hb2⟩ : ∃ b2 : Nat, b1 - (vBytes values : Int) = b2 := ⟨(b1 - (vBytes values : Int)).toNat, by omega⟩
              have hbb : b = b2 + (name.size + value.size + vBytes values) := by have := HB1.out; omega
              rw [hb2] at hI x1 hneg
              have HBB := Lib.hid hbb
              have b23 : b2 ≤ 4096 := by omega
              clear hb2 hbb
              have y4 := hI.box.c 4 rfl
              go_wp2_with fail
              clear x1 y4
              have hd8 : d ≤ 8 := by omega
              have hsd : IntKind.i64.wrap ((d : Int) + 1) = (d : Int) + 1 := IntWalk.i64_in _ (by omega)
              go_loopw [10, 71] (fun _ i wr => ∃ k : Nat, k ≤ kids.length ∧ i = .int .i64 k ∧ HI w wr g ((nn - mNodesL (kids.take k) : Nat) : Int) ((b2 - mBytesL (kids.take k) : Nat) : Int) (mL op name value A1 values.length c1 A2 kids.length c2) ∧ mOkL (kids.take k) (d + 1) = true ∧ mNodesL (kids.take k) ≤ nn ∧ mBytesL (kids.take k) ≤ b2) (fun _ i _ => kids.length - (intOf i).toNat)
              case atStart => exact ⟨0, Nat.zero_le _, rfl, by simpa [mNodesL, mBytesL] using hI, by simp [mOkL], by simp [mNodesL], by simp [mBytesL]⟩
              case round =>
                obtain ⟨k, hk, rfl, hI, hk0, hk1, hk2⟩ := hrel
                by_cases hlt : k < kids.length
                · have hksl := HKS.out.keep (hI.frm.keeps (fun k _ h => (HOK.out k h).2))
                  obtain ⟨bk, ok_, A3, c3, A4, c4, rfl, _, _, z0, z1, z2, z3, z4, hmr⟩ := hksl.matcher hlt
                  obtain ⟨r', hr'⟩ : ∃ r', r' = holdsB kids[k] (d + 1) (nn - mNodesL (kids.take k)) (b2 - mBytesL (kids.take k)) := ⟨_, rfl⟩
                  have BAD := fun h : r' = false => bad_kid (n := nn + 1) (b := b) hlt (hr' ▸ h) hk1 hk2 rfl HBB.out
                  have GOOD := fun h : r' = true => good_kid hlt (hr' ▸ h) hk0 hk1 hk2
                  have e1 := mNodesL_snoc hlt
                  have e2 := mBytesL_snoc hlt
                  have hkN : mNodes kids[k] ≤ N := Nat.le_trans (mNodes_kid hlt) hNK
                  have HBAD := Lib.hid BAD
                  have HGOOD := Lib.hid GOOD
                  have HE1 := Lib.hid e1
                  have HE2 := Lib.hid e2
                  have HR' := Lib.hid hr'
                  clear BAD GOOD e1 e2 hr' hk0 hksl
                  generalize mNodesL (kids.take k) = na at *
                  generalize mBytesL (kids.take k) = ba at *
                  generalize kids[k] = kid at *
                  go_wp2_with fail
                  have hba : Below wr.heap.size wr (wr.alloc (.cells (mL kid.op kid.name kid.value A3 kid.values.length c3 A4 kid.kids.length c4).toArray 28)) := (Below.refl _ _).alloc (Nat.le_refl _) _
                  have hIa := hI.step hba
                  have hmra := hmr.keep (Keeps.of_below hba)
                  have hwsz := hI.frm.size
                  have hcall := HIH.out kid (d + 1) (nn - na) (b2 - ba) g r' ok _ _ hkN HR'.out (by omega) (by omega) (by omega) hIa.room (fun k h => ⟨by have := (HOK.out k h).1; have := hba.size; omega, (HOK.out k h).2⟩) hmra
                  clear z0 z1 z2 z3 z4 hmr hmra hba hI
                  refine hcall.mono ?_
                  rintro e w3 ⟨rfl, hf3, hro3⟩
                  clear hcall
                  cases r'
                  · have HRF := Lib.hid (HR1.out.trans (HBAD.out rfl))
                    go_wp2
                    go_ret
                    exact .no HRF.out (hIa.frm.trans hf3)
                  · obtain ⟨g1, g2, g3, g4, g5⟩ := HGOOD.out rfl
                    have hI3 := hIa.next hg hf3 (hro3 rfl)
                    clear hro3 hf3 hIa
                    go_wp2
                    go_roundw
                    case rel =>
                      refine ⟨k + 1, by omega, by go_num, ?_, g1, g2, g3⟩
                      rw [HE1.out, HE2.out]
                      rw [show ((nn - (na + mNodes kid) : Nat) : Int) = ((nn - na : Nat) : Int) - (mNodes kid : Int) by omega, show ((b2 - (ba + mBytes kid) : Nat) : Int) = ((b2 - ba : Nat) : Int) - (mBytes kid : Int) by omega]
                      exact hI3
                    case measure => simp [intOf]; omega
                · have hkk : k = kids.length := by omega
                  rw [hkk, List.take_length] at hI hk0 hk1 hk2
                  have hrt : r = true := by
                    rw [HR1.out, hk0]
                    have := HBB.out
                    simp; omega
                  have HRT := Lib.hid hrt
                  have hcl : RoomAt wr g (((nn + 1 : Nat) : Int) - (mNodes (.mk op name value values kids) : Int)) ((b : Int) - (mBytes (.mk op name value values kids) : Int)) := by
                    have e1 : ((nn - mNodesL kids : Nat) : Int) = ((nn + 1 : Nat) : Int) - (mNodes (.mk op name value values kids) : Int) := by unfold mNodes; omega
                    have e2 : ((b2 - mBytesL kids : Nat) : Int) = (b : Int) - (mBytes (.mk op name value values kids) : Int) := by have := HBB.out; unfold mBytes; omega
                    rw [← e1, ← e2]; exact hI.room
                  have hff := hI.frm
                  clear hkk hrt hI hk0 hk1 hk2
                  go_wp2
                  go_ret
                  exact ⟨ret_b HRT.out.symm, hff, fun _ => hcl⟩

theorem C_match_Check (ok : Nat → Prop) (m : Matcher) (vs : List Value) (w : World) (hok : ∀ k, ok k → k < w.heap.size) (hM : MRep ok w vs m) :
    Calls Tryz.prog 36 #[.agg vs.toArray] w fun e w' => e = .returned (.bool (holdsB m 1 64 4096)) ∧ Below w.heap.size w w' := by
  have hM0 := hM
  obtain ⟨A1, c1, A2, c2, rfl, _⟩ := MRep.open_ hM
  obtain ⟨r, hr⟩ : ∃ r, r = holdsB m 1 64 4096 := ⟨_, rfl⟩
  rw [← hr]
  have HR := Lib.hid hr
  clear hr
  go_enter Tryz.func36, Tryz.ntmps36
  go_wp2_with fail
  have hB := Blk.new (w.alloc (.cells (mL m.op m.name m.value A1 m.values.length c1 A2 m.kids.length c2).toArray 28)) [.int .i64 64, .int .i64 4096] 116
  have hs : (w.alloc (.cells (mL m.op m.name m.value A1 m.values.length c1 A2 m.kids.length c2).toArray 28)).heap.size = w.heap.size + 1 := by simp
  rw [hs] at hB
  have hb : Below w.heap.size w ((w.alloc (.cells (mL m.op m.name m.value A1 m.values.length c1 A2 m.kids.length c2).toArray 28)).alloc (.cells [.int .i64 64, .int .i64 4096].toArray 116)) := ((Below.refl _ _).alloc (Nat.le_refl _) _).alloc (by omega) _
  have hm1 := hM0.keep (Keeps.of_below hb)
  refine (C_holds _ m 1 64 4096 (w.heap.size + 1) r ok _ _ (Nat.le_refl _) HR.out (by omega) (by omega) (by omega) hB (fun k h => ⟨Nat.lt_of_lt_of_le (hok k h) hb.size, by have := hok k h; omega⟩) hm1).mono ?_
  rintro e w1 ⟨rfl, hf, _⟩
  have hfin := hf.to_below hb (fun k _ e => by omega)
  go_wp2
  go_ret
  exact ⟨rfl, hfin⟩
end Go.Proofs.YtbefkiebdokbdaaGreat.V
end

section
/- varvelaw00.Tiny: what it says of a matcher that it takes: it is not deep. -/
namespace Go.Proofs.YtbefkiebdokbdaaGreat.V
open Go.RowKit
set_option linter.unusedVariables false
set_option maxRecDepth 100000

mutual
/-- A matcher has less than twelve levels from d on. -/
def mFits : Matcher → Nat → Bool
  | .mk _ _ _ _ kids, d => decide (d ≤ 11) && mFitsL kids (d + 1)
def mFitsL : List Matcher → Nat → Bool
  | [], _ => true
  | k :: ks, d => mFits k d && mFitsL ks d
end
theorem mFitsL_append (d : Nat) : ∀ a b : List Matcher, mFitsL (a ++ b) d = (mFitsL a d && mFitsL b d)
  | [], b => by simp [mFitsL]
  | x :: a, b => by simp [mFitsL, mFitsL_append d a b, Bool.and_assoc]
theorem mFitsL_snoc {l : List Matcher} {k d : Nat} (hk : k < l.length) : mFitsL (l.take (k + 1)) d = (mFitsL (l.take k) d && mFits l[k] d) := by
  rw [List.take_succ_eq_append_getElem hk, mFitsL_append]; simp [mFitsL]
theorem mFitsL_at {l : List Matcher} {k d : Nat} (hk : k < l.length) (h : mFitsL l d = true) : mFits l[k] d = true := by
  rw [← List.take_append_drop (k + 1) l, mFitsL_append, mFitsL_snoc hk] at h
  simp only [Bool.and_eq_true] at h
  exact h.1.2

/-- What a walk over a matcher has in hand: what stands at g, its box. -/
structure HX (w X : World) (g : Nat) (R : List Value) (T : Nat) (M : List Value) : Prop where
  room : Blk X g R T
  box : Blk X w.heap.size M 28
  frm : Frm (fun k => k = g) w X
section
variable {w X X' : World} {g T : Nat} {R R' M : List Value}
theorem HX.step (h : HX w X g R T M) (hb : Below X.heap.size X X') : HX w X' g R T M := ⟨h.room.below hb, h.box.below hb, h.frm.trans (.of_below hb)⟩
theorem HX.set (h : HX w X g R T M) (hg : g < w.heap.size) (i : Nat) (x : Value) : HX w (X.setCell ⟨g, i, none⟩ x) g (R.set i x) T M := ⟨h.room.set i _, h.box.other i _ (by omega), h.frm.one rfl i _⟩
theorem HX.next (h : HX w X g R T M) (hg : g < w.heap.size) (hf : Frm (fun k => k = g) X X') (hr : Blk X' g R' T) : HX w X' g R' T M := ⟨hr, h.box.frm hf (by omega), h.frm.trans hf⟩
theorem HX.new' (w : World) (g : Nat) (R : List Value) (T i : Nat) (x : Value) (M : List Value) (hB : Blk w g R T) :
    HX w ((w.setCell ⟨g, i, none⟩ x).alloc (.cells M.toArray 28)) g (R.set i x) T M := by
  refine ⟨(hB.set i _).below ((Below.refl _ _).alloc (Nat.le_refl _) _), ?_, ((Frm.refl (fun k => k = g) w).one rfl i x).alloc _⟩
  have := Blk.new (w.setCell ⟨g, i, none⟩ x) M 28
  simpa [World.setCell] using this
theorem HX.new (w : World) (g : Nat) (R : List Value) (T : Nat) (M : List Value) (hB : Blk w g R T) : HX w (w.alloc (.cells M.toArray 28)) g R T M :=
  ⟨hB.below ((Below.refl _ _).alloc (Nat.le_refl _) _), Blk.new _ _ _, (Frm.refl _ _).alloc _⟩
end
def TinyP (g : Nat) (w : World) (m : Matcher) (d : Nat) (e : Ending) (w' : World) : Prop :=
  ∃ (r : Bool) (n' : Nat), e = .returned (.bool r) ∧ Frm (fun k => k = g) w w' ∧ Blk w' g [.int .i64 n'] 3 ∧ (r = true → n' ≤ 200 ∧ mFits m d = true)
theorem TinyP.no {g : Nat} {w w' : World} {m : Matcher} {d : Nat} {n' : Nat} (hf : Frm (fun k => k = g) w w') (hB : Blk w' g [.int .i64 n'] 3) : TinyP g w m d (.returned (.bool false)) w' := ⟨false, n', rfl, hf, hB, fun h => by cases h⟩
def TinyC (N : Nat) : Prop := ∀ (m : Matcher) (d n g : Nat) (ok : Nat → Prop) (vs : List Value) (w : World), mNodes m ≤ N → d ≤ 12 → n ≤ 200 → Blk w g [.int .i64 n] 3 → (∀ k, ok k → k < w.heap.size ∧ k ≠ g) → MRep ok w vs m →
  Calls Tryz.prog 35 #[.agg vs.toArray, .pointer (some ⟨g, 0, none⟩), .int .i64 d] w (TinyP g w m d)

set_option maxHeartbeats 8000000 in
theorem C_tiny : ∀ N, TinyC N := by
  intro N
  induction N with
  | zero => intro m d n g ok vs w hN; have := mNodes_pos m; omega
  | succ N ih =>
    intro m d n g ok vs w hN hd hn hroom hok hM
    obtain ⟨A1, c1, A2, c2, rfl, hop, hnm, hva, hvs, hks, _, _⟩ := MRep.open_ hM
    obtain ⟨op, name, value, values, kids⟩ := m
    simp only [Matcher.op, Matcher.name, Matcher.value, Matcher.values, Matcher.kids] at hop hnm hva hvs hks ⊢
    have hg := hroom.lt
    have hne : g ≠ w.heap.size := by omega
    have hne' : w.heap.size ≠ g := by omega
    have x0 := hroom.c 0 rfl
    have f0 := hroom.f 0
    have hkl := hks.1
    have hvl := hvs.1
    have hNK : mNodesL kids ≤ N := by unfold mNodes at hN; omega
    have HKS := Lib.hid hks
    have HVS := Lib.hid hvs
    have HOK := Lib.hid hok
    have HIH := Lib.hid ih
    have hI0 := HX.new' w g [.int .i64 n] 3 0 (.int .i64 ((n : Int) + 1)) (mL op name value A1 values.length c1 A2 kids.length c2) hroom
    have hF : ∀ h : d ≤ 11, mFitsL kids (d + 1) = true → mFits (.mk op name value values kids) d = true := fun h1 h2 => by unfold mFits; rw [h2]; simp; omega
    have HF := Lib.hid hF
    clear hM hks hvs hok ih hF
    have ec : ((n + 1 : Nat) : Int) = (n : Int) + 1 := by omega
    go_enter Tryz.func35, Tryz.ntmps35
    go_wp2_with fail
    all_goals first
      | (go_ret; exact .no (n' := n + 1) hI0.frm hI0.room)
      | skip
    obtain ⟨Z, hZ⟩ : ∃ Z, Z = (w.setCell ⟨g, 0, none⟩ (.int .i64 ((n : Int) + 1))).alloc (.cells (mL op name value A1 values.length c1 A2 kids.length c2).toArray 28) := ⟨_, rfl⟩
    have hI : HX w Z g [.int .i64 ((n : Int) + 1)] 3 (mL op name value A1 values.length c1 A2 kids.length c2) := hZ ▸ hI0
    have hn1 : n + 1 ≤ 200 := by omega
    have hd1 : d ≤ 11 := by omega
    have hkv : values.length ≤ 40 := by omega
    show Code.wp _ _ _ _ ((w.setCell ⟨g, 0, none⟩ (.int .i64 ((n : Int) + 1))).alloc (.cells (mL op name value A1 values.length c1 A2 kids.length c2).toArray 28))
    rw [← hZ]
    clear hZ hI0 x0 f0 hroom ec
    have y3 := hI.box.c 3 rfl
    have y4 := hI.box.c 4 rfl
    go_loop [7] (fun i => ∃ k : Nat, k ≤ values.length ∧ i = .int .i64 k) (fun i => values.length - (intOf i).toNat)
    case atStart => exact ⟨0, Nat.zero_le _, rfl⟩
    case round =>
      obtain ⟨k, hk, rfl⟩ := hrel
      by_cases hlt : k < values.length
      · have hvsl := HVS.out.keep (hI.frm.keeps (fun k _ h => (HOK.out k h).2))
        obtain ⟨bv, ov, rfl, _, _, hcv, _⟩ := hvsl.str hlt
        clear hvsl
        generalize values[k] = vk at *
        go_wp2
        · go_ret
          exact .no (n' := n + 1) hI.frm hI.room
        · go_round
          case rel => exact ⟨k + 1, by omega, by go_num⟩
          case measure => simp [intOf]; omega
      · have hkk : k = values.length := by omega
        clear hlt
        subst hkk
        go_wp2_with fail
        have hI' : HX w Z g [.int .i64 ((n + 1 : Nat) : Int)] 3 (mL op name value A1 values.length c1 A2 kids.length c2) := hI
        clear y3 y4 hI hk
        have hsd : IntKind.i64.wrap ((d : Int) + 1) = (d : Int) + 1 := IntWalk.i64_in _ (by omega)
        go_loopw [8] (fun i wr => ∃ (k n' : Nat), k ≤ kids.length ∧ i = .int .i64 k ∧ HX w wr g [.int .i64 n'] 3 (mL op name value A1 values.length c1 A2 kids.length c2) ∧ n' ≤ 200 ∧ mFitsL (kids.take k) (d + 1) = true) (fun i _ => kids.length - (intOf i).toNat)
        case atStart => exact ⟨0, n + 1, Nat.zero_le _, rfl, hI', hn1, by simp [mFitsL]⟩
        case round =>
          obtain ⟨k, n', hk, rfl, hI, hn2, hfl⟩ := hrel
          clear hI' hn1
          have y4 := hI.box.c 4 rfl
          by_cases hlt : k < kids.length
          · have hksl := HKS.out.keep (hI.frm.keeps (fun k _ h => (HOK.out k h).2))
            obtain ⟨bk, ok_, A3, c3, A4, c4, rfl, _, _, z0, z1, z2, z3, z4, hmr⟩ := hksl.matcher hlt
            have e1 := mFitsL_snoc (d := d + 1) hlt
            have hkN : mNodes kids[k] ≤ N := Nat.le_trans (mNodes_kid hlt) hNK
            rw [hfl] at e1
            have HE1 := Lib.hid e1
            have hwsz := hI.frm.size
            clear e1 hksl hfl
            generalize kids[k] = kid at *
            go_wp2_with fail
            have hcall := HIH.out kid (d + 1) n' g ok _ _ hkN (by omega) hn2 hI.room (fun k h => ⟨by have := (HOK.out k h).1; omega, (HOK.out k h).2⟩) hmr
            clear z0 z1 z2 z3 z4 y4
            refine hcall.mono ?_
            rintro e w3 ⟨r', n3, rfl, hf3, hB3, hr3⟩
            clear hcall
            have hI3 := hI.next hg hf3 hB3
            clear hI hmr
            cases r'
            · clear hr3
              go_wp2
              go_ret
              exact .no hI3.frm hI3.room
            · obtain ⟨g1, g2⟩ := hr3 rfl
              have HG2 := Lib.hid g2
              clear hr3 g2
              go_wp2
              go_roundw
              case rel => exact ⟨k + 1, n3, by omega, by go_num, hI3, g1, by rw [HE1.out, HG2.out]; rfl⟩
              case measure => simp [intOf]; omega
          · have hkk : k = kids.length := by omega
            rw [hkk, List.take_length] at hfl
            have hfin := HF.out hd1 hfl
            have HFI := Lib.hid hfin
            clear hkk hfl hfin
            go_wp2
            go_ret
            exact ⟨true, n', rfl, hI.frm, hI.room, fun _ => ⟨hn2, HFI.out⟩⟩

theorem C_Tiny (ok : Nat → Prop) (m : Matcher) (vs : List Value) (w : World) (hok : ∀ k, ok k → k < w.heap.size) (hM : MRep ok w vs m) :
    Calls Tryz.prog 12 #[.agg vs.toArray] w fun e w' => ∃ r : Bool, e = .returned (.bool r) ∧ Below w.heap.size w w' ∧ (r = true → mFits m 0 = true) := by
  have hM0 := hM
  obtain ⟨A1, c1, A2, c2, rfl, _⟩ := MRep.open_ hM
  go_enter Tryz.func12, Tryz.ntmps12
  go_wp2_with fail
  have hB := Blk.new (w.alloc (.cells (mL m.op m.name m.value A1 m.values.length c1 A2 m.kids.length c2).toArray 28)) [.int .i64 0] 3
  have hs : (w.alloc (.cells (mL m.op m.name m.value A1 m.values.length c1 A2 m.kids.length c2).toArray 28)).heap.size = w.heap.size + 1 := by simp
  rw [hs] at hB
  have hb : Below w.heap.size w ((w.alloc (.cells (mL m.op m.name m.value A1 m.values.length c1 A2 m.kids.length c2).toArray 28)).alloc (.cells [.int .i64 0].toArray 3)) := ((Below.refl _ _).alloc (Nat.le_refl _) _).alloc (by omega) _
  have hm1 := hM0.keep (Keeps.of_below hb)
  refine (C_tiny _ m 0 0 (w.heap.size + 1) ok _ _ (Nat.le_refl _) (by omega) (by omega) hB (fun k h => ⟨Nat.lt_of_lt_of_le (hok k h) hb.size, by have := hok k h; omega⟩) hm1).mono ?_
  rintro e w1 ⟨r, n', rfl, hf, _, hr⟩
  have hfin := hf.to_below hb (fun k _ e => by omega)
  have HR := Lib.hid hr
  clear hr
  go_wp2
  go_ret
  exact ⟨r, rfl, hfin, fun h => (HR.out h).2⟩
end Go.Proofs.YtbefkiebdokbdaaGreat.V
end

section
/- The reference's matcher: values, bare, text. -/
namespace Go.Proofs.YtbefkiebdokbdaaGreat.V
open Go.RowKit
set_option linter.unusedVariables false
set_option maxRecDepth 100000

set_option maxHeartbeats 2000000 in
theorem C_ref_values (ok : Nat → Prop) (A : Option Addr) (cap : Nat) (xs : List ByteArray) (w : World) (hr : Sl ok w A xs) :
    Calls Tryz.prog 90 #[.slice A xs.length cap] w fun e w' => e = .returned (.bool (valsB xs)) ∧ Below w.heap.size w w' := by
  have hlen := hr.1
  by_cases h0 : xs.length < 1 ∨ 16 < xs.length
  · have hv : valsB xs = false := by unfold valsB; simp; omega
    have HV := Lib.hid hv
    clear hv
    go_enter Tryz.func90, Tryz.ntmps90
    rcases h0 with h0 | h0
    all_goals
      first | (have t0 : decide ((xs.length : Int) < 1) = true := by rw [decide_eq_true_iff]; omega) | (have t0 : decide ((xs.length : Int) < 1) = false := by rw [decide_eq_false_iff_not]; omega)
      go_wp2
      all_goals
        go_ret
        exact ⟨ret_b HV.out.symm, Below.refl _ _⟩
  have NO : ∀ k, k < xs.length → valB xs k = false → valsB xs = false := fun k hk h => by unfold valsB; rw [all_lt_no hk h]; simp
  have YES : (∀ k, k < xs.length → valB xs k = true) → valsB xs = true := fun h => by unfold valsB; rw [all_lt_yes h]; simp; omega
  have HNO := Lib.hid NO
  have HYES := Lib.hid YES
  clear NO YES
  generalize valsB xs = res at *
  have g1 : decide ((xs.length : Int) < 1) = false := by simp; omega
  have g2 : decide ((16 : Int) < (xs.length : Int)) = false := by simp; omega
  go_enter Tryz.func90, Tryz.ntmps90
  go_wp2_with fail
  go_loopw [3] (fun i wr => ∃ k : Nat, k ≤ xs.length ∧ i = .int .i64 k ∧ (∀ j, j < k → valB xs j = true) ∧ Below w.heap.size w wr) (fun i _ => xs.length - (intOf i).toNat)
  case atStart => exact ⟨0, Nat.zero_le _, rfl, fun j hj => by omega, Below.refl _ _⟩
  case round =>
    obtain ⟨k, hk, rfl, hpre, hbl⟩ := hrel
    have HP := Lib.hid hpre
    clear hpre
    by_cases hlt : k < xs.length
    · have hsl := hr.below hbl
      obtain ⟨b, off, rfl, hob, hlb, hc, hso⟩ := hsl.str hlt
      have hd : xs.getD k ⟨#[]⟩ = xs[k] := by simp [List.getD, hlt]
      have hvk : valB xs k = (decide (xs[k].size ≤ 64) && (k == 0 || !strLe xs[k] (xs.getD (k - 1) ⟨#[]⟩))) := by unfold valB; rw [hd]
      have HVK := Lib.hid hvk
      clear hvk hd
      have i1 : (0 : Int) ≤ (k : Int) := by omega
      have i2 : (k : Int) < (xs.length : Int) := by omega
      have hbd : ∀ n, Below w.heap.size w (wr.drewN n) := fun n => bdn hbl n
      have HBD := Lib.hid hbd
      clear hbd
      have hE : ∀ h : valB xs k = true, ∀ j, j < k + 1 → valB xs j = true := fun h j hj => by
        by_cases e : j = k
        · rw [e]; exact h
        · exact HP.out j (by omega)
      have HE := Lib.hid hE
      clear hE
      generalize xs[k] = x at *
      by_cases h3 : 64 < x.size
      · have HF := Lib.hid (HNO.out k hlt (by rw [HVK.out]; simp; omega))
        have hd1 : decide ((64 : Int) < (x.size : Int)) = true := by simp; omega
        clear HNO HYES HP HVK hbl hsl
        go_wp2_with fail
        go_quiet (fail)
        go_wp2
        go_ret
        exact ⟨ret_b HF.out.symm, HBD.out _⟩
      · have hd1 : decide ((64 : Int) < (x.size : Int)) = false := by simp; omega
        by_cases h4 : k = 0
        · have HS := Lib.hid (show valB xs k = true by rw [HVK.out, h4]; simp; omega)
          have HSE := Lib.hid (HE.out HS.out)
          have hd3 : decide ((0 : Int) < (k : Int)) = false := by simp; omega
          have hd4 : decide (0 < k) = false := by simp; omega
          clear HNO HVK HE HS h4
          go_wp2_with fail
          go_quiet (fail)
          go_wp2
          go_roundw
          case rel => exact ⟨k + 1, by omega, by go_num, HSE.out, HBD.out _⟩
          case measure => simp [intOf]; omega
        · obtain ⟨b', off', e', _, _, hc', _⟩ := hsl.str (k := k - 1) (by omega)
          cases e'
          have hd' : xs.getD (k - 1) ⟨#[]⟩ = xs[k - 1] := by simp [List.getD, (show k - 1 < xs.length by omega)]
          rw [hd'] at HVK
          have hd3 : decide ((0 : Int) < (k : Int)) = true := by simp; omega
          have hd4 : decide (0 < k) = true := by simp; omega
          have hs : IntKind.i64.wrap ((k : Int) - 1) = (k : Int) - 1 := IntWalk.i64_in _ (by omega)
          have hs1 : (0 : Int) ≤ (k : Int) - 1 := by omega
          have hs2 : ((k : Int) - 1).toNat = k - 1 := by omega
          have hs3 : (k : Int) - 1 < (xs.length : Int) := by omega
          have hk0 : (k == 0) = false := by simp; omega
          clear hd' hsl
          generalize xs[k - 1] = pn at *
          cases hLe : strLe x pn
          · have HS := Lib.hid (show valB xs k = true by rw [HVK.out, hk0, hLe]; simp; omega)
            have HSE := Lib.hid (HE.out HS.out)
            clear HNO HVK hk0 HE HS h4
            unfold strLe at hLe
            rw [Bool.or_eq_false_iff] at hLe
            obtain ⟨hl1, hl2⟩ := hLe
            go_wp2_with fail
            go_quiet (fail)
            clear hs hs1 hs2 hs3
            go_wp2
            go_roundw
            case rel => exact ⟨k + 1, by omega, by go_num, HSE.out, HBD.out _⟩
            case measure => simp [intOf]; omega
          · have HF := Lib.hid (HNO.out k hlt (by rw [HVK.out, hk0, hLe]; simp))
            clear HNO HYES HP HVK hk0 HE h4
            unfold strLe at hLe
            rw [Bool.or_eq_true] at hLe
            rcases hLe with hLe | hLe
            · go_wp2_with fail
              go_quiet (fail)
              go_wp2
              go_ret
              exact ⟨ret_b HF.out.symm, HBD.out _⟩
            · go_wp2_with fail
              go_quiet (fail)
              go_wp2
              go_ret
              exact ⟨ret_b HF.out.symm, HBD.out _⟩
    · have hkk : k = xs.length := by omega
      have HR := Lib.hid (HYES.out (fun j hj => HP.out j (by omega)))
      clear HNO HYES HP
      go_wp2
      go_ret
      exact ⟨ret_b HR.out.symm, hbl⟩

/-- Has a matcher nothing but what is said? -/
def bareB (one many kd : Bool) (nE vE : Bool) (n1 n2 : Int) : Bool := (one || vE) && ((one || many || nE) && ((many || decide (n1 = 0)) && (kd || (n2 == 0))))
set_option maxHeartbeats 2000000 in
theorem C_ref_bare (one many kd : Bool) (op : Int) (name value : ByteArray) (A1 : Option Addr) (n1 c1 : Nat) (A2 : Option Addr) (n2 c2 : Nat) (w : World) :
    Calls Tryz.prog 88 #[.agg (mL op name value A1 n1 c1 A2 n2 c2).toArray, .bool one, .bool many, .bool kd] w fun e w' => e = .returned (.bool (bareB one many kd name.toList.isEmpty value.toList.isEmpty n1 n2)) ∧ Below w.heap.size w w' := by
  cases one <;> cases many <;> cases kd
  all_goals
    go_enter Tryz.func88, Tryz.ntmps88
    go_wp2
    all_goals
      go_ret
      refine ⟨ret_b ?_, (Below.refl _ _).alloc (Nat.le_refl _) _⟩
      simp only [bareB, *, Bool.true_or, Bool.or_true, Bool.false_or, Bool.or_false, Bool.true_and, Bool.and_true, Bool.false_and, Bool.and_false, decide_true, decide_false, beq_self_eq_true]

/-- What the reference's looker keeps: how many, how many bytes, whether something is wrong. -/
@[reducible] def szL (n b : Int) (bad : Bool) : List Value := [.int .i64 n, .int .i64 b, .bool bad]
def fits (b : Nat) (t : ByteArray) : Bool := decide ((t.size : Int) ≤ 4096 - (b : Int))
def TextP (g : Nat) (w : World) (L : List Value) (e : Ending) (w' : World) : Prop := (∃ v, e = .returned v) ∧ Frm (fun k => k = g) w w' ∧ Blk w' g L 97
theorem C_ref_text (g : Nat) (n : Int) (b : Nat) (bad : Bool) (t : ByteArray) (w : World) (hB : Blk w g (szL n b bad) 97) (hb : b ≤ 4096) (ht : StrOk t) :
    Calls Tryz.prog 89 #[.pointer (some ⟨g, 0, none⟩), .string t] w (TextP g w (szL n ((if fits b t then b + t.size else b : Nat) : Int) (bad || !fits b t))) := by
  have x0 := hB.c 0 rfl
  have x1 := hB.c 1 rfl
  have x2 := hB.c 2 rfl
  have f1 := hB.f 1
  have f2 := hB.f 2
  unfold StrOk at ht
  by_cases hf : (t.size : Int) ≤ 4096 - (b : Int)
  · have hF : fits b t = true := by unfold fits; simpa using hf
    have e1 : ((b + t.size : Nat) : Int) = (b : Int) + (t.size : Int) := by omega
    have hB2 := hB.set 1 (.int .i64 ((b : Int) + (t.size : Int)))
    have hfr := (Frm.refl (fun k => k = g) w).one rfl 1 (.int .i64 ((b : Int) + (t.size : Int)))
    have hpost : Blk (w.setCell ⟨g, 1, none⟩ (.int .i64 ((b : Int) + (t.size : Int)))) g (szL n ((if fits b t then b + t.size else b : Nat) : Int) (bad || !fits b t)) 97 := by
      rw [hF, if_pos rfl, e1]; simpa using hB2
    have hd : decide (4096 - (b : Int) < (t.size : Int)) = false := by rw [decide_eq_false_iff_not]; omega
    generalize szL n ((if fits b t then b + t.size else b : Nat) : Int) (bad || !fits b t) = L at *
    clear hF e1 hB2
    go_enter Tryz.func89, Tryz.ntmps89
    go_wp2
    first | (refine bodyPost_ret (results_none rfl _ _ _) rfl ?_; exact ⟨⟨_, rfl⟩, hfr, hpost⟩) | (go_end0; exact ⟨⟨_, rfl⟩, hfr, hpost⟩)
  · have hF : fits b t = false := by unfold fits; simpa using hf
    have hB2 := hB.set 2 (.bool true)
    have hfr := (Frm.refl (fun k => k = g) w).one rfl 2 (.bool true)
    have hpost : Blk (w.setCell ⟨g, 2, none⟩ (.bool true)) g (szL n ((if fits b t then b + t.size else b : Nat) : Int) (bad || !fits b t)) 97 := by
      rw [hF, if_neg (by simp)]; simpa using hB2
    have hd : decide (4096 - (b : Int) < (t.size : Int)) = true := by rw [decide_eq_true_iff]; omega
    generalize szL n ((if fits b t then b + t.size else b : Nat) : Int) (bad || !fits b t) = L at *
    clear hF hB2
    go_enter Tryz.func89, Tryz.ntmps89
    go_wp2
    first | (refine bodyPost_ret (results_none rfl _ _ _) rfl ?_; exact ⟨⟨_, rfl⟩, hfr, hpost⟩) | (go_end0; exact ⟨⟨_, rfl⟩, hfr, hpost⟩)
end Go.Proofs.YtbefkiebdokbdaaGreat.V
end

section
/- The reference's looker at a matcher: plain laws. -/
namespace Go.Proofs.YtbefkiebdokbdaaGreat.V
open Go.RowKit
set_option linter.unusedVariables false
set_option maxRecDepth 100000

/-- What the looker says of a matcher: there is room for it. -/
noncomputable def lookB (m : Matcher) (d n b : Nat) : Bool := holdsB m d (64 - n) (4096 - b)
section
variable {op : Int} {name value : ByteArray} {values : List ByteArray} {kids : List Matcher} {d n b : Nat}
theorem look_mk (hd : d ≤ 8) (hn : n + 1 ≤ 64) (hb : b ≤ 4096) : lookB (.mk op name value values kids) d n b = (aloneB op name value values kids.length && (mOkL kids (d + 1) && decide (n + 1 + mNodesL kids ≤ 64) && decide (b + (name.size + value.size + vBytes values) + mBytesL kids ≤ 4096))) := by
  unfold lookB holdsB mOk mNodes mBytes
  rw [decide_eq_true hd, Bool.true_and, Bool.and_assoc, Bool.and_assoc]
  have e1 : decide (1 + mNodesL kids ≤ 64 - n) = decide (n + 1 + mNodesL kids ≤ 64) := by rw [decide_eq_decide]; omega
  have e2 : decide (name.size + value.size + vBytes values + mBytesL kids ≤ 4096 - b) = decide (b + (name.size + value.size + vBytes values) + mBytesL kids ≤ 4096) := by rw [decide_eq_decide]; omega
  rw [e1, e2, Bool.and_assoc]
theorem look_no (h : 8 < d ∨ 64 ≤ n) : lookB (.mk op name value values kids) d n b = false := by
  unfold lookB holdsB mOk mNodes
  rcases h with h | h
  · rw [decide_eq_false (by omega)]; simp
  · rw [Bool.and_eq_false_iff, Bool.and_eq_false_iff]; refine .inl (.inr ?_); rw [decide_eq_false_iff_not]; omega
theorem nil_of {α : Type} {l : List α} (h : (l.length == 0) = true) : l = [] := List.length_eq_zero_iff.1 (by simpa using h)
theorem decide_len {α : Type} (l : List α) : decide ((l.length : Int) = 0) = (l.length == 0) := by rw [Bool.eq_iff_iff]; simp
theorem len_beq {α : Type} (l : List α) (k : Nat) : ((l.length : Int) == (k : Int)) = (l.length == k) := by rw [Bool.eq_iff_iff]; simp; omega
theorem size0 (s : ByteArray) : s.toList.isEmpty = true → s.size = 0 := isEmpty_size
/-- At the operation that means all. -/
theorem look_all (hd : d ≤ 8) (hn : n + 1 ≤ 64) (hb : b ≤ 4096) : lookB (.mk 0 name value values kids) d n b = bareB false false false name.toList.isEmpty value.toList.isEmpty values.length kids.length := by
  rw [look_mk hd hn hb]
  unfold aloneB bareB
  rw [if_pos rfl]
  have e0 : ((kids.length : Int) == 0) = (kids.length == 0) := len_beq kids 0
  rw [e0, decide_len]
  cases h1 : name.toList.isEmpty
  · simp
  · cases h2 : value.toList.isEmpty
    · simp
    · cases h3 : values.length == 0
      · simp
      · cases h4 : kids.length == 0
        · simp
        · obtain rfl := nil_of h3
          obtain rfl := nil_of h4
          have s1 := size0 _ h1
          have s2 := size0 _ h2
          rw [Bool.eq_iff_iff]
          simp only [Bool.and_eq_true, decide_eq_true_eq]
          simp [mOkL, mNodesL, mBytesL, vBytes]
          omega
/-- At an operation with a name and a value. -/
theorem look_is (hop : op = 1 ∨ op = 2 ∨ op = 3) (hd : d ≤ 8) (hn : n + 1 ≤ 64) (hb : b ≤ 4096) :
    lookB (.mk op name value values kids) d n b = (!((!bareB true false false name.toList.isEmpty value.toList.isEmpty values.length kids.length || (!tr (NameP name) || decide ((64 : Int) < value.size))) || !fits b name || !fits (if fits b name then b + name.size else b) value)) := by
  rw [look_mk hd hn hb]
  unfold aloneB bareB
  have o0 : op ≠ 0 := by omega
  rw [if_neg o0, if_pos hop]
  have e0 : ((kids.length : Int) == 0) = (kids.length == 0) := len_beq kids 0
  have e1 : decide ((64 : Int) < value.size) = !decide (value.size ≤ 64) := by rw [Bool.eq_iff_iff]; simp; omega
  rw [e0, decide_len, e1]
  cases tr (NameP name)
  · simp
  · cases decide (value.size ≤ 64)
    · simp
    · cases h3 : values.length == 0
      · simp
      · cases h4 : kids.length == 0
        · simp
        · obtain rfl := nil_of h3
          obtain rfl := nil_of h4
          rw [Bool.eq_iff_iff]
          cases hf : fits b name
          · have : ¬ ((name.size : Int) ≤ 4096 - (b : Int)) := by unfold fits at hf; simpa using hf
            simp only [Bool.and_eq_true, decide_eq_true_eq]; simp [mOkL, mNodesL, mBytesL, vBytes]; omega
          · have h5 : (name.size : Int) ≤ 4096 - (b : Int) := by unfold fits at hf; simpa using hf
            have : fits (b + name.size) value = true ↔ b + (name.size + value.size) ≤ 4096 := by unfold fits; rw [decide_eq_true_iff]; omega
            simp only [Bool.and_eq_true, decide_eq_true_eq]; simp [mOkL, mNodesL, mBytesL, vBytes, this]; omega
/-- At the operation with values: what must be ahead of them. -/
theorem look_among (hd : d ≤ 8) (hn : n + 1 ≤ 64) (hb : b ≤ 4096) :
    lookB (.mk 4 name value values kids) d n b = (!(!bareB false true false name.toList.isEmpty value.toList.isEmpty values.length kids.length || (!tr (NameP name) || !valsB values)) && decide (b + name.size + vBytes values ≤ 4096)) := by
  rw [look_mk hd hn hb]
  unfold aloneB bareB
  rw [if_neg (by omega), if_neg (by omega), if_pos rfl]
  have e0 : ((kids.length : Int) == 0) = (kids.length == 0) := len_beq kids 0
  rw [e0]
  cases h0 : tr (NameP name)
  · simp
  · cases h1 : valsB values
    · simp
    · cases h2 : value.toList.isEmpty
      · simp
      · cases h4 : kids.length == 0
        · simp
        · obtain ⟨q1, q2⟩ := valsB_ok h1
          have q3 := (tr_iff.1 h0).2.1
          have q4 := vBytes_le q2
          have q5 := size0 _ h2
          obtain rfl := nil_of h4
          rw [Bool.eq_iff_iff]
          simp only [Bool.and_eq_true, decide_eq_true_eq]
          simp [mOkL, mNodesL, mBytesL]
          omega
/-- At an operation with kids. -/
theorem look_kids (hop : op = 5 ∨ op = 6 ∨ op = 7) (hd : d ≤ 8) (hn : n + 1 ≤ 64) (hb : b ≤ 4096) :
    lookB (.mk op name value values kids) d n b = (!(!bareB false false true name.toList.isEmpty value.toList.isEmpty values.length kids.length || (op == 7 && !(kids.length == 1))) && (mOkL kids (d + 1) && decide (n + 1 + mNodesL kids ≤ 64) && decide (b + mBytesL kids ≤ 4096))) := by
  rw [look_mk hd hn hb]
  unfold aloneB bareB
  rw [if_neg (by omega), if_neg (by omega), if_neg (by omega), decide_len]
  cases h1 : name.toList.isEmpty
  · rcases hop with rfl | rfl | rfl <;> simp
  · cases h2 : value.toList.isEmpty
    · rcases hop with rfl | rfl | rfl <;> simp
    · cases h3 : values.length == 0
      · rcases hop with rfl | rfl | rfl <;> simp
      · obtain rfl := nil_of h3
        have s1 := size0 _ h1
        have s2 := size0 _ h2
        have e : b + (name.size + value.size + vBytes []) + mBytesL kids = b + mBytesL kids := by rw [s1, s2]; simp [vBytes]
        rw [Bool.eq_iff_iff]
        rcases hop with rfl | rfl | rfl <;> simp [e]
theorem look_none (ho : op < 0 ∨ 7 < op) : lookB (.mk op name value values kids) d n b = false := by
  unfold lookB holdsB mOk aloneB
  rw [if_neg (by omega), if_neg (by omega), if_neg (by omega), if_neg (by omega), if_neg (by omega)]
  simp
end
end Go.Proofs.YtbefkiebdokbdaaGreat.V
end
