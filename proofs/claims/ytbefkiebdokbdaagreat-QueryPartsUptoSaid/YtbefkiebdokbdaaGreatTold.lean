/- varvelaw23.told$1: the first answer laid. -/
import Derived.Test.YtbefkiebdokbdaaGreatWin0
namespace Go.Proofs.YtbefkiebdokbdaaGreat.V
open Go.RowKit
set_option linter.unusedVariables false
set_option maxRecDepth 100000

theorem el_Answer : ElemOf Tryz.prog 58 47 (Rep.sz Answer) 32 := ElemOf.mk' (z := .agg #[.int .i64 0, .bool false, .int .u64 0, .int .i64 0]) Tryz.underlying58 (by kernel_rfl) rfl

set_option maxHeartbeats 2000000 in
/-- The closure that told hands on, at the first answer: the list lies in block bl, its bound in block bm. -/
theorem C_told1 (bl bm : Nat) (a : Answer) (m : Int) (tl : Nat) (w : World) (ha : a.wf) (hl : Blk w bl [.slice none 0 0] tl) (hm : w.cell? ⟨bm, 0, none⟩ = some (.int .i64 m)) (hne : bl ≠ bm) (h1 : 1 < m) :
    Calls Tryz.prog 62 #[.agg (encAnswer a).toArray, .pointer (some ⟨bl, 0, none⟩), .pointer (some ⟨bm, 0, none⟩)] w fun e w' => e = .returned (.bool true) ∧
      ∃ B c, Blk w' bl [.slice B 1 c] tl ∧ Sl (fun k => w.heap.size ≤ k) w' B [a] ∧ Frm (fun k => k = bl) w w' := by
  have hbl := hl.lt
  have hbm : bm < w.heap.size := by
    by_cases h : bm < w.heap.size
    · exact h
    · have : w.heap[bm]? = none := by rw [Array.getElem?_eq_none_iff]; omega
      simp [World.cell?, this] at hm
  have x0 := hl.c 0 rfl
  have xf := hl.f 0
  have n1 : bl ≠ w.heap.size := by omega
  have n2 : bm ≠ w.heap.size := by omega
  have n3 : w.heap.size ≠ bl := by omega
  have n4 : w.heap.size ≠ bm := by omega
  unfold encAnswer
  go_enter Tryz.func62, Tryz.ntmps62
  go_wp2_with (at_builtin; (refine wpOwn_append1 (encAnswer a) a rfl _ _ 58 47 47 32 (w.heap.size + 1) rfl rfl el_Answer (xs := []) rfl (Own.nil _ _ _) (by rw [World.size_alloc]; rfl) ⟨rfl, ha⟩ (by simp) (by simp) (by simp) ?_))
  intro v' w1 ho1 hg1 hat
  obtain ⟨B, c, rfl, hsl⟩ := ho1.sl (by have := hg1.size; simp at this; omega)
  obtain ⟨W, hW⟩ : ∃ W, W = w.alloc (.cells (encAnswer a).toArray 47) := ⟨_, rfl⟩
  have hbW : Below w.heap.size w W := hW ▸ (Below.refl _ _).alloc (Nat.le_refl _) _
  have hg1' : W.grownBy w1 (Value.ownBlock (.slice none 0 0)) := by rw [hW]; exact hg1
  have hf1 : Frm (fun _ => False) w w1 := (Frm.of_below hbW).trans ⟨hg1'.os, hg1'.tape, hg1'.output, hg1'.size, fun k hk _ => hg1'.block k hk (fun e => by cases e)⟩
  have hl1 := hl.frm hf1 (fun h => h)
  have y0 := hl1.c 0 rfl
  have yf := hl1.f 0
  have hm1 : w1.cell? ⟨bm, 0, none⟩ = some (.int .i64 m) := fcell hf1 (fun h => h) hm
  clear x0 xf hm hg1 hg1' hbW hW
  have hfl := ho1.flat (w' := w1.setCell ⟨bl, 0, none⟩ (.slice B 1 c)) (fun _ _ _ _ _ _ h => h) (((Frm.refl (fun k => k = bl) w1).one rfl 0 (.slice B 1 c)).mono (fun k _ e => by omega))
  have hset := hl1.set 0 (.slice B 1 c)
  have hfin := (hf1.mono (S' := fun k => k = bl) (fun _ _ h => h.elim)).one rfl 0 (.slice B 1 c)
  clear hf1 hl1
  go_wp2
  go_ret
  exact ⟨rfl, B, c, hset, hfl.mono (fun k _ h => by omega), hfin⟩

theorem C_Windows (start step n : Int) (w : World) :
    Calls Tryz.prog 60 #[.int .i64 start, .int .i64 step, .int .i64 n] w fun e w' => e = .returned (.func (.func 95) #[] #[.pointer (some ⟨w.heap.size + 1, 0, none⟩), .pointer (some ⟨w.heap.size + 2, 0, none⟩), .pointer (some ⟨w.heap.size, 0, none⟩)]) ∧
      Blk w' w.heap.size [.int .i64 start] 3 ∧ Blk w' (w.heap.size + 1) [.int .i64 step] 3 ∧ Blk w' (w.heap.size + 2) [.int .i64 n] 3 ∧ Below w.heap.size w w' ∧ w'.heap.size = w.heap.size + 3 := by
  go_enter Tryz.func60, Tryz.ntmps60
  go_wp2
  go_ret
  have ba : ∀ (X : World) (o : Obj), Below X.heap.size X (X.alloc o) := fun X o => (Below.refl _ _).alloc (Nat.le_refl _) o
  have s1 : (w.alloc (.cells #[.int .i64 start] 3)).heap.size = w.heap.size + 1 := by simp
  have s2 : ((w.alloc (.cells #[.int .i64 start] 3)).alloc (.cells #[.int .i64 step] 3)).heap.size = w.heap.size + 2 := by simp
  have n0 := Blk.new w [.int .i64 start] 3
  have n1 := Blk.new (w.alloc (.cells #[.int .i64 start] 3)) [.int .i64 step] 3
  have n2 := Blk.new ((w.alloc (.cells #[.int .i64 start] 3)).alloc (.cells #[.int .i64 step] 3)) [.int .i64 n] 3
  rw [s1] at n1
  rw [s2] at n2
  exact ⟨rfl, (n0.below (ba _ _)).below (ba _ _), n1.below (ba _ _), n2, (((Below.refl _ _).alloc (Nat.le_refl _) _).alloc (by omega) _).alloc (by omega) _, by simp⟩
end Go.Proofs.YtbefkiebdokbdaaGreat.V
