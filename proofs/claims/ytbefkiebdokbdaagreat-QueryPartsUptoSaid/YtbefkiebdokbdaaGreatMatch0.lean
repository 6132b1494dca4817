/- Contracts of package match at the matcher that means all: the zero value. -/
import Derived.Test.YtbefkiebdokbdaaGreatRowC
namespace Go.Proofs.YtbefkiebdokbdaaGreat.V
open Go.RowKit
set_option linter.unusedVariables false
set_option maxRecDepth 100000

@[reducible] def mz : List Value := [.int .i64 0, .string ⟨#[]⟩, .string ⟨#[]⟩, .slice none 0 0, .slice none 0 0]
theorem empty_no : ¬ NameP ⟨#[]⟩ := fun h => by have := h.1; simp [ByteArray.size] at this

theorem C_alone_z (w : World) : Calls Tryz.prog 103 #[.agg mz.toArray] w fun e w' => e = .returned (.bool true) ∧ Below w.heap.size w w' := by
  have hcall : ∀ w, Calls Tryz.prog 124 #[.string ⟨#[]⟩] w fun e w' => e = .returned (.bool false) ∧ w = w' := fun w => (C_label_Name _ w (by simp [StrOk, ByteArray.size])).mono fun e w' h => ⟨by rw [h.1, tr_no empty_no], h.2⟩
  have HC := Lib.hid hcall
  clear hcall
  go_enter Tryz.func103, Tryz.ntmps103
  go_wp2_with (go_at_call 124; refine (HC.out _).mono ?_; rintro e w' ⟨rfl, rfl⟩)
  go_ret
  exact ⟨rfl, (Below.refl _ _).alloc (Nat.le_refl _) _⟩

theorem C_holds_z (g : Nat) (w : World) (hB : Blk w g [.int .i64 64, .int .i64 4096] 116) :
    Calls Tryz.prog 70 #[.pointer (some ⟨g, 0, none⟩), .agg mz.toArray, .int .i64 1] w fun e w' => e = .returned (.bool true) ∧ Frm (fun k => k = g) w w' := by
  have hg := hB.lt
  go_enter Tryz.func70, Tryz.ntmps70
  have x0 := hB.c 0 rfl
  have x1 := hB.c 1 rfl
  have f0 := hB.f 0
  have f1 := hB.f 1
  have hne : g ≠ w.heap.size := by omega
  have hne' : w.heap.size ≠ g := by omega
  go_wp2_with fail
  obtain ⟨Z, hZ⟩ : ∃ Z, Z = (w.setCell ⟨g, 0, none⟩ (.int .i64 63)).alloc (.cells mz.toArray 28) := ⟨_, rfl⟩
  have hFZ : Frm (fun k => k = g) w Z := by
    rw [hZ]; exact ((Frm.refl (fun k => k = g) w).one rfl 0 (.int .i64 63)).alloc _
  have hBZ : Blk Z g [.int .i64 63, .int .i64 4096] 116 := by
    rw [hZ]; exact (hB.set 0 (.int .i64 63)).below ((Below.refl _ _).alloc (Nat.le_refl _) _)
  have hMZ : Blk Z w.heap.size mz 28 := by
    rw [hZ]
    have := Blk.new (w.setCell ⟨g, 0, none⟩ (.int .i64 63)) mz 28
    simpa [World.setCell] using this
  rw [← hZ]
  clear hZ x0 x1 f0 f1
  refine (C_alone_z Z).mono ?_
  rintro e w1 ⟨rfl, hb1⟩
  have hF1 := hFZ.trans (.of_below hb1)
  have hB1 := hBZ.below hb1
  have hM1 := hMZ.below hb1
  clear hFZ hBZ hMZ hb1
  have x1 := hB1.c 1 rfl
  have f1 := hB1.f 1
  have y1 := hM1.c 1 rfl
  have y2 := hM1.c 2 rfl
  go_wp2_with fail
  refine wp_region_still_tail 14 (by kernel_rfl) (by kernel_rfl) ?_
  simp only [List.take_succ_cons, List.take_zero, List.drop_succ_cons, List.drop_zero]
  change wpStill _ _ w1.drew _ _ _
  repeat still_step
  refine wpStill_nil ?_
  change wpList _ _ _ _ _ w1.drew
  have y3 := hM1.c 3 rfl
  have y4 := hM1.c 4 rfl
  go_wp2
  refine wp_loop_rounds 1 ?_
  rw [rounds_succ]
  go_wp2
  refine wp_loop_rounds 1 ?_
  rw [rounds_succ]
  go_wp2
  go_ret
  exact ⟨rfl, hF1.drew.one rfl 1 _⟩

theorem C_match_Check_z (w : World) : Calls Tryz.prog 36 #[.agg mz.toArray] w fun e w' => e = .returned (.bool true) ∧ Below w.heap.size w w' := by
  go_enter Tryz.func36, Tryz.ntmps36
  go_wp2_with fail
  have hB := Blk.new (w.alloc (.cells mz.toArray 28)) [.int .i64 64, .int .i64 4096] 116
  have hs : (w.alloc (.cells mz.toArray 28)).heap.size = w.heap.size + 1 := by simp
  rw [hs] at hB
  have hb : Below w.heap.size w ((w.alloc (.cells mz.toArray 28)).alloc (.cells [.int .i64 64, .int .i64 4096].toArray 116)) := ((Below.refl _ _).alloc (Nat.le_refl _) _).alloc (by omega) _
  refine (C_holds_z _ _ hB).mono ?_
  rintro e w1 ⟨rfl, hf⟩
  go_wp2
  go_ret
  exact ⟨rfl, hf.to_below hb (fun k _ e => by omega)⟩
theorem C_match_eval_z (ok : Nat → Prop) (A : Option Addr) (cap : Nat) (xs : List Label) (w : World) (hr : Sl ok w A xs) : Calls Tryz.prog 118 #[.agg mz.toArray, .slice A xs.length cap] w fun e w' => e = .returned (.bool true) ∧ Below w.heap.size w w' := by
  have hc := fun w h => C_label_Value ok A cap xs ⟨#[]⟩ w h
  go_enter Tryz.func118, Tryz.ntmps118
  go_wp2_with fail
  have hB := Blk.new w mz 28
  have hb : Below w.heap.size w (w.alloc (.cells mz.toArray 28)) := (Below.refl _ _).alloc (Nat.le_refl _) _
  refine (hc _ (hr.below hb)).mono ?_
  rintro e w1 ⟨rfl, hb1⟩
  have hB1 := hB.below hb1
  have x0 := hB1.c 0 rfl
  have hb2 := hb.trans (hb1.mono hb.size)
  clear hB hB1
  go_wp2
  go_ret
  exact ⟨rfl, hb2⟩
theorem C_match_Eval_z (ok : Nat → Prop) (A : Option Addr) (cap : Nat) (xs : List Label) (w : World) (hr : Sl ok w A xs) : Calls Tryz.prog 94 #[.agg mz.toArray, .slice A xs.length cap] w fun e w' => e = .returned (.bool true) ∧ Below w.heap.size w w' := by
  have hc := fun w h => C_match_eval_z ok A cap xs w h
  go_enter Tryz.func94, Tryz.ntmps94
  go_wp2_with fail
  have hB := Blk.new w mz 28
  have hb : Below w.heap.size w (w.alloc (.cells mz.toArray 28)) := (Below.refl _ _).alloc (Nat.le_refl _) _
  refine (C_match_Check_z _).mono ?_
  rintro e w1 ⟨rfl, hb1⟩
  have hB1 := hB.below hb1
  have hb2 := hb.trans (hb1.mono hb.size)
  have x0 := hB1.c 0 rfl
  have x1 := hB1.c 1 rfl
  have x2 := hB1.c 2 rfl
  have x3 := hB1.c 3 rfl
  have x4 := hB1.c 4 rfl
  clear hB hB1
  go_wp2_with fail
  refine (hc _ (hr.below hb2)).mono ?_
  rintro e w2 ⟨rfl, hb3⟩
  go_wp2
  go_ret
  exact ⟨rfl, hb2.trans (hb3.mono hb2.size)⟩
end Go.Proofs.YtbefkiebdokbdaaGreat.V
