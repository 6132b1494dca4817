/- varvelaw23.told of query.Answers. -/
import Derived.Test.YtbefkiebdokbdaaGreatAns2
namespace Go.Proofs.YtbefkiebdokbdaaGreat.V
open Go.RowKit
set_option linter.unusedVariables false
set_option maxRecDepth 100000

set_option maxHeartbeats 2000000 in
theorem C_told (ba bi : Nat) (A : Option Addr) (cap : Nat) (xs : List Row) (step m : Int) (w : World) (h1 : 1 ≤ step) (h2 : step ≤ 1099511627776) (hm1 : 1 < m) (hm2 : m < 1000)
    (hask : Blk w ba (askL 0 step 1) 31) (hin : w.cell? ⟨bi, 0, none⟩ = some (.slice A xs.length cap)) (hbi : bi < w.heap.size) (hr : Sl (fun k => k < w.heap.size) w A xs) (hl : xs.length ≤ 1048576)
    (hc : ∀ r ∈ xs, pCheck r.s = true) (hg : ∀ r ∈ xs, r.s.gauge.wf) (hb : ∀ r ∈ xs, HistOk r.s) :
    Calls Tryz.prog 26 #[.func (.func 59) #[] #[.pointer (some ⟨ba, 0, none⟩), .pointer (some ⟨bi, 0, none⟩)], .int .i64 m] w fun e w' =>
      ∃ g o c, e = .returned (.slice (some ⟨g, o, none⟩) 1 c) ∧ AnsAt w' g o (cntA (cntS (winS 0 step xs))) ∧ w.heap.size ≤ g ∧ Below w.heap.size w w' := by
  have hal := hask.lt
  have hnil : ∀ w : World, (binOp BinOp.eql 54 (.func (.func 59) #[] #[.pointer (some ⟨ba, 0, none⟩), .pointer (some ⟨bi, 0, none⟩)]) Value.nilFunc).run Tryz.prog w = .ok (.bool false) w := fun w => by kernel_rfl
  go_enter Tryz.func26, Tryz.ntmps26
  go_wp2_with fail
  obtain ⟨W, hW⟩ : ∃ W, W = (w.alloc (.cells #[.int .i64 m] 3)).alloc (.cells #[.slice none 0 0] 58) := ⟨_, rfl⟩
  have hsz : (w.alloc (.cells #[.int .i64 m] 3)).heap.size = w.heap.size + 1 := by simp
  have hbW : Below w.heap.size w W := hW ▸ ((Below.refl _ _).alloc (Nat.le_refl _) _).alloc (by omega) _
  have hL : Blk W (w.heap.size + 1) [.slice none 0 0] 58 := by
    have := Blk.new (w.alloc (.cells #[.int .i64 m] 3)) [.slice none 0 0] 58
    rw [hsz] at this
    rw [hW]; exact this
  have hM : Blk W w.heap.size [.int .i64 m] 3 := by
    rw [hW]; exact (Blk.new w [.int .i64 m] 3).below ((Below.refl _ _).alloc (Nat.le_refl _) _)
  rw [← hW]
  clear hW hnil
  refine (C_Answers1 (w.heap.size + 1) w.heap.size ba bi A cap xs step m W h1 h2 hm1 (hask.below hbW) (bcell hbW hin) hL (hM.c 0 rfl) (by omega) (by omega) (by omega) ((hr.below hbW).mono (fun k hk h => ⟨hk, by omega⟩)) hl hc hg hb).mono ?_
  rintro e w1 ⟨⟨v, rfl⟩, ⟨g, o, c, q0, q1, q2⟩, hf⟩
  have hz := hbW.size
  have hfin : Below w.heap.size w w1 := hf.to_below hbW (fun k _ e => by omega)
  go_wp2
  go_ret
  exact ⟨g, o, c, rfl, q2, by omega, hfin⟩
end Go.Proofs.YtbefkiebdokbdaaGreat.V
