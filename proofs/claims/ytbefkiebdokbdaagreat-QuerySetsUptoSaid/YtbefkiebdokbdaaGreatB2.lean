/- Part 2 of the proof: Gauge. -/
import Derived.Deep.RegionWith
import Derived.StillTailTactics
import Derived.Deep.RegionHeld3
import Derived.Test.YtbefkiebdokbdaaGreatB1

section
/- Contracts of package gauge. -/
namespace Go.Proofs.YtbefkiebdokbdaaGreat.V
open Go.RowKit
set_option linter.unusedVariables false
set_option maxRecDepth 100000

def gCheck (g : Gauge) : Bool := if g.n = 0 then (g.lo == 0 && g.hi == 0) else !fNaN g.lo && !fNaN g.hi && !fLess g.hi g.lo
def gMerge (a b : Gauge) : Gauge :=
  { n := satAdd a.n b.n, nans := satAdd a.nans b.nans,
    lo := if a.n = 0 then b.lo else if b.n = 0 then a.lo else if fLess b.lo a.lo = true then b.lo else a.lo,
    hi := if a.n = 0 then b.hi else if b.n = 0 then a.hi else if fLess a.hi b.hi = true then b.hi else a.hi }
theorem gMerge_wf {a b : Gauge} (ha : a.wf) (hb : b.wf) : (gMerge a b).wf := by
  obtain ⟨a1, a2, a3, a4⟩ := ha
  obtain ⟨b1, b2, b3, b4⟩ := hb
  refine ⟨satAdd_U64 a1 b1, satAdd_U64 a2 b2, ?_, ?_⟩
  · simp only [gMerge]; repeat' split
    all_goals assumption
  · simp only [gMerge]; repeat' split
    all_goals assumption

theorem C_gauge_Check (g : Gauge) (w : World) (hg : g.wf) :
    Calls Tryz.prog 46 #[.agg #[.int .u64 g.n, .int .u64 g.nans, .int .u64 g.lo, .int .u64 g.hi]] w fun e w' => e = .returned (.bool (gCheck g)) ∧ Below w.heap.size w w' := by
  obtain ⟨h1, h2, h3, h4⟩ := hg
  by_cases h0 : g.n = 0
  · have hb : (g.n == 0) = true := by simp [h0]
    have hl : gCheck g = (g.lo == 0 && g.hi == 0) := by rw [gCheck, if_pos h0]
    have HL := Lib.hid hl
    clear h0 hl
    go_enter Tryz.func46, Tryz.ntmps46
    go_wp2
    all_goals go_ret
    all_goals refine ⟨ret_b ?_, (Below.refl _ _).alloc (Nat.le_refl _) _⟩
    all_goals (rw [HL.out]; simp [*])
  · have hb : (g.n == 0) = false := by simp [h0]
    cases hl : fNaN g.lo <;> cases hh : fNaN g.hi
    all_goals
      go_enter Tryz.func46, Tryz.ntmps46
      go_wp2_with (first | (go_at_call 78; refine (C_none _ _).mono ?_; rintro e w' ⟨rfl, rfl⟩) | (go_at_call 79; refine (C_flo_Less _ _ _ (by assumption) (by assumption)).mono ?_; rintro e w' ⟨rfl, rfl⟩))
      go_ret
      refine ⟨ret_b ?_, (Below.refl _ _).alloc (Nat.le_refl _) _⟩
      simp [gCheck, h0, hl, hh]

set_option maxHeartbeats 2000000 in
theorem C_gauge_Merge (a b : Gauge) (w : World) (ha : a.wf) (hb : b.wf) :
    Calls Tryz.prog 121 #[.agg #[.int .u64 a.n, .int .u64 a.nans, .int .u64 a.lo, .int .u64 a.hi], .agg #[.int .u64 b.n, .int .u64 b.nans, .int .u64 b.lo, .int .u64 b.hi]] w
      fun e w' => e = .returned (.agg #[.int .u64 (gMerge a b).n, .int .u64 (gMerge a b).nans, .int .u64 (gMerge a b).lo, .int .u64 (gMerge a b).hi]) ∧ Below w.heap.size w w' := by
  obtain ⟨a1, a2, a3, a4⟩ := ha
  obtain ⟨b1, b2, b3, b4⟩ := hb
  have key : gMerge a b = { n := satAdd a.n b.n, nans := satAdd a.nans b.nans, lo := (gMerge a b).lo, hi := (gMerge a b).hi } := rfl
  by_cases h0 : a.n = 0
  · have hb0 : (a.n == 0) = true := by simp [h0]
    have e1 : (gMerge a b).lo = b.lo := by simp [gMerge, h0]
    have e2 : (gMerge a b).hi = b.hi := by simp [gMerge, h0]
    have H1 := Lib.hid e1
    have H2 := Lib.hid e2
    clear h0 key e1 e2
    go_enter Tryz.func121, Tryz.ntmps121
    go_wp2_with fail
    go_region_held3 (fun w' => w'.cell? ⟨w.heap.size, 0, none⟩ = some (.int .u64 a.n) ∧ w'.cell? ⟨w.heap.size, 1, none⟩ = some (.int .u64 a.nans) ∧ w'.cell? ⟨w.heap.size + 1, 0, none⟩ = some (.int .u64 b.n) ∧ w'.cell? ⟨w.heap.size + 1, 1, none⟩ = some (.int .u64 b.nans)) (go_keep) (first | (go_at_call 106; refine (C_wide_Add _ _ _ (by assumption) (by assumption)).mono ?_; rintro e w' ⟨rfl, rfl⟩))
    all_goals go_wp2
    refine bodyPost_ret (v := .agg #[.int .u64 (satAdd a.n b.n), .int .u64 (satAdd a.nans b.nans), .int .u64 b.lo, .int .u64 b.hi]) (by simp [results, Tryz.results121, go_sem]) rfl ⟨?_, ?_⟩
    · rw [H1.out, H2.out]; rfl
    · (repeat (first | exact Below.refl _ _ | assumption | refine Below.drew ?_ | refine Below.alloc ?_ (by simp <;> omega) _ | refine Below.setCell ?_ (by simp <;> omega) _))
  · have hb0 : (a.n == 0) = false := by simp [h0]
    by_cases h1 : b.n = 0
    · have hb1 : (b.n == 0) = true := by simp [h1]
      have e1 : (gMerge a b).lo = a.lo := by simp [gMerge, h0, h1]
      have e2 : (gMerge a b).hi = a.hi := by simp [gMerge, h0, h1]
      have H1 := Lib.hid e1
      have H2 := Lib.hid e2
      clear h0 h1 key e1 e2
      go_enter Tryz.func121, Tryz.ntmps121
      go_wp2_with fail
      go_region_held3 (fun w' => w'.cell? ⟨w.heap.size, 0, none⟩ = some (.int .u64 a.n) ∧ w'.cell? ⟨w.heap.size, 1, none⟩ = some (.int .u64 a.nans) ∧ w'.cell? ⟨w.heap.size + 1, 0, none⟩ = some (.int .u64 b.n) ∧ w'.cell? ⟨w.heap.size + 1, 1, none⟩ = some (.int .u64 b.nans)) (go_keep) (first | (go_at_call 106; refine (C_wide_Add _ _ _ (by assumption) (by assumption)).mono ?_; rintro e w' ⟨rfl, rfl⟩))
      all_goals go_wp2
      refine bodyPost_ret (v := .agg #[.int .u64 (satAdd a.n b.n), .int .u64 (satAdd a.nans b.nans), .int .u64 a.lo, .int .u64 a.hi]) (by simp [results, Tryz.results121, go_sem]) rfl ⟨?_, ?_⟩
      · rw [H1.out, H2.out]; rfl
      · (repeat (first | exact Below.refl _ _ | assumption | refine Below.drew ?_ | refine Below.alloc ?_ (by simp <;> omega) _ | refine Below.setCell ?_ (by simp <;> omega) _))
    · have hb1 : (b.n == 0) = false := by simp [h1]
      obtain ⟨lo, hlo⟩ : ∃ lo, lo = (gMerge a b).lo := ⟨_, rfl⟩
      have e1 : (gMerge a b).lo = if fLess b.lo a.lo = true then b.lo else a.lo := by simp [gMerge, h0, h1]
      have e2 : (gMerge a b).hi = if fLess a.hi b.hi = true then b.hi else a.hi := by simp [gMerge, h0, h1]
      have H1 := Lib.hid e1
      have H2 := Lib.hid e2
      clear h0 h1 key e1 e2 hlo lo
      cases l1 : fLess b.lo a.lo <;> cases l2 : fLess a.hi b.hi
      all_goals
        go_enter Tryz.func121, Tryz.ntmps121
        go_wp2_with fail
        go_region_held3 (fun w' => w'.cell? ⟨w.heap.size, 0, none⟩ = some (.int .u64 a.n) ∧ w'.cell? ⟨w.heap.size, 1, none⟩ = some (.int .u64 a.nans) ∧ w'.cell? ⟨w.heap.size + 1, 0, none⟩ = some (.int .u64 b.n) ∧ w'.cell? ⟨w.heap.size + 1, 1, none⟩ = some (.int .u64 b.nans)) (go_keep) (first | (go_at_call 106; refine (C_wide_Add _ _ _ (by assumption) (by assumption)).mono ?_; rintro e w' ⟨rfl, rfl⟩))
        all_goals go_wp2_with (go_at_call 79; refine (C_flo_Less _ _ _ (by assumption) (by assumption)).mono ?_; rintro e w' ⟨rfl, rfl⟩)
        refine bodyPost_ret (v := .agg #[.int .u64 (satAdd a.n b.n), .int .u64 (satAdd a.nans b.nans), .int .u64 (if fLess b.lo a.lo = true then b.lo else a.lo), .int .u64 (if fLess a.hi b.hi = true then b.hi else a.hi)]) (by simp [results, Tryz.results121, go_sem, l1, l2]) rfl ⟨?_, ?_⟩
        · rw [H1.out, H2.out]; rfl
        · (repeat (first | exact Below.refl _ _ | assumption | refine Below.drew ?_ | refine Below.alloc ?_ (by simp <;> omega) _ | refine Below.setCell ?_ (by simp <;> omega) _))
end Go.Proofs.YtbefkiebdokbdaaGreat.V
end
