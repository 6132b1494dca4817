/- Part 12 of the proof: Kmv3. -/
import Derived.StillTailTactics
import Derived.Test.YtbefkiebdokbdaaGreatB11

section
/- Contracts of package kmv: Hash, Merge. -/
namespace Go.Proofs.YtbefkiebdokbdaaGreat.V
open Go.RowKit Go.Maps Go.WideElems
set_option linter.unusedVariables false
set_option maxRecDepth 100000

theorem mapTurned_frm {w w' : World} {g m : Nat} (h : w.mapTurned w' m) : Frm (fun k => k = g ∨ k = m) w w' := Frm.of_grown h.grown (.inr rfl)
/-- The block of a Kmv whole. -/
def KBlk (w : World) (g m : Nat) (top : Int) : Prop := w.heap[g]? = some (.cells #[.map (some m), .int .u64 top] 171 (0, 0))
theorem KBlk.c0 {w : World} {g m : Nat} {top : Int} (h : KBlk w g m top) : w.cell? ⟨g, 0, none⟩ = some (.map (some m)) := by unfold KBlk at h; simp [World.cell?, h]
theorem KBlk.c1 {w : World} {g m : Nat} {top : Int} (h : KBlk w g m top) : w.cell? ⟨g, 1, none⟩ = some (.int .u64 top) := by unfold KBlk at h; simp [World.cell?, h]
theorem KBlk.f1 {w : World} {g m : Nat} {top : Int} (h : KBlk w g m top) : w.frozen? ⟨g, 1, none⟩ = false := by unfold KBlk at h; simp [World.frozen?, h]
theorem KBlk.kept {w w' : World} {g m : Nat} {top : Int} {row : Option Nat} (h : KBlk w g m top) (hg : w.grownBy w' row) (hne : some g ≠ row) : KBlk w' g m top := by
  unfold KBlk at *; rw [hg.block g (Array.getElem?_eq_some_iff.1 h).1 hne]; exact h
theorem KBlk.set {w : World} {g m : Nat} {top : Int} (h : KBlk w g m top) (v : Int) : KBlk (w.setCell ⟨g, 1, none⟩ (.int .u64 v)) g m v := by
  unfold KBlk at *
  have hlt := (Array.getElem?_eq_some_iff.1 h).1
  have h' := (Array.getElem?_eq_some_iff.1 h).2
  show (w.heap.modify g _)[g]? = _
  rw [Array.getElem?_eq_getElem (by simpa using hlt), Array.getElem_modify_self, h']
  rfl

theorem run_look {m n : Nat} {D : DataW Unit} {ks : List Int} {h : Int} {w : World} (ho : w.ownsMap Tryz.prog 29 (plainElem Tryz.prog 3) m n D) (hD : KD D ks) (hh : U64 h) :
    (Instr.lookup 169 (.map (some m)) (.int .u64 h) false).run Tryz.prog w = .ok (.int .i64 (if h ∈ ks then 1 else 0)) w := by
  obtain ⟨c, hrun, hat, _⟩ := ho.lookup_int kk Tryz.underlying169 Tryz.underlying3 (zeroI w) (key_of hh)
  rw [hrun]
  by_cases hin : h ∈ ks
  · rw [if_pos hin]
    rw [hD.at_ h hin] at hat
    unfold one_ at hat
    injection hat with hat
    injection hat with _ hat
    rw [← hat]
  · rw [if_neg hin]
    rw [atKey_of_not_has (by rw [hD.has]; simp [hin])] at hat
    injection hat with hat
    injection hat with _ hat
    rw [← hat]
theorem run_len {m n : Nat} {D : DataW Unit} {ks : List Int} {w : World} (ho : w.ownsMap Tryz.prog 29 (plainElem Tryz.prog 3) m n D) (hD : KD D ks) (ty : TypeId) :
    (Builtin.len_ #[169] ty #[.map (some m)]).run Tryz.prog w = .ok (.int .i64 ks.length) w := by
  rw [ho.len Tryz.underlying169 ty, hD.size]

set_option maxHeartbeats 1000000 in
/-- It is there already, or greater than all of 1024. -/
theorem C_kmv_Hash_no (g m : Nat) (ks : List Int) (h : Int) (w : World) (H : KmvAt w g m ks) (hh : U64 h) (hno : h ∈ ks ∨ (ks.length = 1024 ∧ ∀ x ∈ ks, x < h)) :
    Calls Tryz.prog 132 #[.pointer (some ⟨g, 0, none⟩), .int .u64 h] w fun e w' => e = .returned (.tuple #[]) ∧ w = w' := by
  obtain ⟨n, top, D, hne, hb, ho, hn, hD, hR, hu, hl, ht, htop⟩ := H
  have hB : KBlk w g m top := hb
  have hc0 := hB.c0
  have hc1 := hB.c1
  have hlk := run_look ho hD hh
  have hln := run_len ho hD
  by_cases hin : h ∈ ks
  · rw [if_pos hin] at hlk
    clear hno hin htop
    go_enter Tryz.func132, Tryz.ntmps132
    go_wp2
    refine bodyPost_ret (results_none rfl _ _ _) rfl ?_
    exact ⟨rfl, rfl⟩
  · rw [if_neg hin] at hlk
    obtain ⟨h1, h2⟩ := hno.resolve_left hin
    have h3 : top < h := h2 top (htop h1).2
    rw [h1] at hln
    clear hno hin htop h1 h2
    go_enter Tryz.func132, Tryz.ntmps132
    go_wp2
    refine bodyPost_ret (results_none rfl _ _ _) rfl ?_
    exact ⟨rfl, rfl⟩

theorem kPut_U64 {ks : List Int} {h : Int} (hu : ∀ x ∈ ks, U64 x) (hh : U64 h) : ∀ x ∈ kPut h ks, U64 x := fun x hx => by
  rcases (kPut_mem h ks x).1 hx with rfl | hx
  · exact hh
  · exact hu x hx
theorem rising_nodup {l : List Int} (h : Rising l) : l.Nodup := List.Pairwise.imp (fun h => by omega) h
/-- The greatest of 1025 is struck. -/
theorem take_struck {l : List Int} (hR : Rising l) (hl : l.length = 1025) {t : Int} (ht : t ∈ l) (hm : ∀ x ∈ l, x ≤ t) : ∀ y, y ∈ l.take 1024 ↔ y ≠ t ∧ y ∈ l := by
  have hlast : l[1024]'(by omega) = t := by
    obtain ⟨i, hi, rfl⟩ := List.getElem_of_mem ht
    by_cases e : i = 1024
    · subst e; rfl
    · have h1 := List.pairwise_iff_getElem.1 hR i 1024 hi (by omega) (by omega)
      have h2 := hm _ (List.getElem_mem (show 1024 < l.length by omega))
      omega
  intro y
  constructor
  · intro hy
    refine ⟨?_, List.mem_of_mem_take hy⟩
    rintro rfl
    obtain ⟨i, hi, e⟩ := List.getElem_of_mem hy
    rw [List.length_take] at hi
    rw [List.getElem_take] at e
    have h1 := List.pairwise_iff_getElem.1 hR i 1024 (by omega) (by omega) (by omega)
    omega
  · rintro ⟨hne, hy⟩
    obtain ⟨i, hi, rfl⟩ := List.getElem_of_mem hy
    rw [List.mem_take_iff_getElem]
    refine ⟨i, ?_, rfl⟩
    by_cases e : i = 1024
    · subst e; exact absurd hlast hne
    · omega

set_option maxHeartbeats 2000000 in
/-- Fewer than 1023: it is put in. -/
theorem C_kmv_Hash_few (g m : Nat) (ks : List Int) (h : Int) (w : World) (H : KmvAt w g m ks) (hh : U64 h) (hin : h ∉ ks) (hlen : ks.length < 1023) :
    Calls Tryz.prog 132 #[.pointer (some ⟨g, 0, none⟩), .int .u64 h] w fun e w' => e = .returned (.tuple #[]) ∧ KmvAt w' g m (kPut h ks) ∧ Frm (fun k => k = g ∨ k = m) w w' := by
  obtain ⟨n, top, D, hne, hb, ho, hn, hD, hR, hu, hl, ht, htop⟩ := H
  have hB : KBlk w g m top := hb
  have hc0 := hB.c0
  have hc1 := hB.c1
  have hlk := run_look ho hD hh
  have hln := run_len ho hD
  rw [if_neg hin] at hlk
  have hD' := KD.put hD (ho.tidy kk) hin (kPut_mem h ks) (kPut_len hin)
  have hR' := kPut_rising (h := h) hR
  have hu' := kPut_U64 hu hh
  have hl' := kPut_len hin
  have H1 := Lib.hid hl'
  clear hin htop hl'
  go_enter Tryz.func132, Tryz.ntmps132
  go_wp2_with (at_mapUpdate; refine wpList_mapUpdate_own _ rfl _ _ _ 169 rfl 29 3 kk Tryz.underlying169 _ m n _ rfl ho (by unfold maxLen; omega) _ _ _ rfl rfl (key_of hh) one_ [] (plainElem_int Tryz.underlying3 (by decide)) ?_)
  intro w1 ho1 hg1
  have hB1 := hB.kept hg1 (fun e => hne (by cases e; rfl))
  have hd0 := hB1.c0
  have hd1 := hB1.c1
  have hln1 := run_len ho1 hD'
  have hlt1 : ((kPut h ks).length : Int) < 1024 := by rw [H1.out]; omega
  go_wp2
  go_end0
  refine ⟨rfl, ⟨_, top, _, hne, hB1, tight ho1, ?_, hD', hR', hu', ?_, ht, ?_⟩, Frm.of_grown hg1 (.inr rfl)⟩
  · rw [hD'.size]; omega
  · omega
  · intro e; omega

set_option maxHeartbeats 2000000 in
/-- The 1024th: it is put in, and the greatest is looked for. -/
theorem C_kmv_Hash_full (g m : Nat) (ks : List Int) (h : Int) (w : World) (H : KmvAt w g m ks) (hh : U64 h) (hin : h ∉ ks) (hlen : ks.length = 1023) :
    Calls Tryz.prog 132 #[.pointer (some ⟨g, 0, none⟩), .int .u64 h] w fun e w' => e = .returned (.tuple #[]) ∧ KmvAt w' g m (kPut h ks) ∧ Frm (fun k => k = g ∨ k = m) w w' := by
  obtain ⟨n, top, D, hne, hb, ho, hn, hD, hR, hu, hl, ht, htop⟩ := H
  have hB : KBlk w g m top := hb
  have hc0 := hB.c0
  have hc1 := hB.c1
  have hlk := run_look ho hD hh
  have hln := run_len ho hD
  rw [if_neg hin] at hlk
  have hD' := KD.put hD (ho.tidy kk) hin (kPut_mem h ks) (kPut_len hin)
  have hR' := kPut_rising (h := h) hR
  have hu' := kPut_U64 hu hh
  have hl' : (kPut h ks).length = 1024 := by rw [kPut_len hin, hlen]
  have H1 := Lib.hid hl'
  have H2 := Lib.hid hlen
  rw [hlen] at hln
  have hn0 : kPut h ks ≠ [] := by intro e; rw [e] at hl'; cases hl'
  clear hin htop hl' hlen
  go_enter Tryz.func132, Tryz.ntmps132
  go_wp2_with (at_mapUpdate; refine wpList_mapUpdate_own _ rfl _ _ _ 169 rfl 29 3 kk Tryz.underlying169 _ m n _ rfl ho (by unfold maxLen; omega) _ _ _ rfl rfl (key_of hh) one_ [] (plainElem_int Tryz.underlying3 (by decide)) ?_)
  intro w1 ho1 hg1
  have hB1 := hB.kept hg1 (fun e => hne (by cases e; rfl))
  have hd0 := hB1.c0
  have hln1 := run_len ho1 hD'
  rw [H1.out] at hln1
  go_wp2_with fail
  refine (C_kmv_greatest g m _ (.int .u64 top) _ _ _ hd0 ho1 hD' hu' hn0).mono ?_
  rintro e w2 ⟨v, rfl, hv1, hv2, hb2⟩
  have hB2 := hB1.kept (w' := w2) (row := none) ⟨hb2.os, hb2.tape, hb2.output, hb2.size, fun k hk _ => hb2.block k hk⟩ (by simp)
  have ho2 := ho1.kept (w' := w2) (row := none) ⟨hb2.os, hb2.tape, hb2.output, hb2.size, fun k hk _ => hb2.block k hk⟩ (by simp)
  have hd1 := hB2.c1
  have hf1 := hB2.f1
  have HV := Lib.hid hv2
  clear hv2
  go_wp2
  go_end0
  refine ⟨rfl, ⟨_, v, _, hne, hB2.set v, tight (ho2.setCell (a := ⟨g, 1, none⟩) (fun e => hne e.symm) _), ?_, hD', hR', hu', by have := H1.out; omega, hu' v hv1, fun _ => ⟨HV.out, hv1⟩⟩, ((Frm.of_grown hg1 (.inr rfl)).trans (.of_below hb2)).set (.inr (.inl rfl)) _⟩
  rw [hD'.size]; have := H1.out; omega

set_option maxHeartbeats 4000000 in
/-- Less than the greatest of 1024: it takes its place. -/
theorem C_kmv_Hash_less (g m : Nat) (ks : List Int) (h : Int) (w : World) (H : KmvAt w g m ks) (hh : U64 h) (hin : h ∉ ks) (hlen : ks.length = 1024) (hless : ¬ ∀ x ∈ ks, x < h) :
    Calls Tryz.prog 132 #[.pointer (some ⟨g, 0, none⟩), .int .u64 h] w fun e w' => e = .returned (.tuple #[]) ∧ KmvAt w' g m ((kPut h ks).take 1024) ∧ Frm (fun k => k = g ∨ k = m) w w' := by
  obtain ⟨n, top, D, hne, hb, ho, hn, hD, hR, hu, hl, ht, htop⟩ := H
  obtain ⟨hm1, hm2⟩ := htop hlen
  have hht : h ≤ top := by
    rcases Int.lt_or_le top h with c | c
    · exact absurd (fun x hx => by have := hm1 x hx; omega) hless
    · exact c
  have hB : KBlk w g m top := hb
  have hc0 := hB.c0
  have hc1 := hB.c1
  have hlk := run_look ho hD hh
  have hln := run_len ho hD
  rw [if_neg hin] at hlk
  have hD' := KD.put hD (ho.tidy kk) hin (kPut_mem h ks) (kPut_len hin)
  have hR' := kPut_rising (h := h) hR
  have hu' := kPut_U64 hu hh
  have hl' : (kPut h ks).length = 1025 := by rw [kPut_len hin, hlen]
  have hmem := take_struck hR' hl' (t := top) ((kPut_mem h ks top).2 (.inr hm2)) (fun x hx => by rcases (kPut_mem h ks x).1 hx with rfl | hx; · exact hht
                                                                                                 · exact hm1 x hx)
  have htl : ((kPut h ks).take 1024).length = 1024 := by rw [List.length_take, hl']; rfl
  have HTin := (kPut_mem h ks top).2 (.inr hm2)
  have H1 := Lib.hid hl'
  have H2 := Lib.hid hlen
  have H3 := Lib.hid hmem
  have H4 := Lib.hid htl
  rw [hlen] at hln
  have hn0 : (kPut h ks).take 1024 ≠ [] := by intro e; rw [e] at htl; cases htl
  have hut : ∀ x ∈ (kPut h ks).take 1024, U64 x := fun x hx => hu' x (List.mem_of_mem_take hx)
  clear hin htop hl' hlen hm1 hm2 hless hmem htl
  go_enter Tryz.func132, Tryz.ntmps132
  go_wp2_with (at_mapUpdate; refine wpList_mapUpdate_own _ rfl _ _ _ 169 rfl 29 3 kk Tryz.underlying169 _ m n _ rfl ho (by unfold maxLen; omega) _ _ _ rfl rfl (key_of hh) one_ [] (plainElem_int Tryz.underlying3 (by decide)) ?_)
  intro w1 ho1 hg1
  have hB1 := hB.kept hg1 (fun e => hne (by cases e; rfl))
  have hd0 := hB1.c0
  have hd1 := hB1.c1
  have hln1 := run_len ho1 hD'
  rw [H1.out] at hln1
  have hD2 := KD.del hD' (ho1.tidy kk) HTin H3.out (by rw [H4.out, H1.out])
  go_wp2_with fail
  refine wp_region_still_tail 8 (by kernel_rfl) (by kernel_rfl) ?_
  simp only [List.take_succ_cons, List.take_zero, List.drop_succ_cons, List.drop_zero]
  change wpStill _ _ w1.drew _ _ _
  repeat still_step
  refine wpStill_nil ?_
  change wpList _ _ _ _ _ w1.drew
  refine wpList_delete_own (w := w1.drew) rfl _ _ 169 29 rfl 3 kk Tryz.underlying169 _ m (n+1) _ rfl ho1.drew _ _ rfl (key_of ht) ?_
  intro w2 ho2 hturn
  have hB2 := hB1.kept (w' := w2) (row := some m) (gb_trans (gb_drew (World.grownBy.refl _ _)) hturn.grown) (fun e => hne (by cases e; rfl))
  have hln2 := run_len ho2 hD2
  rw [H4.out] at hln2
  have he0 := hB2.c0
  go_wp2_with fail
  refine (C_kmv_greatest g m _ (.int .u64 top) _ _ _ he0 ho2 hD2 hut hn0).mono ?_
  rintro e w3 ⟨v, rfl, hv1, hv2, hb3⟩
  have hB3 := hB2.kept (w' := w3) (row := none) ⟨hb3.os, hb3.tape, hb3.output, hb3.size, fun k hk _ => hb3.block k hk⟩ (by simp)
  have ho3 := ho2.kept (w' := w3) (row := none) ⟨hb3.os, hb3.tape, hb3.output, hb3.size, fun k hk _ => hb3.block k hk⟩ (by simp)
  have hf1 := hB3.f1
  have he1 := hB3.c1
  have HV := Lib.hid hv2
  clear hv2
  go_wp2
  go_end0
  refine ⟨rfl, ⟨_, v, _, hne, hB3.set v, tight (ho3.setCell (a := ⟨g, 1, none⟩) (fun e => hne e.symm) _), ?_, hD2, hR'.sublist (List.take_sublist _ _), hut, by have := H4.out; omega, hut v hv1, fun _ => ⟨HV.out, hv1⟩⟩, ((((Frm.of_grown hg1 (.inr rfl)).drew).trans (mapTurned_frm hturn)).trans (.of_below hb3)).set (p := ⟨g, 1, none⟩) (.inr (.inl rfl)) _⟩
  rw [hD2.size]; have := H4.out; omega

/-- A hash more. -/
theorem C_kmv_Hash (g m : Nat) (ks : List Int) (h : Int) (w : World) (H : KmvAt w g m ks) (hh : U64 h) :
    Calls Tryz.prog 132 #[.pointer (some ⟨g, 0, none⟩), .int .u64 h] w fun e w' => e = .returned (.tuple #[]) ∧ KmvAt w' g m (kIns ks h) ∧ Frm (fun k => k = g ∨ k = m) w w' := by
  have hR : Rising ks := by obtain ⟨_, _, _, _, _, _, _, _, hR, _⟩ := H; exact hR
  have hl : ks.length ≤ 1024 := by obtain ⟨_, _, _, _, _, _, _, _, _, _, hl, _⟩ := H; exact hl
  by_cases hin : h ∈ ks
  · have e : kIns ks h = ks := by rw [kIns, kPut_in hR hin, List.take_of_length_le hl]
    rw [e]
    exact (C_kmv_Hash_no g m ks h w H hh (.inl hin)).mono fun e w' ⟨he, hw⟩ => ⟨he, hw ▸ H, hw ▸ Frm.refl _ _⟩
  · by_cases h1 : ks.length < 1023
    · have e : kIns ks h = kPut h ks := by rw [kIns, List.take_of_length_le (by rw [kPut_len hin]; omega)]
      rw [e]; exact C_kmv_Hash_few g m ks h w H hh hin h1
    · by_cases h2 : ks.length = 1023
      · have e : kIns ks h = kPut h ks := by rw [kIns, List.take_of_length_le (by rw [kPut_len hin]; omega)]
        rw [e]; exact C_kmv_Hash_full g m ks h w H hh hin h2
      · by_cases h3 : ∀ x ∈ ks, x < h
        · have e : kIns ks h = ks := by rw [kIns, kPut_far h3, List.take_left' (by omega)]
          rw [e]
          exact (C_kmv_Hash_no g m ks h w H hh (.inr ⟨by omega, h3⟩)).mono fun e w' ⟨he, hw⟩ => ⟨he, hw ▸ H, hw ▸ Frm.refl _ _⟩
        · exact C_kmv_Hash_less g m ks h w H hh hin (by omega) h3

theorem C_kmv_Merge (ok : Nat → Prop) (g m : Nat) (ks : List Int) (A : Option Addr) (cap : Nat) (xs : List Int) (w : World) (hr : Sl ok w A xs) (hok : ∀ k, ok k → k ≠ g ∧ k ≠ m) (H : KmvAt w g m ks) (hc : kchk xs = true) :
    Calls Tryz.prog 120 #[.pointer (some ⟨g, 0, none⟩), .slice A xs.length cap] w fun e w' => e = .returned (.int .i64 0) ∧ KmvAt w' g m (kAll ks xs) ∧ Frm (fun k => k = g ∨ k = m) w w' := by
  have hlen := hr.1
  go_enter Tryz.func120, Tryz.ntmps120
  go_wp2_with (go_at_call 45; refine (C_kmv_Check ok _ _ xs _ hr).mono ?_; rintro e w1 ⟨rfl, hb1⟩)
  go_loopw [6, 16] (fun x i wr => ∃ (k : Nat), k ≤ xs.length ∧ i = .int .i64 k ∧ KmvAt wr g m (kAll ks (xs.take k)) ∧ Frm (fun k => k = g ∨ k = m) w wr) (fun _ i _ => xs.length - (intOf i).toNat)
  case atStart => exact ⟨0, Nat.zero_le _, rfl, H.below (by assumption), .of_below (by assumption)⟩
  case round =>
    obtain ⟨k, hk, rfl, HH, hf⟩ := hrel
    by_cases hlt : k < xs.length
    · obtain ⟨b, off, rfl, _, hbl, h1, hu⟩ := (hr.keep (hf.keeps (fun j _ hj e => by have := hok j hj; omega))).num hlt
      have hkk : kAll ks (xs.take (k + 1)) = kIns (kAll ks (xs.take k)) xs[k] := by
        unfold kAll; rw [List.take_succ_eq_append_getElem hlt, List.foldl_append]; rfl
      have HK := Lib.hid hkk
      clear hkk
      go_wp2_with fail
      refine (C_kmv_Hash g m _ _ _ HH hu).mono ?_
      rintro e w2 ⟨rfl, HH2, hf2⟩
      go_wp2
      go_roundw
      case rel => exact ⟨k + 1, by omega, by go_num, by rw [HK.out]; exact HH2, hf.trans (hf2.mono (fun _ _ h => h))⟩
      case measure => simp [intOf]; omega
    · have hkk : k = xs.length := by omega
      rw [hkk, List.take_length] at HH
      go_wp2
      go_ret
      exact ⟨rfl, HH, hf⟩
end Go.Proofs.YtbefkiebdokbdaaGreat.V
end
