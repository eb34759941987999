/-
  The package ledgers: Copy, Has.
-/
import Derived.Test.YtofnaigkfhfhoaaLPart
import Derived.Test.YtofnaigkfhfhoaaVoidM
import Derived.Test.YtofnaigkfhfhoaaShelfCloneL
import Derived.Shelf.SlMaps.Clone
namespace Go.Proofs.Ytofnaigkfhfhoaa
open Go.RowKit Go.Maps Go.WideShapes Pl Go.Shelf
attribute [local go_sem ↓] Go.wp_at_zero Go.wp_at_succ

set_option maxHeartbeats 1000000 in
theorem clone_led {w : World} {mb : Nat} {L : List Ln} (h : MapL w mb L) :
    Calls Try.prog 72 #[.map (some mb)] w fun e w' => e = .returned (.map (some w.heap.size)) ∧ MapL w' w.heap.size L ∧ Chg [] w w' := by
  obtain ⟨D, ⟨es, clock, hb, hr⟩, hl⟩ := h.owns
  have hc := AnyW.maps_Clone cloneLed mb es clock w hb
  change Calls Try.prog 72 _ _ _ at hc
  refine hc.mono fun e w' ⟨he, hw⟩ => ?_
  subst hw
  exact ⟨he, ⟨⟨D, ⟨es, clock, heap_alloc_new w _, hr⟩, hl⟩, h.sorted, h.small⟩, (Chg.refl _ _).alloc _⟩

set_option maxRecDepth 100000 in
set_option maxHeartbeats 4000000 in
theorem lcopy {w : World} {lb mb : Nat} {S : Nat → Bool} {L : List Ln} (h : IsL w lb mb S L) :
    Calls Try.prog 21 #[.pointer (some ⟨lb, 0, none⟩)] w fun e w' => ∃ lb' mb', e = .returned (.pointer (some ⟨lb', 0, none⟩)) ∧ w.heap.size ≤ lb' ∧ w.heap.size ≤ mb' ∧ IsL w' lb' mb' S L ∧ Chg [] w w' := by
  have HT := Lib.hid (lthere_yes h.cell)
  have hsz : (ledC S mb).toArray.size = 18 := by simp [ledC]
  have KS : Hid (∀ W, Chg [] w W → W.cell? ⟨lb, 17, none⟩ = some (.map (some mb)) ∧ (loadVar 26 ⟨lb, 0, none⟩).run Try.prog W = .ok (.agg #[.bool (S 0), .bool (S 1), .bool (S 2), .bool (S 3), .bool (S 4), .bool (S 5), .bool (S 6), .bool (S 7), .bool (S 8), .bool (S 9), .bool (S 10), .bool (S 11), .bool (S 12), .bool (S 13), .bool (S 14), .bool (S 15), .bool (S 16)]) W) := Lib.hid fun W k =>
    ⟨(h.chg0 k).cell, by
      have := run_loadVar_part (P := Try.prog) W lb 0 17 29 26 (ledC S mb).toArray (0, 0) _ (h.chg0 k).blk Try.underlying26 rfl size_is (by rw [hsz]; omega)
      rw [is_of_led] at this; exact this⟩
  have HI := Lib.hid h
  clear hsz h
  go_enter Try.func21, Try.ntmps21
  go_wp2_with fail
  refine HT.out.mono ?_; rintro e w' ⟨rfl, rfl⟩
  go_wp2_with fail
  have HCC : Hid (Chg [] w w.drew) := Lib.hid (Chg.refl _ _).drew
  refine wp_region_held_drew (S := (fun w' : World => w'.cell? ⟨lb, 17, none⟩ = some (.map (some mb)) ∧ (loadVar 26 ⟨lb, 0, none⟩).run Try.prog w' = .ok (.agg #[.bool (S 0), .bool (S 1), .bool (S 2), .bool (S 3), .bool (S 4), .bool (S 5), .bool (S 6), .bool (S 7), .bool (S 8), .bool (S 9), .bool (S 10), .bool (S 11), .bool (S 12), .bool (S 13), .bool (S 14), .bool (S 15), .bool (S 16)]) w')) (by kernel_rfl) ?_ (fun hHeld => ?_)
  · exact KS.out _ HCC.out
  refine wpAnyH_take (i := 0) (v := ?vc3_0_0) rfl (by kernel_rfl) (by kernel_rfl) (by kernel_rfl) (fun _ _ _ h => h) (Or.inl ⟨by rfl, ?hyc3_0_0⟩) (by assumption) ?_
  case hyc3_0_0 => (intro w hSw; (try dsimp only at hSw); go_simp; try (with_reducible rfl))
  (try simp only [Act.put, List.getElem_toArray, List.getElem_cons_zero, List.setIfInBounds_toArray, List.set_cons_zero, List.set_cons_succ])
  refine wpAnyH_take (i := 1) (v := ?vc3_0_1) rfl (by kernel_rfl) (by kernel_rfl) (by kernel_rfl) (fun _ _ _ h => h) (Or.inl ⟨by rfl, ?hyc3_0_1⟩) (by assumption) ?_
  case hyc3_0_1 => (intro w hSw; (try dsimp only at hSw); go_simp; try (with_reducible rfl))
  (try simp only [Act.put, List.getElem_toArray, List.getElem_cons_zero, List.getElem_cons_succ, List.setIfInBounds_toArray, List.set_cons_zero, List.set_cons_succ])
  refine wpAnyH_take (i := 2) (v := ?vc3_0_2) rfl (by kernel_rfl) (by kernel_rfl) (by kernel_rfl) (fun _ _ _ h => h) (Or.inl ⟨by rfl, ?hyc3_0_2⟩) (by assumption) ?_
  case hyc3_0_2 => (intro w hSw; (try dsimp only at hSw); go_simp; try (with_reducible rfl))
  (try simp only [Act.put, List.getElem_toArray, List.getElem_cons_zero, List.getElem_cons_succ, List.setIfInBounds_toArray, List.set_cons_zero, List.set_cons_succ])
  refine wpAnyH_take (i := 3) (v := ?vc3_0_3) rfl (by kernel_rfl) (by kernel_rfl) (by kernel_rfl) (fun _ _ _ h => h) (Or.inl ⟨by rfl, ?hyc3_0_3⟩) (by assumption) ?_
  case hyc3_0_3 => (intro w hSw; (try dsimp only at hSw); unfold execOp; simp [Act.eval, Instr.loadAt, Instr.sureAddr, Result.andThen_ok, hSw.2]; try (with_reducible rfl))
  (try simp only [Act.put, List.getElem_toArray, List.getElem_cons_zero, List.getElem_cons_succ, List.setIfInBounds_toArray, List.set_cons_zero, List.set_cons_succ])
  refine wpAnyH_take (i := 4) (v := ?vc3_0_4) rfl (by kernel_rfl) (by kernel_rfl) (by kernel_rfl) (fun _ _ _ h => h) (Or.inl ⟨by rfl, ?hyc3_0_4⟩) (by assumption) ?_
  case hyc3_0_4 => (intro w hSw; (try dsimp only at hSw); go_simp; try (with_reducible rfl))
  (try simp only [Act.put, List.getElem_toArray, List.getElem_cons_zero, List.getElem_cons_succ, List.setIfInBounds_toArray, List.set_cons_zero, List.set_cons_succ])
  refine wpAnyH_take (i := 5) (v := ?vc3_0_5) rfl (by kernel_rfl) (by kernel_rfl) (by kernel_rfl) (fun _ _ _ h => h) (Or.inl ⟨by rfl, ?hyc3_0_5⟩) (by assumption) ?_
  case hyc3_0_5 => (intro w hSw; (try dsimp only at hSw); go_simp; try (with_reducible rfl))
  (try simp only [Act.put, List.getElem_toArray, List.getElem_cons_zero, List.getElem_cons_succ, List.setIfInBounds_toArray, List.set_cons_zero, List.set_cons_succ])
  refine wpAnyH_take (i := 6) (v := ?vc3_0_6) rfl (by kernel_rfl) (by kernel_rfl) (by kernel_rfl) (fun _ _ _ h => h) (Or.inl ⟨by rfl, ?hyc3_0_6⟩) (by assumption) ?_
  case hyc3_0_6 => (intro w hSw; (try dsimp only at hSw); go_simp; try (with_reducible rfl))
  (try simp only [Act.put, List.getElem_toArray, List.getElem_cons_zero, List.getElem_cons_succ, List.setIfInBounds_toArray, List.set_cons_zero, List.set_cons_succ])
  refine wpAnyH_take (i := 7) (v := ?vc3_0_7) rfl (by kernel_rfl) (by kernel_rfl) (by kernel_rfl) (fun _ _ _ h => h) (Or.inl ⟨by rfl, ?hyc3_0_7⟩) (by assumption) ?_
  case hyc3_0_7 => (intro w hSw; (try dsimp only at hSw); go_simp; try (with_reducible rfl))
  (try simp only [Act.put, List.getElem_toArray, List.getElem_cons_zero, List.getElem_cons_succ, List.setIfInBounds_toArray, List.set_cons_zero, List.set_cons_succ])
  refine wpAnyH_ready (rs := [8]) (by kernel_rfl) (by simp) (AllReadyH.cons rfl (fun K hK => ?_) AllReadyH.nil)
  go_simp
  (refine (clone_led (HI.out.map.chg HCC.out (by simp))).mono ?_; rintro e w1 ⟨rfl, hm, hc⟩; have HM := Lib.hid hm; have HCC := Lib.hid (HCC.out.trans hc); clear hm hc)
  (try go_wp2_with fail)
  refine hK.out _ _ ?_ (fun hHeld => ?_)
  · exact KS.out _ HCC.out
  clear hK K
  (try simp only [Act.put, List.getElem_toArray, List.getElem_cons_zero, List.getElem_cons_succ, List.setIfInBounds_toArray, List.set_cons_zero, List.set_cons_succ])
  refine wpAnyH_take (i := 9) (v := ?vc3_0_9) rfl (by kernel_rfl) (by kernel_rfl) (by kernel_rfl) (fun _ _ _ h => h) (Or.inl ⟨by rfl, ?hyc3_0_9⟩) (by assumption) ?_
  case hyc3_0_9 => (intro w hSw; (try dsimp only at hSw); go_simp; try (with_reducible rfl))
  (try simp only [Act.put, List.getElem_toArray, List.getElem_cons_zero, List.getElem_cons_succ, List.setIfInBounds_toArray, List.set_cons_zero, List.set_cons_succ])
  refine wpAnyH_ready (rs := [10]) (by kernel_rfl) (by simp) (AllReadyH.cons rfl (fun K hK => ?_) AllReadyH.nil)
  go_simp
  refine hK.out _ _ ?_ (fun hHeld => ?_)
  · exact KS.out _ (HCC.out.alloc _)
  clear hK K
  (try simp only [Act.put, List.getElem_toArray, List.getElem_cons_zero, List.getElem_cons_succ, List.setIfInBounds_toArray, List.set_cons_zero, List.set_cons_succ])
  refine wpAnyH_take (i := 11) (v := ?vc3_0_11) rfl (by kernel_rfl) (by kernel_rfl) (by kernel_rfl) (fun _ _ _ h => h) (Or.inl ⟨by rfl, ?hyc3_0_11⟩) (by assumption) ?_
  case hyc3_0_11 => (intro w hSw; (try dsimp only at hSw); go_simp; try (with_reducible rfl))
  (try simp only [Act.put, List.getElem_toArray, List.getElem_cons_zero, List.getElem_cons_succ, List.setIfInBounds_toArray, List.set_cons_zero, List.set_cons_succ])
  refine wpAnyH_done (by kernel_rfl) ?_ _
  go_wp2
  go_ret
  have hs1 : w.heap.size ≤ w1.heap.size := HCC.out.size
  refine ⟨w1.heap.size, w.heap.size, rfl, hs1, Nat.le_refl _, ⟨?_, HM.out.alloc _, HI.out.good⟩, HCC.out.alloc _⟩
  exact Blk.new w1 29 (ledC S w.heap.size).toArray

theorem lcopy_void {v : Value} {w : World} (h : VoidLed w v) : Calls Try.prog 21 #[v] w fun e w' => e = .returned (.pointer none) ∧ Chg [] w w' := by
  go_enter Try.func21, Try.ntmps21
  go_wp2_with (go_at_call 71; refine (lthere_no h).mono ?_; rintro e w' ⟨rfl, rfl⟩)
  go_ret
  exact ⟨rfl, Chg.refl _ _⟩
theorem llines_void {v : Value} {w : World} (h : VoidLed w v) : Calls Try.prog 27 #[v] w fun e w' => e = .returned (.slice none 0 0) ∧ Chg [] w w' := by
  go_enter Try.func27, Try.ntmps27
  go_wp2_with (go_at_call 71; refine (lthere_no h).mono ?_; rintro e w' ⟨rfl, rfl⟩)
  go_ret
  exact ⟨rfl, Chg.refl _ _⟩
theorem lposition_void {v : Value} {w : World} (h : VoidLed w v) (p u : Int) : Calls Try.prog 36 #[v, .int .u8 p, .int .u8 u] w fun e w' => e = .returned (.int .i64 0) ∧ Chg [] w w' := by
  have HL := Lib.hid (llines_void h)
  clear h
  go_enter Try.func36, Try.ntmps36
  go_wp2_with fail
  refine HL.out.mono ?_; rintro e w1 ⟨rfl, hc⟩
  have HC := Lib.hid hc
  clear hc
  go_wp2
  refine wp_loop_rounds 1 ?_
  rw [rounds_succ]
  go_wp2
  go_ret
  exact ⟨rfl, HC.out⟩
theorem ltotal_void {v : Value} {w : World} (h : VoidLed w v) (u : Int) : Calls Try.prog 24 #[v, .int .u8 u] w fun e w' => e = .returned (.int .i64 0) ∧ Chg [] w w' := by
  have HL := Lib.hid (llines_void h)
  clear h
  go_enter Try.func24, Try.ntmps24
  go_wp2_with fail
  refine HL.out.mono ?_; rintro e w1 ⟨rfl, hc⟩
  have HC := Lib.hid hc
  clear hc
  go_wp2
  refine wp_loop_rounds 1 ?_
  rw [rounds_succ]
  go_wp2
  go_ret
  exact ⟨rfl, HC.out⟩
theorem lhas_void {v : Value} {w : World} (h : VoidLed w v) (p : Int) : Calls Try.prog 53 #[v, .int .u8 p] w fun e w' => e = .returned (.bool false) ∧ Chg [] w w' := by
  go_enter Try.func53, Try.ntmps53
  go_wp2_with fail
  refine (lthere_no h).mono ?_; rintro e w' ⟨rfl, rfl⟩
  go_wp2
  go_ret
  exact ⟨rfl, Chg.refl _ _⟩
theorem lhas {w : World} {lb mb : Nat} {S : Nat → Bool} {L : List Ln} (h : IsL w lb mb S L) {p : Nat} (hp : p < 256) : Calls Try.prog 53 #[.pointer (some ⟨lb, 0, none⟩), .int .u8 p] w fun e w' => e = .returned (.bool (S p)) ∧ Chg [] w w' := by
  have HT := Lib.hid (lthere_yes h.cell)
  by_cases hp1 : 1 ≤ p ∧ p ≤ 16
  · have hcell := h.party (p := p) (by omega)
    generalize S p = b at hcell
    obtain ⟨k1, k2⟩ := hp1
    have k3 : (p : Int) < 17 := by omega
    clear h hp
    go_enter Try.func53, Try.ntmps53
    go_wp2_with fail
    refine HT.out.mono ?_; rintro e w' ⟨rfl, rfl⟩
    go_wp2_with fail
    refine (lmay_yes _ _ (by omega) (by omega)).mono ?_; rintro e w' ⟨rfl, rfl⟩
    go_wp2
    go_ret
    exact ⟨rfl, Chg.refl _ _⟩
  · have hS : S p = false := by
      cases hs : S p with
      | false => rfl
      | true => exact absurd (mem_P16.1 (h.good.pts p hs)) hp1
    rw [hS]
    clear h hp
    go_enter Try.func53, Try.ntmps53
    go_wp2_with fail
    refine HT.out.mono ?_; rintro e w' ⟨rfl, rfl⟩
    go_wp2_with fail
    refine (lmay_no _ _ (by omega)).mono ?_; rintro e w' ⟨rfl, rfl⟩
    go_wp2
    go_ret
    exact ⟨rfl, Chg.refl _ _⟩
end Go.Proofs.Ytofnaigkfhfhoaa
