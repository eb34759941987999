/-
  The law PaymentsBack, walked.
-/
import Derived.Test.YtofnaigkfhfhoaaPayStep
import Derived.Test.YtofnaigkfhfhoaaLives9
namespace Go.Proofs.Ytofnaigkfhfhoaa
open Go.RowKit Go.Maps Pl
attribute [local go_sem ↓] Go.wp_at_zero Go.wp_at_succ

set_option maxRecDepth 100000 in
set_option maxHeartbeats 8000000 in
theorem paymentsBack_walk {w : World} {va : Value} {l : List Deed} {a b c : Nat} {n : Int} (hl : RdAct w va l) (ha : a < 256) (hb : b < 256) (hc : c < 256) (hn : -9223372036854775808 ≤ n ∧ n ≤ 9223372036854775807) :
    Calls Try.prog 13 #[va, .agg #[.int .u8 a, .int .u8 b, .int .u8 c, .int .i64 n]] w fun e w' => e = .returned (.bool true) ∧ Chg [] w w' := by
  have HLV := Lib.hid (fun W => lives9 W)
  have HA := Lib.hid hl
  obtain ⟨ao, acap, rfl⟩ := rdact_shape hl
  clear hl
  by_cases hla : 120 < l.length
  · have hla1 : (120 : Int) < l.length := by omega
    go_enter Try.func13, Try.ntmps13
    go_wp2_with fail
    refine (HLV.out _).mono ?_; rintro e w' ⟨rfl, hc⟩
    have HC := Lib.hid hc
    clear hc
    go_wp2
    go_ret
    exact ⟨rfl, ((Chg.refl _ _).alloc _).trans HC.out⟩
  have hla1 : (l.length : Int) ≤ 120 := by omega
  have HX0 := Lib.hid (Blk.new w 25 #[.int .u8 a, .int .u8 b, .int .u8 c, .int .i64 n])
  have HCX : Hid (Chg [] w (w.alloc (.cells #[.int .u8 a, .int .u8 b, .int .u8 c, .int .i64 n] 25))) := Lib.hid ((Chg.refl _ _).alloc _)
  obtain ⟨W0, hW0⟩ : ∃ W0, W0 = w.alloc (.cells #[.int .u8 a, .int .u8 b, .int .u8 c, .int .i64 n] 25) := ⟨_, rfl⟩
  obtain ⟨xb, hxb⟩ : ∃ xb, xb = w.heap.size := ⟨_, rfl⟩
  rw [← hW0] at HX0 HCX
  rw [← hxb] at HX0
  have KX : Hid (∀ W, Chg [] W0 W → W.cell? ⟨xb, 0, none⟩ = some (.int .u8 a) ∧ W.cell? ⟨xb, 1, none⟩ = some (.int .u8 b) ∧ W.cell? ⟨xb, 2, none⟩ = some (.int .u8 c) ∧ W.cell? ⟨xb, 3, none⟩ = some (.int .i64 n)) := Lib.hid fun W k => ⟨(HX0.out.chg k (by simp)).cell 0, (HX0.out.chg k (by simp)).cell 1, (HX0.out.chg k (by simp)).cell 2, (HX0.out.chg k (by simp)).cell 3⟩
  go_enter Try.func13, Try.ntmps13
  go_wp2_with fail
  rw [← hW0, ← hxb]
  clear hW0 hxb HX0
  refine (lmade (rdact_chg0 HA.out HCX.out) (by omega)).mono ?_
  rintro e w1 ⟨lb, mb, rfl, hled⟩
  obtain ⟨S, L, hI, hcp⟩ := tl_copy hled
  have HCP := Lib.hid hcp
  clear hled hI hcp HA
  go_wp2_with fail
  refine HCP.out.mono ?_
  rintro e w2 ⟨cb, nb, rfl, ht⟩
  have HT := Lib.hid ht
  have HG := Lib.hid ht.l.good
  have HSS := Lib.hid (And.intro ht.l.map.sorted ht.l.map.small)
  have HABC := Lib.hid (And.intro ha (And.intro hb hc))
  have KP := Lib.hid (lpay HT.out.l ha hb hc (n := n) hn.2)
  have HN := Lib.hid hn.2
  clear ht HCP ha hb hc hn
  obtain ⟨x1, x2, x3, x4⟩ := KX.out w2 HT.out.ch
  go_wp2_with fail
  refine KP.out.mono ?_
  rintro e w3 ⟨he, hI, hch⟩
  have HT3 := Lib.hid (HT.out.step hI hch (by simp))
  clear hI hch x1 x2 x3 x4 KP HT
  obtain ⟨cn, hcn⟩ : ∃ cn, cn = payN S L a b c n := ⟨_, rfl⟩
  rw [← hcn] at he
  clear hcn
  by_cases hE : payE S L a b c n ≠ 0
  · obtain ⟨r, hr, hr0⟩ : ∃ r, e = .returned (.tuple #[.int .i64 cn, .int .i64 r]) ∧ (r != 0) = true := ⟨_, he, by simpa using hE⟩
    subst hr
    clear he hE
    go_wp2_with fail
    refine (HLV.out _).mono ?_; rintro e w4 ⟨rfl, hch⟩
    have HT4 := Lib.hid (HT3.out.chg0 hch)
    clear hch
    go_wp2
    go_ret
    exact ⟨rfl, HCX.out.trans HT4.out.ch⟩
  have hE : payE S L a b c n = 0 := by omega
  have HB := Lib.hid (pay_back HG.out HSS.out.1 HSS.out.2 HABC.out.2.2 hE)
  rw [hE] at he
  subst he
  clear hE
  have KP := Lib.hid (lpay HT3.out.l HABC.out.2.1 HABC.out.1 HABC.out.2.2 (n := n) HN.out)
  rw [HB.out.1] at KP
  obtain ⟨cn2, hcn⟩ : ∃ cn2, cn2 = payN S (payL S L a b c n) b a c n := ⟨_, rfl⟩
  rw [← hcn] at KP
  clear hcn
  obtain ⟨x1, x2, x3, x4⟩ := KX.out w3 HT3.out.ch
  go_wp2_with fail
  refine KP.out.mono ?_
  rintro e w4 ⟨rfl, hI, hch⟩
  have HT4 := Lib.hid (HT3.out.step hI hch (by simp))
  have HF := Lib.hid HB.out.2
  clear hI hch x1 x2 x3 x4 KP HT3 HB
  generalize payL S (payL S L a b c n) b a c n = LP at HT4 HF
  have KS := Lib.hid (sound_c HT4.out HF.out.2.1)
  have KM : Hid (∀ W, TL W0 W lb mb cb nb S LP S L → ∀ p : Nat, Calls Try.prog 31 #[.pointer (some ⟨lb, 0, none⟩), .pointer (some ⟨cb, 0, none⟩), .int .u8 p, .int .u8 c, .int .i64 0] W fun e w' => e = .returned (.bool true) ∧ Chg [] W w') := Lib.hid fun W h p => moved_c h p c (by decide) (by rw [HF.out.2.2.1]; omega)
  obtain ⟨m, hm⟩ : ∃ m, m = mostF (capsL S L c) a b := ⟨_, rfl⟩
  have KM1 : Hid (∀ W, TL W0 W lb mb cb nb S LP S L → Calls Try.prog 17 #[.pointer (some ⟨lb, 0, none⟩), .int .u8 a, .int .u8 b, .int .u8 c] W fun e w' => e = .returned (.int .i64 m) ∧ Chg [] W w') := Lib.hid fun W h => by rw [hm, ← HF.out.2.2.2]; exact pmost h.l a b HABC.out.2.2
  have KM2 : Hid (∀ W, TL W0 W lb mb cb nb S LP S L → Calls Try.prog 17 #[.pointer (some ⟨cb, 0, none⟩), .int .u8 a, .int .u8 b, .int .u8 c] W fun e w' => e = .returned (.int .i64 m) ∧ Chg [] W w') := Lib.hid fun W h => by rw [hm]; exact pmost h.c a b HABC.out.2.2
  clear hm HF HG HSS HN
  go_wp2_with fail
  refine KS.out.mono ?_; rintro e w5 ⟨rfl, hch⟩
  have HT5 := Lib.hid (HT4.out.chg0 hch)
  clear hch KS HT4
  go_wp2
  go_loopw [11] (fun i wr => ∃ k : Nat, 1 ≤ k ∧ k ≤ 17 ∧ i = .int .u8 k ∧ Hid (TL W0 wr lb mb cb nb S LP S L)) (fun i _ => 17 - (intOf i).toNat)
  case atStart => exact ⟨1, by omega, by omega, rfl, HT5⟩
  case round =>
    obtain ⟨k, hk1, hk, rfl, HT⟩ := hrel
    by_cases hlt : k ≤ 16
    · obtain ⟨x1, x2, x3, x4⟩ := KX.out wr HT.out.ch
      go_wp2_with fail
      refine (KM.out _ HT.out k).mono ?_; rintro e w6 ⟨rfl, hch⟩
      have HT6 := Lib.hid (HT.out.chg0 hch)
      clear hch x1 x2 x3 x4
      go_wp2
      go_roundw
      case rel => exact ⟨k + 1, by omega, by omega, by go_num, HT6⟩
      case measure => simp [intOf]; omega
    · obtain rfl : k = 17 := by omega
      go_wp2_with fail
      have HCC : Hid (Chg [] wr wr.drew) := Lib.hid (Chg.refl _ _).drew
      refine wp_region_held_drew (S := (fun W : World => W.cell? ⟨xb, 0, none⟩ = some (.int .u8 a) ∧ W.cell? ⟨xb, 1, none⟩ = some (.int .u8 b) ∧ W.cell? ⟨xb, 2, none⟩ = some (.int .u8 c) ∧ W.cell? ⟨xb, 3, none⟩ = some (.int .i64 n))) (by kernel_rfl) ?_ (fun hHeld => ?_)
      · exact KX.out _ (HT.out.ch.trans HCC.out)
      refine wpAnyH_take (i := 0) (v := ?vr16_0_0) rfl (by kernel_rfl) (by kernel_rfl) (by kernel_rfl) (fun _ _ _ h => h) (Or.inl ⟨by rfl, ?hyr16_0_0⟩) (by assumption) ?_
      case hyr16_0_0 => (intro w hSw; (try dsimp only at hSw); go_simp; try (with_reducible rfl))
      (try simp only [Act.put, List.getElem_toArray, List.getElem_cons_zero, List.setIfInBounds_toArray, List.set_cons_zero, List.set_cons_succ])
      refine wpAnyH_take (i := 1) (v := ?vr16_0_1) rfl (by kernel_rfl) (by kernel_rfl) (by kernel_rfl) (fun _ _ _ h => h) (Or.inl ⟨by rfl, ?hyr16_0_1⟩) (by assumption) ?_
      case hyr16_0_1 => (intro w hSw; (try dsimp only at hSw); go_simp; try (with_reducible rfl))
      (try simp only [Act.put, List.getElem_toArray, List.getElem_cons_zero, List.getElem_cons_succ, List.setIfInBounds_toArray, List.set_cons_zero, List.set_cons_succ])
      refine wpAnyH_take (i := 2) (v := ?vr16_0_2) rfl (by kernel_rfl) (by kernel_rfl) (by kernel_rfl) (fun _ _ _ h => h) (Or.inl ⟨by rfl, ?hyr16_0_2⟩) (by assumption) ?_
      case hyr16_0_2 => (intro w hSw; (try dsimp only at hSw); go_simp; try (with_reducible rfl))
      (try simp only [Act.put, List.getElem_toArray, List.getElem_cons_zero, List.getElem_cons_succ, List.setIfInBounds_toArray, List.set_cons_zero, List.set_cons_succ])
      refine wpAnyH_take (i := 3) (v := ?vr16_0_3) rfl (by kernel_rfl) (by kernel_rfl) (by kernel_rfl) (fun _ _ _ h => h) (Or.inl ⟨by rfl, ?hyr16_0_3⟩) (by assumption) ?_
      case hyr16_0_3 => (intro w hSw; (try dsimp only at hSw); go_simp; try (with_reducible rfl))
      (try simp only [Act.put, List.getElem_toArray, List.getElem_cons_zero, List.getElem_cons_succ, List.setIfInBounds_toArray, List.set_cons_zero, List.set_cons_succ])
      refine wpAnyH_take (i := 4) (v := ?vr16_0_4) rfl (by kernel_rfl) (by kernel_rfl) (by kernel_rfl) (fun _ _ _ h => h) (Or.inl ⟨by rfl, ?hyr16_0_4⟩) (by assumption) ?_
      case hyr16_0_4 => (intro w hSw; (try dsimp only at hSw); go_simp; try (with_reducible rfl))
      (try simp only [Act.put, List.getElem_toArray, List.getElem_cons_zero, List.getElem_cons_succ, List.setIfInBounds_toArray, List.set_cons_zero, List.set_cons_succ])
      refine wpAnyH_take (i := 5) (v := ?vr16_0_5) rfl (by kernel_rfl) (by kernel_rfl) (by kernel_rfl) (fun _ _ _ h => h) (Or.inl ⟨by rfl, ?hyr16_0_5⟩) (by assumption) ?_
      case hyr16_0_5 => (intro w hSw; (try dsimp only at hSw); go_simp; try (with_reducible rfl))
      (try simp only [Act.put, List.getElem_toArray, List.getElem_cons_zero, List.getElem_cons_succ, List.setIfInBounds_toArray, List.set_cons_zero, List.set_cons_succ])
      refine wpAnyH_take (i := 6) (v := ?vr16_0_6) rfl (by kernel_rfl) (by kernel_rfl) (by kernel_rfl) (fun _ _ _ h => h) (Or.inl ⟨by rfl, ?hyr16_0_6⟩) (by assumption) ?_
      case hyr16_0_6 => (intro w hSw; (try dsimp only at hSw); go_simp; try (with_reducible rfl))
      (try simp only [Act.put, List.getElem_toArray, List.getElem_cons_zero, List.getElem_cons_succ, List.setIfInBounds_toArray, List.set_cons_zero, List.set_cons_succ])
      refine wpAnyH_take (i := 8) (v := ?vr16_0_8) rfl (by kernel_rfl) (by kernel_rfl) (by kernel_rfl) (fun _ _ _ h => h) (Or.inl ⟨by rfl, ?hyr16_0_8⟩) (by assumption) ?_
      case hyr16_0_8 => (intro w hSw; (try dsimp only at hSw); go_simp; try (with_reducible rfl))
      (try simp only [Act.put, List.getElem_toArray, List.getElem_cons_zero, List.getElem_cons_succ, List.setIfInBounds_toArray, List.set_cons_zero, List.set_cons_succ])
      refine wpAnyH_take (i := 9) (v := ?vr16_0_9) rfl (by kernel_rfl) (by kernel_rfl) (by kernel_rfl) (fun _ _ _ h => h) (Or.inl ⟨by rfl, ?hyr16_0_9⟩) (by assumption) ?_
      case hyr16_0_9 => (intro w hSw; (try dsimp only at hSw); go_simp; try (with_reducible rfl))
      (try simp only [Act.put, List.getElem_toArray, List.getElem_cons_zero, List.getElem_cons_succ, List.setIfInBounds_toArray, List.set_cons_zero, List.set_cons_succ])
      refine wpAnyH_take (i := 10) (v := ?vr16_0_10) rfl (by kernel_rfl) (by kernel_rfl) (by kernel_rfl) (fun _ _ _ h => h) (Or.inl ⟨by rfl, ?hyr16_0_10⟩) (by assumption) ?_
      case hyr16_0_10 => (intro w hSw; (try dsimp only at hSw); go_simp; try (with_reducible rfl))
      (try simp only [Act.put, List.getElem_toArray, List.getElem_cons_zero, List.getElem_cons_succ, List.setIfInBounds_toArray, List.set_cons_zero, List.set_cons_succ])
      refine wpAnyH_take (i := 11) (v := ?vr16_0_11) rfl (by kernel_rfl) (by kernel_rfl) (by kernel_rfl) (fun _ _ _ h => h) (Or.inl ⟨by rfl, ?hyr16_0_11⟩) (by assumption) ?_
      case hyr16_0_11 => (intro w hSw; (try dsimp only at hSw); go_simp; try (with_reducible rfl))
      (try simp only [Act.put, List.getElem_toArray, List.getElem_cons_zero, List.getElem_cons_succ, List.setIfInBounds_toArray, List.set_cons_zero, List.set_cons_succ])
      refine wpAnyH_take (i := 12) (v := ?vr16_0_12) rfl (by kernel_rfl) (by kernel_rfl) (by kernel_rfl) (fun _ _ _ h => h) (Or.inl ⟨by rfl, ?hyr16_0_12⟩) (by assumption) ?_
      case hyr16_0_12 => (intro w hSw; (try dsimp only at hSw); go_simp; try (with_reducible rfl))
      (try simp only [Act.put, List.getElem_toArray, List.getElem_cons_zero, List.getElem_cons_succ, List.setIfInBounds_toArray, List.set_cons_zero, List.set_cons_succ])
      refine wpAnyH_take (i := 13) (v := ?vr16_0_13) rfl (by kernel_rfl) (by kernel_rfl) (by kernel_rfl) (fun _ _ _ h => h) (Or.inl ⟨by rfl, ?hyr16_0_13⟩) (by assumption) ?_
      case hyr16_0_13 => (intro w hSw; (try dsimp only at hSw); go_simp; try (with_reducible rfl))
      (try simp only [Act.put, List.getElem_toArray, List.getElem_cons_zero, List.getElem_cons_succ, List.setIfInBounds_toArray, List.set_cons_zero, List.set_cons_succ])
      refine wpAnyH_take (i := 14) (v := ?vr16_0_14) rfl (by kernel_rfl) (by kernel_rfl) (by kernel_rfl) (fun _ _ _ h => h) (Or.inl ⟨by rfl, ?hyr16_0_14⟩) (by assumption) ?_
      case hyr16_0_14 => (intro w hSw; (try dsimp only at hSw); go_simp; try (with_reducible rfl))
      (try simp only [Act.put, List.getElem_toArray, List.getElem_cons_zero, List.getElem_cons_succ, List.setIfInBounds_toArray, List.set_cons_zero, List.set_cons_succ])
      refine wpAnyH_ready (rs := [7]) (by kernel_rfl) (by simp) (AllReadyH.cons rfl (fun K hK => ?_) AllReadyH.nil)
      go_simp
      (refine (KM1.out _ (HT.out.chg0 HCC.out)).mono ?_; rintro e w' ⟨rfl, hch⟩; have HCC := Lib.hid (HCC.out.trans hch); clear hch)
      (try go_wp2_with fail)
      refine hK.out _ _ ?_ (fun hHeld => ?_)
      · exact KX.out _ (HT.out.ch.trans HCC.out)
      clear hK K
      (try simp only [Act.put, List.getElem_toArray, List.getElem_cons_zero, List.getElem_cons_succ, List.setIfInBounds_toArray, List.set_cons_zero, List.set_cons_succ])
      refine wpAnyH_ready (rs := [15]) (by kernel_rfl) (by simp) (AllReadyH.cons rfl (fun K hK => ?_) AllReadyH.nil)
      go_simp
      (refine (KM2.out _ (HT.out.chg0 HCC.out)).mono ?_; rintro e w' ⟨rfl, hch⟩; have HCC := Lib.hid (HCC.out.trans hch); clear hch)
      (try go_wp2_with fail)
      refine hK.out _ _ ?_ (fun hHeld => ?_)
      · exact KX.out _ (HT.out.ch.trans HCC.out)
      clear hK K
      (try simp only [Act.put, List.getElem_toArray, List.getElem_cons_zero, List.getElem_cons_succ, List.setIfInBounds_toArray, List.set_cons_zero, List.set_cons_succ])
      refine wpAnyH_take (i := 16) (v := ?vr16_0_16) rfl (by kernel_rfl) (by kernel_rfl) (by kernel_rfl) (fun _ _ _ h => h) (Or.inl ⟨by rfl, ?hyr16_0_16⟩) (by assumption) ?_
      case hyr16_0_16 => (intro w hSw; (try dsimp only at hSw); go_simp; try (with_reducible rfl))
      (try simp only [Act.put, List.getElem_toArray, List.getElem_cons_zero, List.getElem_cons_succ, List.setIfInBounds_toArray, List.set_cons_zero, List.set_cons_succ])
      refine wpAnyH_take (i := 17) (v := ?vr16_0_17) rfl (by kernel_rfl) (by kernel_rfl) (by kernel_rfl) (fun _ _ _ h => h) (Or.inl ⟨by rfl, ?hyr16_0_17⟩) (by assumption) ?_
      case hyr16_0_17 => (intro w hSw; (try dsimp only at hSw); go_simp; try (with_reducible rfl))
      (try simp only [Act.put, List.getElem_toArray, List.getElem_cons_zero, List.getElem_cons_succ, List.setIfInBounds_toArray, List.set_cons_zero, List.set_cons_succ])
      refine wpAnyH_ready (rs := [18]) (by kernel_rfl) (by simp) (AllReadyH.cons rfl (fun K hK => ?_) AllReadyH.nil)
      go_simp
      (refine (HLV.out _).mono ?_; rintro e w' ⟨rfl, hch⟩; have HCC := Lib.hid (HCC.out.trans hch); clear hch)
      (try go_wp2_with fail)
      refine hK.out _ _ ?_ (fun hHeld => ?_)
      · exact KX.out _ (HT.out.ch.trans HCC.out)
      clear hK K
      (try simp only [Act.put, List.getElem_toArray, List.getElem_cons_zero, List.getElem_cons_succ, List.setIfInBounds_toArray, List.set_cons_zero, List.set_cons_succ])
      refine wpAnyH_take (i := 19) (v := ?vr16_0_19) rfl (by kernel_rfl) (by kernel_rfl) (by kernel_rfl) (fun _ _ _ h => h) (Or.inl ⟨by rfl, ?hyr16_0_19⟩) (by assumption) ?_
      case hyr16_0_19 => (intro w hSw; (try dsimp only at hSw); go_simp; try (with_reducible rfl))
      (try simp only [Act.put, List.getElem_toArray, List.getElem_cons_zero, List.getElem_cons_succ, List.setIfInBounds_toArray, List.set_cons_zero, List.set_cons_succ])
      refine wpAnyH_take (i := 20) (v := ?vr16_0_20) rfl (by kernel_rfl) (by kernel_rfl) (by kernel_rfl) (fun _ _ _ h => h) (Or.inl ⟨by rfl, ?hyr16_0_20⟩) (by assumption) ?_
      case hyr16_0_20 => (intro w hSw; (try dsimp only at hSw); go_simp; try (with_reducible rfl))
      (try simp only [Act.put, List.getElem_toArray, List.getElem_cons_zero, List.getElem_cons_succ, List.setIfInBounds_toArray, List.set_cons_zero, List.set_cons_succ])
      refine wpAnyH_done (by kernel_rfl) ?_ _
      go_wp2
      go_ret
      exact ⟨rfl, HCX.out.trans (HT.out.ch.trans HCC.out)⟩
end Go.Proofs.Ytofnaigkfhfhoaa
