/-
  The law PaymentsMoves, walked.
-/
import Derived.Test.YtofnaigkfhfhoaaPayStep
import Derived.Test.YtofnaigkfhfhoaaLives9
import Derived.Test.YtofnaigkfhfhoaaCut
namespace Go.Proofs.Ytofnaigkfhfhoaa
open Go.RowKit Go.Maps Pl
attribute [local go_sem ↓] Go.wp_at_zero Go.wp_at_succ

theorem payE_cases (S : Nat → Bool) (L : List Ln) (f t u : Nat) (n : Int) : payE S L f t u n = 1 ∨ (payE S L f t u n = 7 ∧ (S f && S t) = false) ∨ payE S L f t u n = 11 ∨ payE S L f t u n = 0 := by
  unfold payE
  by_cases h1 : badP f t u n
  · left; rw [if_pos h1]
  · rw [if_neg h1]
    by_cases h2 : (S f && S t) = false
    · right; left; rw [if_pos h2]; exact ⟨rfl, h2⟩
    · rw [if_neg h2]
      right; right
      by_cases h3 : payG S L f t u n < n
      · left; rw [if_pos h3]
      · right; rw [if_neg h3]

set_option maxRecDepth 100000 in
set_option maxHeartbeats 8000000 in
theorem paymentsMoves_walk {w : World} {va : Value} {l : List Deed} {a b c : Nat} {n : Int} (hl : RdAct w va l) (ha : a < 256) (hb : b < 256) (hc : c < 256) (hn : -9223372036854775808 ≤ n ∧ n ≤ 9223372036854775807) :
    Calls Try.prog 12 #[va, .agg #[.int .u8 a, .int .u8 b, .int .u8 c, .int .i64 n]] w fun e w' => e = .returned (.bool true) ∧ Chg [] w w' := by
  have HLV := Lib.hid (fun W => lives9 W)
  have HA := Lib.hid hl
  obtain ⟨ao, acap, rfl⟩ := rdact_shape hl
  clear hl
  by_cases hla : 120 < l.length
  · have hla1 : (120 : Int) < l.length := by omega
    go_enter Try.func12, Try.ntmps12
    go_wp2_with fail
    refine (HLV.out _).mono ?_; rintro e w' ⟨rfl, hc⟩
    have HC := Lib.hid hc
    clear hc
    go_wp2
    go_ret
    exact ⟨rfl, ((Chg.refl _ _).alloc _).trans HC.out⟩
  have hla1 : (l.length : Int) ≤ 120 := by omega
  have HX0 := Lib.hid (Blk.new w 25 #[.int .u8 a, .int .u8 b, .int .u8 c, .int .i64 n])
  have HCX : Hid (Chg [] w (w.alloc (.cells #[.int .u8 a, .int .u8 b, .int .u8 c, .int .i64 n] 25))) := Lib.hid ((Chg.refl _ _).alloc _)
  obtain ⟨W0, hW0⟩ : ∃ W0, W0 = w.alloc (.cells #[.int .u8 a, .int .u8 b, .int .u8 c, .int .i64 n] 25) := ⟨_, rfl⟩
  obtain ⟨xb, hxb⟩ : ∃ xb, xb = w.heap.size := ⟨_, rfl⟩
  rw [← hW0] at HX0 HCX
  rw [← hxb] at HX0
  have KX : Hid (∀ W, Chg [] W0 W → W.cell? ⟨xb, 0, none⟩ = some (.int .u8 a) ∧ W.cell? ⟨xb, 1, none⟩ = some (.int .u8 b) ∧ W.cell? ⟨xb, 2, none⟩ = some (.int .u8 c) ∧ W.cell? ⟨xb, 3, none⟩ = some (.int .i64 n)) := Lib.hid fun W k => ⟨(HX0.out.chg k (by simp)).cell 0, (HX0.out.chg k (by simp)).cell 1, (HX0.out.chg k (by simp)).cell 2, (HX0.out.chg k (by simp)).cell 3⟩
  go_enter Try.func12, Try.ntmps12
  go_wp2_with fail
  rw [← hW0, ← hxb]
  clear hW0 hxb HX0
  refine (lmade (rdact_chg0 HA.out HCX.out) (by omega)).mono ?_
  rintro e w1 ⟨lb, mb, rfl, hled⟩
  obtain ⟨S, L, hI, hcp⟩ := tl_copy hled
  have HCP := Lib.hid hcp
  clear hled hI hcp HA
  go_wp2_with fail
  refine HCP.out.mono ?_
  rintro e w2 ⟨cb, nb, rfl, ht⟩
  have HT := Lib.hid ht
  have HG := Lib.hid ht.l.good
  have HSS := Lib.hid (And.intro ht.l.map.sorted ht.l.map.small)
  have HABC := Lib.hid (And.intro ha (And.intro hb hc))
  have HN := Lib.hid hn.2
  obtain ⟨m, hm⟩ : ∃ m, m = mostF (capsL S L c) a b := ⟨_, rfl⟩
  have HM := Lib.hid hm
  have KM := Lib.hid (pmost HT.out.l a b hc)
  rw [← hm] at KM
  clear ht HCP ha hb hc hn hm
  obtain ⟨x1, x2, x3, x4⟩ := KX.out w2 HT.out.ch
  go_wp2_with fail
  refine KM.out.mono ?_; rintro e w2' ⟨rfl, hch⟩
  replace HT := Lib.hid (HT.out.chg0 hch)
  have KP := Lib.hid (lpay HT.out.l HABC.out.1 HABC.out.2.1 HABC.out.2.2 (n := n) HN.out)
  clear hch x1 x2 x3 x4 KM
  obtain ⟨x1, x2, x3, x4⟩ := KX.out w2' HT.out.ch
  go_wp2_with fail
  refine KP.out.mono ?_
  rintro e w3 ⟨he, hI, hch⟩
  have HT3 := Lib.hid (HT.out.step hI hch (by simp))
  clear hI hch x1 x2 x3 x4 KP HT
  rcases payE_cases S L a b c n with hE | ⟨hE, hst⟩ | hE | hE
  · -- not to be asked for
    have HL : payL S L a b c n = L ∧ payN S L a b c n = 0 := by unfold payL payN; rw [hE]; exact ⟨rfl, rfl⟩
    rw [hE, HL.2] at he
    subst he
    have HT4 := Lib.hid (HL.1 ▸ HT3.out)
    clear HL HT3
    go_wp2_with fail
    refine (llines_rd HT4.out.l).mono ?_; rintro e w6 ⟨⟨v1, rfl, hv1⟩, hch⟩
    have HV1 := Lib.hid hv1
    have HT6 := Lib.hid (HT4.out.chg0 hch)
    clear hch hv1
    go_wp2_with fail
    refine (llines_rd HT6.out.c).mono ?_; rintro e w7 ⟨⟨v2, rfl, hv2⟩, hch⟩
    have HT7 := Lib.hid (HT6.out.chg0 hch)
    have KS := Lib.hid (tl_same (HV1.out.chg0 hch) hv2 (by have := HG.out.few; omega))
    rw [decide_eq_true rfl] at KS
    clear hch hv2
    go_wp2_with fail
    refine KS.out.mono ?_; rintro e w8 ⟨rfl, hch⟩
    have HT8 := Lib.hid (HT7.out.chg0 hch)
    clear hch KS HV1 HT6 HT7
    go_wp2_with fail
    refine (HLV.out _).mono ?_; rintro e w9 ⟨rfl, hch⟩
    have HT9 := Lib.hid (HT8.out.chg0 hch)
    clear hch
    go_wp2
    go_ret
    exact ⟨rfl, HCX.out.trans HT9.out.ch⟩
  · -- somebody is not there
    have HL : payL S L a b c n = L ∧ payN S L a b c n = 0 := by unfold payL payN; rw [hE]; exact ⟨rfl, rfl⟩
    rw [hE, HL.2] at he
    subst he
    have HT4 := Lib.hid (HL.1 ▸ HT3.out)
    clear HL HT3
    go_wp2_with fail
    refine (llines_rd HT4.out.l).mono ?_; rintro e w6 ⟨⟨v1, rfl, hv1⟩, hch⟩
    have HV1 := Lib.hid hv1
    have HT6 := Lib.hid (HT4.out.chg0 hch)
    clear hch hv1
    go_wp2_with fail
    refine (llines_rd HT6.out.c).mono ?_; rintro e w7 ⟨⟨v2, rfl, hv2⟩, hch⟩
    have HT7 := Lib.hid (HT6.out.chg0 hch)
    have KS := Lib.hid (tl_same (HV1.out.chg0 hch) hv2 (by have := HG.out.few; omega))
    rw [decide_eq_true rfl] at KS
    clear hch hv2
    go_wp2_with fail
    refine KS.out.mono ?_; rintro e w8 ⟨rfl, hch⟩
    have HT8 := Lib.hid (HT7.out.chg0 hch)
    clear hch KS HV1 HT6 HT7
    obtain ⟨x1, x2, x3, x4⟩ := KX.out _ HT8.out.ch
    cases hsa : S a with
    | false =>
      have K1 := Lib.hid (lhas HT8.out.c HABC.out.1)
      rw [hsa] at K1
      clear hsa hst
      go_wp2_with fail
      refine K1.out.mono ?_; rintro e w9 ⟨rfl, hch⟩
      replace HT8 := Lib.hid (HT8.out.chg0 hch)
      clear hch
      go_wp2_with fail
      refine (HLV.out _).mono ?_; rintro e w10 ⟨rfl, hch⟩
      have HT9 := Lib.hid (HT8.out.chg0 hch)
      clear hch
      go_wp2
      go_ret
      exact ⟨rfl, HCX.out.trans HT9.out.ch⟩
    | true =>
      have hsb : S b = false := by rw [hsa] at hst; simpa using hst
      have K1 := Lib.hid (lhas HT8.out.c HABC.out.1)
      have K2 := Lib.hid (fun W (h : TL W0 W lb mb cb nb S L S L) => lhas h.c HABC.out.2.1)
      rw [hsa] at K1
      rw [hsb] at K2
      clear hsa hsb hst
      go_wp2_with fail
      refine K1.out.mono ?_; rintro e w9 ⟨rfl, hch⟩
      replace HT8 := Lib.hid (HT8.out.chg0 hch)
      clear hch x1 x2 x3 x4
      obtain ⟨x1, x2, x3, x4⟩ := KX.out _ HT8.out.ch
      go_wp2_with fail
      refine (K2.out _ HT8.out).mono ?_; rintro e w10 ⟨rfl, hch⟩
      replace HT8 := Lib.hid (HT8.out.chg0 hch)
      clear hch
      go_wp2_with fail
      refine (HLV.out _).mono ?_; rintro e w11 ⟨rfl, hch⟩
      have HT9 := Lib.hid (HT8.out.chg0 hch)
      clear hch
      go_wp2
      go_ret
      exact ⟨rfl, HCX.out.trans HT9.out.ch⟩
  · -- more than goes
    have HRS := Lib.hid (pay_rest HG.out HSS.out.1 HSS.out.2 HABC.out.2.2 hE)
    rw [← HM.out] at HRS
    have HL : payL S L a b c n = L ∧ payN S L a b c n = 0 := by unfold payL payN; rw [hE]; exact ⟨rfl, rfl⟩
    rw [hE, HL.2] at he
    subst he
    have HT4 := Lib.hid (HL.1 ▸ HT3.out)
    clear HL HT3
    go_wp2_with fail
    refine (llines_rd HT4.out.l).mono ?_; rintro e w6 ⟨⟨v1, rfl, hv1⟩, hch⟩
    have HV1 := Lib.hid hv1
    have HT6 := Lib.hid (HT4.out.chg0 hch)
    clear hch hv1
    go_wp2_with fail
    refine (llines_rd HT6.out.c).mono ?_; rintro e w7 ⟨⟨v2, rfl, hv2⟩, hch⟩
    have HT7 := Lib.hid (HT6.out.chg0 hch)
    have KS := Lib.hid (tl_same (HV1.out.chg0 hch) hv2 (by have := HG.out.few; omega))
    rw [decide_eq_true rfl] at KS
    clear hch hv2
    go_wp2_with fail
    refine KS.out.mono ?_; rintro e w8 ⟨rfl, hch⟩
    have HT8 := Lib.hid (HT7.out.chg0 hch)
    clear hch KS HV1 HT6 HT7
    obtain ⟨x1, x2, x3, x4⟩ := KX.out _ HT8.out.ch
    have hmn := HRS.out.1
    have hm0 := HRS.out.2.1
    have d1 : decide (n ≤ m) = false := decide_eq_false (by omega)
    have d2 : decide (m < 0) = false := decide_eq_false (by omega)
    have HRB := Lib.hid (And.intro (mem_P16.2 HRS.out.2.2.1) (mem_P16.2 HRS.out.2.2.2.1))
    by_cases h0 : 0 < m
    · have hE2 := HRS.out.2.2.2.2.1 h0
      have HQ := Lib.hid (HRS.out.2.2.2.2.2 (payL S L a b c m) (by rw [if_pos h0]))
      have KP := Lib.hid (lpay HT8.out.l HABC.out.1 HABC.out.2.1 HABC.out.2.2 (n := m) (by have := HN.out; omega))
      rw [hE2] at KP
      obtain ⟨cn2, hcn⟩ : ∃ cn2, cn2 = payN S L a b c m := ⟨_, rfl⟩
      rw [← hcn] at KP
      clear hcn hE2 HRS
      go_wp2_with fail
      refine KP.out.mono ?_
      rintro e w4 ⟨rfl, hI, hch⟩
      have HT := Lib.hid (HT8.out.step hI hch (by simp))
      clear hI hch x1 x2 x3 x4 KP HT8 d1 d2 hE
      generalize payL S L a b c m = LP at HT HQ
      have hoff := HQ.out.1
      have HCT := Lib.hid HQ.out.2
      have hRlt := reached_lt (capsL S LP c) HRB.out.1
      have t1 := tb_zero (i := b) (by omega) hoff
      have hb16 := (mem_P16.1 HRB.out.2).2
      clear hoff HQ
      have KO : Hid (∀ W, TL W0 W lb mb cb nb S LP S L → Calls Try.prog 66 #[.pointer (some ⟨lb, 0, none⟩), .int .u8 c] W fun e w' => ∃ gb, W.heap.size ≤ gb ∧ e = .returned (.pointer (some ⟨gb, 0, none⟩)) ∧ IsG w' gb (capsL S LP c) ∧ Chg [] W w') := Lib.hid fun W h => gof h.l HABC.out.2.2
      have KO2 : Hid (∀ W, TL W0 W lb mb cb nb S LP S L → Calls Try.prog 66 #[.pointer (some ⟨cb, 0, none⟩), .int .u8 c] W fun e w' => ∃ gb, W.heap.size ≤ gb ∧ e = .returned (.pointer (some ⟨gb, 0, none⟩)) ∧ IsG w' gb (capsL S L c) ∧ Chg [] W w') := Lib.hid fun W h => gof h.c HABC.out.2.2
      go_wp2_with fail
      have HTD := Lib.hid (HT.out.chg0 (Chg.refl _ _).drew)
      refine wp_region_held_drew (S := (fun W : World => W.cell? ⟨xb, 0, none⟩ = some (.int .u8 a) ∧ W.cell? ⟨xb, 1, none⟩ = some (.int .u8 b) ∧ W.cell? ⟨xb, 2, none⟩ = some (.int .u8 c) ∧ W.cell? ⟨xb, 3, none⟩ = some (.int .i64 n))) (by kernel_rfl) ?_ (fun hHeld => ?_)
      · exact KX.out _ HTD.out.ch
      refine wpAnyH_take (i := 0) (v := ?vra_0_0) rfl (by kernel_rfl) (by kernel_rfl) (by kernel_rfl) (fun _ _ _ h => h) (Or.inl ⟨by rfl, ?hyra_0_0⟩) (by assumption) ?_
      case hyra_0_0 => (intro w hSw; (try dsimp only at hSw); go_simp; try (with_reducible rfl))
      (try simp only [Act.put, List.getElem_toArray, List.getElem_cons_zero, List.setIfInBounds_toArray, List.set_cons_zero, List.set_cons_succ])
      refine wpAnyH_take (i := 1) (v := ?vra_0_1) rfl (by kernel_rfl) (by kernel_rfl) (by kernel_rfl) (fun _ _ _ h => h) (Or.inl ⟨by rfl, ?hyra_0_1⟩) (by assumption) ?_
      case hyra_0_1 => (intro w hSw; (try dsimp only at hSw); go_simp; try (with_reducible rfl))
      (try simp only [Act.put, List.getElem_toArray, List.getElem_cons_zero, List.getElem_cons_succ, List.setIfInBounds_toArray, List.set_cons_zero, List.set_cons_succ])
      refine wpAnyH_take (i := 2) (v := ?vra_0_2) rfl (by kernel_rfl) (by kernel_rfl) (by kernel_rfl) (fun _ _ _ h => h) (Or.inl ⟨by rfl, ?hyra_0_2⟩) (by assumption) ?_
      case hyra_0_2 => (intro w hSw; (try dsimp only at hSw); go_simp; try (with_reducible rfl))
      (try simp only [Act.put, List.getElem_toArray, List.getElem_cons_zero, List.getElem_cons_succ, List.setIfInBounds_toArray, List.set_cons_zero, List.set_cons_succ])
      refine wpAnyH_take (i := 4) (v := ?vra_0_4) rfl (by kernel_rfl) (by kernel_rfl) (by kernel_rfl) (fun _ _ _ h => h) (Or.inl ⟨by rfl, ?hyra_0_4⟩) (by assumption) ?_
      case hyra_0_4 => (intro w hSw; (try dsimp only at hSw); go_simp; try (with_reducible rfl))
      (try simp only [Act.put, List.getElem_toArray, List.getElem_cons_zero, List.getElem_cons_succ, List.setIfInBounds_toArray, List.set_cons_zero, List.set_cons_succ])
      refine wpAnyH_take (i := 5) (v := ?vra_0_5) rfl (by kernel_rfl) (by kernel_rfl) (by kernel_rfl) (fun _ _ _ h => h) (Or.inl ⟨by rfl, ?hyra_0_5⟩) (by assumption) ?_
      case hyra_0_5 => (intro w hSw; (try dsimp only at hSw); go_simp; try (with_reducible rfl))
      (try simp only [Act.put, List.getElem_toArray, List.getElem_cons_zero, List.getElem_cons_succ, List.setIfInBounds_toArray, List.set_cons_zero, List.set_cons_succ])
      refine wpAnyH_ready (rs := [3]) (by kernel_rfl) (by simp) (AllReadyH.cons rfl (fun K hK => ?_) AllReadyH.nil)
      go_simp
      (refine (KO.out _ HTD.out).mono ?_; rintro e w' ⟨gb, _, rfl, hg, hch⟩; have HTD := Lib.hid (HTD.out.chg0 hch); have HGB := Lib.hid hg; clear hch hg)
      (try go_wp2_with fail)
      refine hK.out _ _ ?_ (fun hHeld => ?_)
      · exact KX.out _ HTD.out.ch
      clear hK K
      (try simp only [Act.put, List.getElem_toArray, List.getElem_cons_zero, List.getElem_cons_succ, List.setIfInBounds_toArray, List.set_cons_zero, List.set_cons_succ])
      refine wpAnyH_ready (rs := [6]) (by kernel_rfl) (by simp) (AllReadyH.cons rfl (fun K hK => ?_) AllReadyH.nil)
      go_simp
      (refine (freached (.inl ⟨gb, rfl, HGB.out⟩) HRB.out.1).mono ?_; rintro e w' ⟨rfl, rfl⟩)
      (try go_wp2_with fail)
      refine hK.out _ _ ?_ (fun hHeld => ?_)
      · exact KX.out _ HTD.out.ch
      clear hK K
      (try simp only [Act.put, List.getElem_toArray, List.getElem_cons_zero, List.getElem_cons_succ, List.setIfInBounds_toArray, List.set_cons_zero, List.set_cons_succ])
      refine wpAnyH_take (i := 7) (v := ?vra_0_7) rfl (by kernel_rfl) (by kernel_rfl) (by kernel_rfl) (fun _ _ _ h => h) (Or.inl ⟨by rfl, ?hyra_0_7⟩) (by assumption) ?_
      case hyra_0_7 => (intro w hSw; (try dsimp only at hSw); go_simp; try (with_reducible rfl))
      (try simp only [Act.put, List.getElem_toArray, List.getElem_cons_zero, List.getElem_cons_succ, List.setIfInBounds_toArray, List.set_cons_zero, List.set_cons_succ])
      refine wpAnyH_done (by kernel_rfl) ?_ _
      generalize reached (capsL S LP c) a = R at *
      obtain ⟨x1, x2, x3, x4⟩ := KX.out _ HTD.out.ch
      go_wp2_with fail
      refine (KO2.out _ HTD.out).mono ?_; rintro e w9 ⟨gb2, _, rfl, hg, hch⟩
      have HTE := Lib.hid (HTD.out.chg0 hch)
      have HGC := Lib.hid hg
      clear hch hg x1 x2 x3 x4
      obtain ⟨x1, x2, x3, x4⟩ := KX.out _ HTE.out.ch
      go_wp2_with fail
      refine (fcut (.inl ⟨gb2, rfl, HGC.out⟩) R (by omega) m).mono ?_
      rw [decide_eq_true HCT.out]
      rintro e w10 ⟨rfl, rfl⟩
      go_wp2_with fail
      refine (HLV.out _).mono ?_; rintro e w11 ⟨rfl, hch⟩
      have HT9 := Lib.hid (HTE.out.chg0 hch)
      clear hch
      go_wp2
      go_ret
      exact ⟨rfl, HCX.out.trans HT9.out.ch⟩
    · have HQ := Lib.hid (HRS.out.2.2.2.2.2 L (by rw [if_neg h0]))
      have HT := HT8
      have d0 : decide (0 < m) = false := decide_eq_false h0
      obtain ⟨LP, hLP⟩ : ∃ LP, LP = L := ⟨_, rfl⟩
      rw [show TL W0 w8 lb mb cb nb S L S L = TL W0 w8 lb mb cb nb S LP S L from by rw [hLP]] at HT
      rw [show (reached (capsL S L c) a).testBit b = (reached (capsL S LP c) a).testBit b from by rw [hLP], show Pl.cut (capsL S L c) (fun p => (reached (capsL S L c) a).testBit p) = Pl.cut (capsL S L c) (fun p => (reached (capsL S LP c) a).testBit p) from by rw [hLP]] at HQ
      clear hLP HRS HT8 hE
      have hoff := HQ.out.1
      have HCT := Lib.hid HQ.out.2
      have hRlt := reached_lt (capsL S LP c) HRB.out.1
      have t1 := tb_zero (i := b) (by omega) hoff
      have hb16 := (mem_P16.1 HRB.out.2).2
      clear hoff HQ
      have KO : Hid (∀ W, TL W0 W lb mb cb nb S LP S L → Calls Try.prog 66 #[.pointer (some ⟨lb, 0, none⟩), .int .u8 c] W fun e w' => ∃ gb, W.heap.size ≤ gb ∧ e = .returned (.pointer (some ⟨gb, 0, none⟩)) ∧ IsG w' gb (capsL S LP c) ∧ Chg [] W w') := Lib.hid fun W h => gof h.l HABC.out.2.2
      have KO2 : Hid (∀ W, TL W0 W lb mb cb nb S LP S L → Calls Try.prog 66 #[.pointer (some ⟨cb, 0, none⟩), .int .u8 c] W fun e w' => ∃ gb, W.heap.size ≤ gb ∧ e = .returned (.pointer (some ⟨gb, 0, none⟩)) ∧ IsG w' gb (capsL S L c) ∧ Chg [] W w') := Lib.hid fun W h => gof h.c HABC.out.2.2
      go_wp2_with fail
      have HTD := Lib.hid (HT.out.chg0 (Chg.refl _ _).drew)
      refine wp_region_held_drew (S := (fun W : World => W.cell? ⟨xb, 0, none⟩ = some (.int .u8 a) ∧ W.cell? ⟨xb, 1, none⟩ = some (.int .u8 b) ∧ W.cell? ⟨xb, 2, none⟩ = some (.int .u8 c) ∧ W.cell? ⟨xb, 3, none⟩ = some (.int .i64 n))) (by kernel_rfl) ?_ (fun hHeld => ?_)
      · exact KX.out _ HTD.out.ch
      refine wpAnyH_take (i := 0) (v := ?vrb_0_0) rfl (by kernel_rfl) (by kernel_rfl) (by kernel_rfl) (fun _ _ _ h => h) (Or.inl ⟨by rfl, ?hyrb_0_0⟩) (by assumption) ?_
      case hyrb_0_0 => (intro w hSw; (try dsimp only at hSw); go_simp; try (with_reducible rfl))
      (try simp only [Act.put, List.getElem_toArray, List.getElem_cons_zero, List.setIfInBounds_toArray, List.set_cons_zero, List.set_cons_succ])
      refine wpAnyH_take (i := 1) (v := ?vrb_0_1) rfl (by kernel_rfl) (by kernel_rfl) (by kernel_rfl) (fun _ _ _ h => h) (Or.inl ⟨by rfl, ?hyrb_0_1⟩) (by assumption) ?_
      case hyrb_0_1 => (intro w hSw; (try dsimp only at hSw); go_simp; try (with_reducible rfl))
      (try simp only [Act.put, List.getElem_toArray, List.getElem_cons_zero, List.getElem_cons_succ, List.setIfInBounds_toArray, List.set_cons_zero, List.set_cons_succ])
      refine wpAnyH_take (i := 2) (v := ?vrb_0_2) rfl (by kernel_rfl) (by kernel_rfl) (by kernel_rfl) (fun _ _ _ h => h) (Or.inl ⟨by rfl, ?hyrb_0_2⟩) (by assumption) ?_
      case hyrb_0_2 => (intro w hSw; (try dsimp only at hSw); go_simp; try (with_reducible rfl))
      (try simp only [Act.put, List.getElem_toArray, List.getElem_cons_zero, List.getElem_cons_succ, List.setIfInBounds_toArray, List.set_cons_zero, List.set_cons_succ])
      refine wpAnyH_take (i := 4) (v := ?vrb_0_4) rfl (by kernel_rfl) (by kernel_rfl) (by kernel_rfl) (fun _ _ _ h => h) (Or.inl ⟨by rfl, ?hyrb_0_4⟩) (by assumption) ?_
      case hyrb_0_4 => (intro w hSw; (try dsimp only at hSw); go_simp; try (with_reducible rfl))
      (try simp only [Act.put, List.getElem_toArray, List.getElem_cons_zero, List.getElem_cons_succ, List.setIfInBounds_toArray, List.set_cons_zero, List.set_cons_succ])
      refine wpAnyH_take (i := 5) (v := ?vrb_0_5) rfl (by kernel_rfl) (by kernel_rfl) (by kernel_rfl) (fun _ _ _ h => h) (Or.inl ⟨by rfl, ?hyrb_0_5⟩) (by assumption) ?_
      case hyrb_0_5 => (intro w hSw; (try dsimp only at hSw); go_simp; try (with_reducible rfl))
      (try simp only [Act.put, List.getElem_toArray, List.getElem_cons_zero, List.getElem_cons_succ, List.setIfInBounds_toArray, List.set_cons_zero, List.set_cons_succ])
      refine wpAnyH_ready (rs := [3]) (by kernel_rfl) (by simp) (AllReadyH.cons rfl (fun K hK => ?_) AllReadyH.nil)
      go_simp
      (refine (KO.out _ HTD.out).mono ?_; rintro e w' ⟨gb, _, rfl, hg, hch⟩; have HTD := Lib.hid (HTD.out.chg0 hch); have HGB := Lib.hid hg; clear hch hg)
      (try go_wp2_with fail)
      refine hK.out _ _ ?_ (fun hHeld => ?_)
      · exact KX.out _ HTD.out.ch
      clear hK K
      (try simp only [Act.put, List.getElem_toArray, List.getElem_cons_zero, List.getElem_cons_succ, List.setIfInBounds_toArray, List.set_cons_zero, List.set_cons_succ])
      refine wpAnyH_ready (rs := [6]) (by kernel_rfl) (by simp) (AllReadyH.cons rfl (fun K hK => ?_) AllReadyH.nil)
      go_simp
      (refine (freached (.inl ⟨gb, rfl, HGB.out⟩) HRB.out.1).mono ?_; rintro e w' ⟨rfl, rfl⟩)
      (try go_wp2_with fail)
      refine hK.out _ _ ?_ (fun hHeld => ?_)
      · exact KX.out _ HTD.out.ch
      clear hK K
      (try simp only [Act.put, List.getElem_toArray, List.getElem_cons_zero, List.getElem_cons_succ, List.setIfInBounds_toArray, List.set_cons_zero, List.set_cons_succ])
      refine wpAnyH_take (i := 7) (v := ?vrb_0_7) rfl (by kernel_rfl) (by kernel_rfl) (by kernel_rfl) (fun _ _ _ h => h) (Or.inl ⟨by rfl, ?hyrb_0_7⟩) (by assumption) ?_
      case hyrb_0_7 => (intro w hSw; (try dsimp only at hSw); go_simp; try (with_reducible rfl))
      (try simp only [Act.put, List.getElem_toArray, List.getElem_cons_zero, List.getElem_cons_succ, List.setIfInBounds_toArray, List.set_cons_zero, List.set_cons_succ])
      refine wpAnyH_done (by kernel_rfl) ?_ _
      generalize reached (capsL S LP c) a = R at *
      obtain ⟨x1, x2, x3, x4⟩ := KX.out _ HTD.out.ch
      go_wp2_with fail
      refine (KO2.out _ HTD.out).mono ?_; rintro e w9 ⟨gb2, _, rfl, hg, hch⟩
      have HTE := Lib.hid (HTD.out.chg0 hch)
      have HGC := Lib.hid hg
      clear hch hg x1 x2 x3 x4
      obtain ⟨x1, x2, x3, x4⟩ := KX.out _ HTE.out.ch
      go_wp2_with fail
      refine (fcut (.inl ⟨gb2, rfl, HGC.out⟩) R (by omega) m).mono ?_
      rw [decide_eq_true HCT.out]
      rintro e w10 ⟨rfl, rfl⟩
      go_wp2_with fail
      refine (HLV.out _).mono ?_; rintro e w11 ⟨rfl, hch⟩
      have HT9 := Lib.hid (HTE.out.chg0 hch)
      clear hch
      go_wp2
      go_ret
      exact ⟨rfl, HCX.out.trans HT9.out.ch⟩
  · -- it goes
    have HPD := Lib.hid (paid_of HG.out HSS.out.1 HSS.out.2 HABC.out.2.2 hE)
    have HBD := Lib.hid (not_bad HPD.out.ok)
    rw [hE, HPD.out.cnt] at he
    subst he
    clear hE
    have HPO : Hid (∀ p v, posOf (payL S L a b c n) p v = posOf L p v + if v = c then (if p = b then n else if p = a then -n else 0) else 0) := Lib.hid fun p v => by rw [HPD.out.pf.pos, HPD.out.has]
    have hsome := HPD.out.some
    have hmost := HPD.out.most
    rw [← HM.out] at hmost
    have KS := Lib.hid (sound_c HT3.out HPD.out.pf.keys)
    have hn1 := HBD.out.2.2.2.2.2.1
    have hn2 := HBD.out.2.2.2.2.2.2
    have HAB : Hid (a ≠ b) := Lib.hid HBD.out.2.2.1
    generalize (payR S L a b c n).length = cn at *
    generalize payL S L a b c n = LP at *
    have KV : Hid (∀ W, TL W0 W lb mb cb nb S LP S L → ∀ (p v : Nat) (q : Int), (-1099511627776 ≤ q ∧ q ≤ 1099511627776) → posOf LP p v = posOf L p v + q → Calls Try.prog 31 #[.pointer (some ⟨lb, 0, none⟩), .pointer (some ⟨cb, 0, none⟩), .int .u8 p, .int .u8 v, .int .i64 q] W fun e w' => e = .returned (.bool true) ∧ Chg [] W w') := Lib.hid fun W h p v q hq he => moved_c h p v hq he
    clear HPD HBD HM
    have d1 : decide (m < n) = false := decide_eq_false (by omega)
    have d2 : decide (n < 1) = false := decide_eq_false (by omega)
    have d3 : decide ((cn : Int) < 1) = false := decide_eq_false (by omega)
    obtain ⟨x1, x2, x3, x4⟩ := KX.out _ HT3.out.ch
    go_wp2_with fail
    refine KS.out.mono ?_; rintro e w5 ⟨rfl, hch⟩
    have HT5 := Lib.hid (HT3.out.chg0 hch)
    clear hch KS HT3 x1 x2 x3 x4 d1 d2 d3
    go_wp2
    go_loopw [13, 14, 15] (fun i _ _ wr => ∃ k : Nat, 1 ≤ k ∧ k ≤ 9 ∧ i = .int .u8 k ∧ Hid (TL W0 wr lb mb cb nb S LP S L)) (fun i _ _ _ => 9 - (intOf i).toNat)
    case atStart => exact ⟨1, by omega, by omega, rfl, HT5⟩
    case round =>
      obtain ⟨k, hk1, hk, rfl, HT⟩ := hrel
      by_cases hlt : k ≤ 8
      · have d8 : decide ((k : Int) ≤ 8) = true := decide_eq_true (by omega)
        go_wp2
        go_loopw [14, 15] (fun i _ wr' => ∃ j : Nat, 1 ≤ j ∧ j ≤ 17 ∧ i = .int .u8 j ∧ Hid (TL W0 wr' lb mb cb nb S LP S L)) (fun i _ _ => 17 - (intOf i).toNat)
        case atStart => exact ⟨1, by omega, by omega, rfl, HT⟩
        case round =>
          rename_i wq
          obtain ⟨j, hj1, hj, rfl, HT'⟩ := hrel
          by_cases hjt : j ≤ 16
          · obtain ⟨x1, x2, x3, x4⟩ := KX.out _ HT'.out.ch
            by_cases hkc : k = c
            · have t1 : ((k : Int) == (c : Int)) = true := by simp [hkc]
              by_cases hja : j = a
              · have t2 : ((j : Int) == (a : Int)) = true := by simp [hja]
                have hjb : j ≠ b := fun e => HAB.out (hja.symm.trans e)
                have t3 : ((j : Int) == (b : Int)) = false := by simp; omega
                have hp := HPO.out j k
                rw [if_pos hkc, if_neg hjb, if_pos hja] at hp
                have KV' := Lib.hid (fun W h => KV.out W h j k (-n) (by omega) hp)
                clear hp hkc hja hjb
                go_wp2_with fail
                refine (KV'.out _ HT'.out).mono ?_; rintro e w6 ⟨rfl, hch⟩
                have HT6 := Lib.hid (HT'.out.chg0 hch)
                clear hch x1 x2 x3 x4 KV'
                go_wp2
                go_roundw
                case rel => exact ⟨j + 1, by omega, by omega, by go_num, HT6⟩
                case measure => simp [intOf]; omega
              · have t2 : ((j : Int) == (a : Int)) = false := by simp; omega
                by_cases hjb : j = b
                · have t3 : ((j : Int) == (b : Int)) = true := by simp [hjb]
                  have hp := HPO.out j k
                  rw [if_pos hkc, if_pos hjb] at hp
                  have KV' := Lib.hid (fun W h => KV.out W h j k n (by omega) hp)
                  clear hp hkc hja hjb
                  go_wp2_with fail
                  refine (KV'.out _ HT'.out).mono ?_; rintro e w6 ⟨rfl, hch⟩
                  have HT6 := Lib.hid (HT'.out.chg0 hch)
                  clear hch x1 x2 x3 x4 KV'
                  go_wp2
                  go_roundw
                  case rel => exact ⟨j + 1, by omega, by omega, by go_num, HT6⟩
                  case measure => simp [intOf]; omega
                · have t3 : ((j : Int) == (b : Int)) = false := by simp; omega
                  have hp := HPO.out j k
                  rw [if_pos hkc, if_neg hjb, if_neg hja] at hp
                  have KV' := Lib.hid (fun W h => KV.out W h j k 0 (by omega) hp)
                  clear hp hkc hja hjb
                  go_wp2_with fail
                  refine (KV'.out _ HT'.out).mono ?_; rintro e w6 ⟨rfl, hch⟩
                  have HT6 := Lib.hid (HT'.out.chg0 hch)
                  clear hch x1 x2 x3 x4 KV'
                  go_wp2
                  go_roundw
                  case rel => exact ⟨j + 1, by omega, by omega, by go_num, HT6⟩
                  case measure => simp [intOf]; omega
            · have t1 : ((k : Int) == (c : Int)) = false := by simp; omega
              have hp := HPO.out j k
              rw [if_neg hkc] at hp
              have KV' := Lib.hid (fun W h => KV.out W h j k 0 (by omega) hp)
              clear hp hkc
              go_wp2_with fail
              refine (KV'.out _ HT'.out).mono ?_; rintro e w6 ⟨rfl, hch⟩
              have HT6 := Lib.hid (HT'.out.chg0 hch)
              clear hch x1 x2 x3 x4 KV'
              go_wp2
              go_roundw
              case rel => exact ⟨j + 1, by omega, by omega, by go_num, HT6⟩
              case measure => simp [intOf]; omega
          · obtain rfl : j = 17 := by omega
            go_wp2
            go_roundw
            case rel => exact ⟨k + 1, by omega, by omega, by go_num, HT'⟩
            case measure => simp [intOf]; omega
      · obtain rfl : k = 9 := by omega
        go_wp2_with fail
        refine (HLV.out _).mono ?_; rintro e w9 ⟨rfl, hch⟩
        have HT9 := Lib.hid (HT.out.chg0 hch)
        clear hch
        go_wp2
        go_ret
        exact ⟨rfl, HCX.out.trans HT9.out.ch⟩
end Go.Proofs.Ytofnaigkfhfhoaa
