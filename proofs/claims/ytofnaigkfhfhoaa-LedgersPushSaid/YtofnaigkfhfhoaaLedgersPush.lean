/-
  The law LedgersPush, walked.
-/
import Derived.Test.YtofnaigkfhfhoaaTwoL
namespace Go.Proofs.Ytofnaigkfhfhoaa
open Go.RowKit Go.Maps Pl
attribute [local go_sem ↓] Go.wp_at_zero Go.wp_at_succ

theorem pos_bd {S : Nat → Bool} {L : List Ln} (h : GoodL S L) (p v : Nat) : -70368744177664 ≤ posOf L p v ∧ posOf L p v ≤ 70368744177664 := by
  have := sum_take_bd h (posF p v) (posF_bd h p v) L.length
  rwa [List.take_length] at this
/-- The positions of the parties below k. -/
def posSum (L : List Ln) (c k : Nat) : Int := ((List.range k).map fun p => posOf L p c).sum
theorem posSum_succ (L : List Ln) (c k : Nat) : posSum L c (k + 1) = posSum L c k + posOf L k c := by
  simp [posSum, List.range_succ]
theorem posSum_zero {S : Nat → Bool} {L : List Ln} (h : GoodL S L) (c : Nat) : posSum L c 20 = 0 := by
  refine pos_zero c (List.range 20) List.nodup_range fun x hx => ?_
  obtain ⟨h1, h2, h3, _⟩ := h.ends x hx
  rw [mem_P16] at h1 h2
  simp only [List.mem_range]
  exact ⟨by omega, by omega, h3⟩
theorem posSum_bd {S : Nat → Bool} {L : List Ln} (h : GoodL S L) (c : Nat) : ∀ k : Nat, k ≤ 20 → -(70368744177664 * (k : Int)) ≤ posSum L c k ∧ posSum L c k ≤ 70368744177664 * k
  | 0, _ => by simp [posSum]
  | k + 1, hk => by
    have h1 := posSum_bd h c k (by omega)
    have h2 := pos_bd h k c
    rw [posSum_succ]
    push_cast
    omega

set_option maxRecDepth 100000 in
set_option maxHeartbeats 8000000 in
theorem ledgersPush_walk {w : World} {va : Value} {l : List Deed} {k a b c : Nat} {n : Int} (hl : RdAct w va l) (_ : k < 256) (ha : a < 256) (hb : b < 256) (hc : c < 256) (hn : -9223372036854775808 ≤ n ∧ n ≤ 9223372036854775807) :
    Calls Try.prog 5 #[va, .agg #[.int .u8 k, .int .u8 a, .int .u8 b, .int .u8 c, .int .i64 n]] w fun e w' => e = .returned (.bool true) ∧ Chg [] w w' := by
  have HLV := Lib.hid (fun W => lives3 W)
  have HA := Lib.hid hl
  obtain ⟨ao, acap, rfl⟩ := rdact_shape hl
  clear hl
  by_cases hla : 120 < l.length
  · have hla1 : (120 : Int) < l.length := by omega
    go_enter Try.func5, Try.ntmps5
    go_wp2_with fail
    refine (HLV.out _).mono ?_; rintro e w' ⟨rfl, hc⟩
    have HC := Lib.hid hc
    clear hc
    go_wp2
    go_ret
    exact ⟨rfl, ((Chg.refl _ _).alloc _).trans HC.out⟩
  have hla1 : (l.length : Int) ≤ 120 := by omega
  have hla2 : decide (120 < (l.length : Int)) = false := decide_eq_false (by omega)
  have HX0 := Lib.hid (Blk.new w 57 #[.int .u8 k, .int .u8 a, .int .u8 b, .int .u8 c, .int .i64 n])
  have HCX : Hid (Chg [] w (w.alloc (.cells #[.int .u8 k, .int .u8 a, .int .u8 b, .int .u8 c, .int .i64 n] 57))) := Lib.hid ((Chg.refl _ _).alloc _)
  obtain ⟨W0, hW0⟩ : ∃ W0, W0 = w.alloc (.cells #[.int .u8 k, .int .u8 a, .int .u8 b, .int .u8 c, .int .i64 n] 57) := ⟨_, rfl⟩
  obtain ⟨xb, hxb⟩ : ∃ xb, xb = w.heap.size := ⟨_, rfl⟩
  rw [← hW0] at HX0 HCX
  rw [← hxb] at HX0
  have KX : Hid (∀ W, Chg [] W0 W → W.cell? ⟨xb, 1, none⟩ = some (.int .u8 a) ∧ W.cell? ⟨xb, 2, none⟩ = some (.int .u8 b) ∧ W.cell? ⟨xb, 3, none⟩ = some (.int .u8 c) ∧ W.cell? ⟨xb, 4, none⟩ = some (.int .i64 n)) := Lib.hid fun W k => ⟨(HX0.out.chg k (by simp)).cell 1, (HX0.out.chg k (by simp)).cell 2, (HX0.out.chg k (by simp)).cell 3, (HX0.out.chg k (by simp)).cell 4⟩
  go_enter Try.func5, Try.ntmps5
  go_wp2_with fail
  rw [← hW0, ← hxb]
  clear hW0 hxb HX0
  refine (lmade (rdact_chg0 HA.out HCX.out) (by omega)).mono ?_
  rintro e w1 ⟨lb, mb, rfl, hled⟩
  obtain ⟨S, L, hI, hcp⟩ := tl_copy hled
  have HCP := Lib.hid hcp
  clear hled hI hcp HA
  go_wp2_with fail
  refine HCP.out.mono ?_
  rintro e w2 ⟨cb, nb, rfl, ht⟩
  have HT := Lib.hid ht
  have HG := Lib.hid ht.l.good
  have HSS := Lib.hid (And.intro ht.l.map.sorted ht.l.map.small)
  clear ht HCP
  obtain ⟨x1, x2, x3, x4⟩ := KX.out w2 HT.out.ch
  have hr1 := room_bd HG.out a b c
  have hr2 := room_bd HG.out b a c
  obtain ⟨rm, hrm⟩ : ∃ rm, rm = room L a b c := ⟨_, rfl⟩
  obtain ⟨bk, hbk⟩ : ∃ bk, bk = room L b a c := ⟨_, rfl⟩
  have KR1 := Lib.hid (lroom HT.out.l ha hb hc)
  rw [← hrm] at hr1 KR1
  rw [← hbk] at hr2
  have HRM := Lib.hid (And.intro hrm hbk)
  have HABC := Lib.hid (And.intro ha (And.intro hb hc))
  clear hrm hbk ha hb hc
  go_wp2_with fail
  refine KR1.out.mono ?_; rintro e w3 ⟨rfl, hch⟩
  replace HT := Lib.hid (HT.out.chg0 hch)
  clear hch x1 x2 x3 x4 KR1
  obtain ⟨x1, x2, x3, x4⟩ := KX.out w3 HT.out.ch
  have KR2 := Lib.hid (lroom HT.out.l HABC.out.2.1 HABC.out.1 HABC.out.2.2)
  rw [← HRM.out.2] at KR2
  go_wp2_with fail
  refine KR2.out.mono ?_; rintro e w4 ⟨rfl, hch⟩
  replace HT := Lib.hid (HT.out.chg0 hch)
  clear hch x1 x2 x3 x4 KR2
  obtain ⟨x1, x2, x3, x4⟩ := KX.out w4 HT.out.ch
  have KP := Lib.hid (lpush HT.out.l HABC.out.1 HABC.out.2.1 HABC.out.2.2 (n := n))
  go_wp2_with fail
  refine KP.out.mono ?_
  rintro e w5 ⟨he, hI, hch⟩
  have HT5 := Lib.hid (HT.out.step hI hch (by simp))
  clear hI hch x1 x2 x3 x4 KP HT
  obtain ⟨x1, x2, x3, x4⟩ := KX.out w5 HT5.out.ch
  by_cases h1 : n < 1
  · have hE : lpushE L a b c n = 1 := by unfold lpushE; rw [if_pos h1]
    rw [hE] at he
    subst he
    have hL : lpushL L a b c n = L := by unfold lpushL; rw [hE, if_neg (by omega)]
    rw [hL] at HT5
    clear hE hL
    have hn1 : decide (n < 1) = true := decide_eq_true h1
    go_wp2_with fail
    refine (llines_rd HT5.out.l).mono ?_; rintro e w6 ⟨⟨v1, rfl, hv1⟩, hch⟩
    have HV1 := Lib.hid hv1
    have HT6 := Lib.hid (HT5.out.chg0 hch)
    clear hch hv1
    go_wp2_with fail
    refine (llines_rd HT6.out.c).mono ?_; rintro e w7 ⟨⟨v2, rfl, hv2⟩, hch⟩
    have HT7 := Lib.hid (HT6.out.chg0 hch)
    have KS := Lib.hid (tl_same (HV1.out.chg0 hch) hv2 (by have := HG.out.few; omega))
    rw [decide_eq_true rfl] at KS
    clear hch hv2
    go_wp2_with fail
    refine KS.out.mono ?_; rintro e w8 ⟨rfl, hch⟩
    have HT8 := Lib.hid (HT7.out.chg0 hch)
    clear hch
    go_wp2_with fail
    refine (HLV.out _).mono ?_; rintro e w9 ⟨rfl, hch⟩
    have HT9 := Lib.hid (HT8.out.chg0 hch)
    clear hch
    go_wp2
    go_ret
    exact ⟨rfl, HCX.out.trans HT9.out.ch⟩
  by_cases h2 : rm < n
  · have hE : lpushE L a b c n = 11 := by unfold lpushE; rw [if_neg h1, ← HRM.out.1, if_pos h2]
    rw [hE] at he
    subst he
    have hL : lpushL L a b c n = L := by unfold lpushL; rw [hE, if_neg (by omega)]
    rw [hL] at HT5
    clear hE hL
    have hn1 : decide (n < 1) = false := decide_eq_false h1
    have hn2 : decide (rm < n) = true := decide_eq_true h2
    go_wp2_with fail
    refine (llines_rd HT5.out.l).mono ?_; rintro e w6 ⟨⟨v1, rfl, hv1⟩, hch⟩
    have HV1 := Lib.hid hv1
    have HT6 := Lib.hid (HT5.out.chg0 hch)
    clear hch hv1
    go_wp2_with fail
    refine (llines_rd HT6.out.c).mono ?_; rintro e w7 ⟨⟨v2, rfl, hv2⟩, hch⟩
    have HT7 := Lib.hid (HT6.out.chg0 hch)
    have KS := Lib.hid (tl_same (HV1.out.chg0 hch) hv2 (by have := HG.out.few; omega))
    rw [decide_eq_true rfl] at KS
    clear hch hv2
    go_wp2_with fail
    refine KS.out.mono ?_; rintro e w8 ⟨rfl, hch⟩
    have HT8 := Lib.hid (HT7.out.chg0 hch)
    clear hch
    go_wp2_with fail
    refine (HLV.out _).mono ?_; rintro e w9 ⟨rfl, hch⟩
    have HT9 := Lib.hid (HT8.out.chg0 hch)
    clear hch
    go_wp2
    go_ret
    exact ⟨rfl, HCX.out.trans HT9.out.ch⟩
  have hE : lpushE L a b c n = 0 := by unfold lpushE; rw [if_neg h1, ← HRM.out.1, if_neg h2]
  rw [hE] at he
  subst he
  have hL : lpushL L a b c n = pushed L a b c n := by unfold lpushL; rw [hE, if_pos rfl]
  rw [hL] at HT5
  clear hE hL
  obtain ⟨ha, hb, hc⟩ := HABC.out
  have hnr : n ≤ room L a b c := by rw [← HRM.out.1]; omega
  obtain ⟨hne, hpa, hpb, _⟩ := room_in (u := c) HG.out HSS.out.2 ha hb (by omega)
  have HP := Lib.hid (fun p => pos_pushed HG.out HSS.out.1 HSS.out.2 ha hb hc (by omega) hnr p c)
  have HGP := Lib.hid (push_facts HG.out HSS.out.1 HSS.out.2 ha hb hc (by omega) hnr).2.1
  have q1 : room (pushed L a b c n) a b c = rm - n := by rw [room_pushed HSS.out.1 ha hb ha hb hne, if_pos rfl, if_pos ⟨rfl, rfl⟩, HRM.out.1]
  have q2 : room (pushed L a b c n) b a c = bk + n := by rw [room_pushed HSS.out.1 ha hb hb ha hne, if_pos rfl, if_neg (fun h => hne h.1.symm), if_pos ⟨rfl, rfl⟩, HRM.out.2]
  have HNE := Lib.hid (And.intro hne (And.intro hpa hpb))
  have KQ1 : Hid (∀ W, Chg [] w5 W → Calls Try.prog 34 #[.pointer (some ⟨lb, 0, none⟩), .int .u8 a, .int .u8 b, .int .u8 c] W fun e w' => e = .returned (.int .i64 (rm - n)) ∧ Chg [] W w') := Lib.hid fun W k => by rw [← q1]; exact lroom (HT5.out.chg0 k).l ha hb hc
  have KQ2 : Hid (∀ W, Chg [] w5 W → Calls Try.prog 34 #[.pointer (some ⟨lb, 0, none⟩), .int .u8 b, .int .u8 a, .int .u8 c] W fun e w' => e = .returned (.int .i64 (bk + n)) ∧ Chg [] W w') := Lib.hid fun W k => by rw [← q2]; exact lroom (HT5.out.chg0 k).l hb ha hc
  have KS : Hid (∀ W', Chg [] w5 W' → Chg [] W0 W') := Lib.hid fun W' k => (HT5.out.chg0 k).ch
  clear q1 q2 hne hpa hpb hnr ha hb hc x1 x2 x3 x4
  generalize pushed L a b c n = LP at HT5 HP HGP
  have hn1 : decide (n < 1) = false := decide_eq_false h1
  have hn2 : decide (rm < n) = false := decide_eq_false h2
  have hw1 : IntKind.i64.wrap (rm - n) = rm - n := IntWalk.i64_in _ (by omega)
  have hw2 : IntKind.i64.wrap (bk + n) = bk + n := IntWalk.i64_in _ (by omega)
  have HCC : Hid (Chg [] w5 w5.drew) := Lib.hid (Chg.refl _ _).drew
  go_wp2_with fail
  refine wp_region_held_drew (S := (fun W : World => W.cell? ⟨xb, 1, none⟩ = some (.int .u8 a) ∧ W.cell? ⟨xb, 2, none⟩ = some (.int .u8 b) ∧ W.cell? ⟨xb, 3, none⟩ = some (.int .u8 c) ∧ W.cell? ⟨xb, 4, none⟩ = some (.int .i64 n))) (by kernel_rfl) ?_ (fun hHeld => ?_)
  · exact KX.out _ (KS.out _ HCC.out)
  refine wpAnyH_take (i := 0) (v := ?vr10_0_0) rfl (by kernel_rfl) (by kernel_rfl) (by kernel_rfl) (fun _ _ _ h => h) (Or.inl ⟨by rfl, ?hyr10_0_0⟩) (by assumption) ?_
  case hyr10_0_0 => (intro w hSw; (try dsimp only at hSw); go_simp; try (with_reducible rfl))
  (try simp only [Act.put, List.getElem_toArray, List.getElem_cons_zero, List.setIfInBounds_toArray, List.set_cons_zero, List.set_cons_succ])
  refine wpAnyH_take (i := 1) (v := ?vr10_0_1) rfl (by kernel_rfl) (by kernel_rfl) (by kernel_rfl) (fun _ _ _ h => h) (Or.inl ⟨by rfl, ?hyr10_0_1⟩) (by assumption) ?_
  case hyr10_0_1 => (intro w hSw; (try dsimp only at hSw); go_simp; try (with_reducible rfl))
  (try simp only [Act.put, List.getElem_toArray, List.getElem_cons_zero, List.getElem_cons_succ, List.setIfInBounds_toArray, List.set_cons_zero, List.set_cons_succ])
  refine wpAnyH_take (i := 2) (v := ?vr10_0_2) rfl (by kernel_rfl) (by kernel_rfl) (by kernel_rfl) (fun _ _ _ h => h) (Or.inl ⟨by rfl, ?hyr10_0_2⟩) (by assumption) ?_
  case hyr10_0_2 => (intro w hSw; (try dsimp only at hSw); go_simp; try (with_reducible rfl))
  (try simp only [Act.put, List.getElem_toArray, List.getElem_cons_zero, List.getElem_cons_succ, List.setIfInBounds_toArray, List.set_cons_zero, List.set_cons_succ])
  refine wpAnyH_take (i := 3) (v := ?vr10_0_3) rfl (by kernel_rfl) (by kernel_rfl) (by kernel_rfl) (fun _ _ _ h => h) (Or.inl ⟨by rfl, ?hyr10_0_3⟩) (by assumption) ?_
  case hyr10_0_3 => (intro w hSw; (try dsimp only at hSw); go_simp; try (with_reducible rfl))
  (try simp only [Act.put, List.getElem_toArray, List.getElem_cons_zero, List.getElem_cons_succ, List.setIfInBounds_toArray, List.set_cons_zero, List.set_cons_succ])
  refine wpAnyH_take (i := 4) (v := ?vr10_0_4) rfl (by kernel_rfl) (by kernel_rfl) (by kernel_rfl) (fun _ _ _ h => h) (Or.inl ⟨by rfl, ?hyr10_0_4⟩) (by assumption) ?_
  case hyr10_0_4 => (intro w hSw; (try dsimp only at hSw); go_simp; try (with_reducible rfl))
  (try simp only [Act.put, List.getElem_toArray, List.getElem_cons_zero, List.getElem_cons_succ, List.setIfInBounds_toArray, List.set_cons_zero, List.set_cons_succ])
  refine wpAnyH_take (i := 5) (v := ?vr10_0_5) rfl (by kernel_rfl) (by kernel_rfl) (by kernel_rfl) (fun _ _ _ h => h) (Or.inl ⟨by rfl, ?hyr10_0_5⟩) (by assumption) ?_
  case hyr10_0_5 => (intro w hSw; (try dsimp only at hSw); go_simp; try (with_reducible rfl))
  (try simp only [Act.put, List.getElem_toArray, List.getElem_cons_zero, List.getElem_cons_succ, List.setIfInBounds_toArray, List.set_cons_zero, List.set_cons_succ])
  refine wpAnyH_take (i := 6) (v := ?vr10_0_6) rfl (by kernel_rfl) (by kernel_rfl) (by kernel_rfl) (fun _ _ _ h => h) (Or.inl ⟨by rfl, ?hyr10_0_6⟩) (by assumption) ?_
  case hyr10_0_6 => (intro w hSw; (try dsimp only at hSw); go_simp; try (with_reducible rfl))
  (try simp only [Act.put, List.getElem_toArray, List.getElem_cons_zero, List.getElem_cons_succ, List.setIfInBounds_toArray, List.set_cons_zero, List.set_cons_succ])
  refine wpAnyH_take (i := 7) (v := ?vr10_0_7) rfl (by kernel_rfl) (by kernel_rfl) (by kernel_rfl) (fun _ _ _ h => h) (Or.inl ⟨by rfl, ?hyr10_0_7⟩) (by assumption) ?_
  case hyr10_0_7 => (intro w hSw; (try dsimp only at hSw); go_simp; try (with_reducible rfl))
  (try simp only [Act.put, List.getElem_toArray, List.getElem_cons_zero, List.getElem_cons_succ, List.setIfInBounds_toArray, List.set_cons_zero, List.set_cons_succ])
  refine wpAnyH_take (i := 8) (v := ?vr10_0_8) rfl (by kernel_rfl) (by kernel_rfl) (by kernel_rfl) (fun _ _ _ h => h) (Or.inl ⟨by rfl, ?hyr10_0_8⟩) (by assumption) ?_
  case hyr10_0_8 => (intro w hSw; (try dsimp only at hSw); go_simp; try (with_reducible rfl))
  (try simp only [Act.put, List.getElem_toArray, List.getElem_cons_zero, List.getElem_cons_succ, List.setIfInBounds_toArray, List.set_cons_zero, List.set_cons_succ])
  refine wpAnyH_take (i := 9) (v := ?vr10_0_9) rfl (by kernel_rfl) (by kernel_rfl) (by kernel_rfl) (fun _ _ _ h => h) (Or.inl ⟨by rfl, ?hyr10_0_9⟩) (by assumption) ?_
  case hyr10_0_9 => (intro w hSw; (try dsimp only at hSw); go_simp; try (with_reducible rfl))
  (try simp only [Act.put, List.getElem_toArray, List.getElem_cons_zero, List.getElem_cons_succ, List.setIfInBounds_toArray, List.set_cons_zero, List.set_cons_succ])
  refine wpAnyH_take (i := 10) (v := ?vr10_0_10) rfl (by kernel_rfl) (by kernel_rfl) (by kernel_rfl) (fun _ _ _ h => h) (Or.inl ⟨by rfl, ?hyr10_0_10⟩) (by assumption) ?_
  case hyr10_0_10 => (intro w hSw; (try dsimp only at hSw); go_simp; try (with_reducible rfl))
  (try simp only [Act.put, List.getElem_toArray, List.getElem_cons_zero, List.getElem_cons_succ, List.setIfInBounds_toArray, List.set_cons_zero, List.set_cons_succ])
  refine wpAnyH_take (i := 11) (v := ?vr10_0_11) rfl (by kernel_rfl) (by kernel_rfl) (by kernel_rfl) (fun _ _ _ h => h) (Or.inl ⟨by rfl, ?hyr10_0_11⟩) (by assumption) ?_
  case hyr10_0_11 => (intro w hSw; (try dsimp only at hSw); go_simp; try (with_reducible rfl))
  (try simp only [Act.put, List.getElem_toArray, List.getElem_cons_zero, List.getElem_cons_succ, List.setIfInBounds_toArray, List.set_cons_zero, List.set_cons_succ])
  refine wpAnyH_take (i := 12) (v := ?vr10_0_12) rfl (by kernel_rfl) (by kernel_rfl) (by kernel_rfl) (fun _ _ _ h => h) (Or.inl ⟨by rfl, ?hyr10_0_12⟩) (by assumption) ?_
  case hyr10_0_12 => (intro w hSw; (try dsimp only at hSw); go_simp; try (with_reducible rfl))
  (try simp only [Act.put, List.getElem_toArray, List.getElem_cons_zero, List.getElem_cons_succ, List.setIfInBounds_toArray, List.set_cons_zero, List.set_cons_succ])
  refine wpAnyH_take (i := 13) (v := ?vr10_0_13) rfl (by kernel_rfl) (by kernel_rfl) (by kernel_rfl) (fun _ _ _ h => h) (Or.inl ⟨by rfl, ?hyr10_0_13⟩) (by assumption) ?_
  case hyr10_0_13 => (intro w hSw; (try dsimp only at hSw); go_simp; try (with_reducible rfl))
  (try simp only [Act.put, List.getElem_toArray, List.getElem_cons_zero, List.getElem_cons_succ, List.setIfInBounds_toArray, List.set_cons_zero, List.set_cons_succ])
  refine wpAnyH_take (i := 14) (v := ?vr10_0_14) rfl (by kernel_rfl) (by kernel_rfl) (by kernel_rfl) (fun _ _ _ h => h) (Or.inl ⟨by rfl, ?hyr10_0_14⟩) (by assumption) ?_
  case hyr10_0_14 => (intro w hSw; (try dsimp only at hSw); go_simp; try (with_reducible rfl))
  (try simp only [Act.put, List.getElem_toArray, List.getElem_cons_zero, List.getElem_cons_succ, List.setIfInBounds_toArray, List.set_cons_zero, List.set_cons_succ])
  refine wpAnyH_take (i := 15) (v := ?vr10_0_15) rfl (by kernel_rfl) (by kernel_rfl) (by kernel_rfl) (fun _ _ _ h => h) (Or.inl ⟨by rfl, ?hyr10_0_15⟩) (by assumption) ?_
  case hyr10_0_15 => (intro w hSw; (try dsimp only at hSw); go_simp; try (with_reducible rfl))
  (try simp only [Act.put, List.getElem_toArray, List.getElem_cons_zero, List.getElem_cons_succ, List.setIfInBounds_toArray, List.set_cons_zero, List.set_cons_succ])
  refine wpAnyH_take (i := 16) (v := ?vr10_0_16) rfl (by kernel_rfl) (by kernel_rfl) (by kernel_rfl) (fun _ _ _ h => h) (Or.inl ⟨by rfl, ?hyr10_0_16⟩) (by assumption) ?_
  case hyr10_0_16 => (intro w hSw; (try dsimp only at hSw); go_simp; try (with_reducible rfl))
  (try simp only [Act.put, List.getElem_toArray, List.getElem_cons_zero, List.getElem_cons_succ, List.setIfInBounds_toArray, List.set_cons_zero, List.set_cons_succ])
  refine wpAnyH_take (i := 18) (v := ?vr10_0_18) rfl (by kernel_rfl) (by kernel_rfl) (by kernel_rfl) (fun _ _ _ h => h) (Or.inl ⟨by rfl, ?hyr10_0_18⟩) (by assumption) ?_
  case hyr10_0_18 => (intro w hSw; (try dsimp only at hSw); go_simp; try (with_reducible rfl))
  (try simp only [Act.put, List.getElem_toArray, List.getElem_cons_zero, List.getElem_cons_succ, List.setIfInBounds_toArray, List.set_cons_zero, List.set_cons_succ])
  refine wpAnyH_take (i := 19) (v := ?vr10_0_19) rfl (by kernel_rfl) (by kernel_rfl) (by kernel_rfl) (fun _ _ _ h => h) (Or.inl ⟨by rfl, ?hyr10_0_19⟩) (by assumption) ?_
  case hyr10_0_19 => (intro w hSw; (try dsimp only at hSw); go_simp; try (with_reducible rfl))
  (try simp only [Act.put, List.getElem_toArray, List.getElem_cons_zero, List.getElem_cons_succ, List.setIfInBounds_toArray, List.set_cons_zero, List.set_cons_succ])
  refine wpAnyH_take (i := 20) (v := ?vr10_0_20) rfl (by kernel_rfl) (by kernel_rfl) (by kernel_rfl) (fun _ _ _ h => h) (Or.inl ⟨by rfl, ?hyr10_0_20⟩) (by assumption) ?_
  case hyr10_0_20 => (intro w hSw; (try dsimp only at hSw); go_simp; try (with_reducible rfl))
  (try simp only [Act.put, List.getElem_toArray, List.getElem_cons_zero, List.getElem_cons_succ, List.setIfInBounds_toArray, List.set_cons_zero, List.set_cons_succ])
  refine wpAnyH_take (i := 21) (v := ?vr10_0_21) rfl (by kernel_rfl) (by kernel_rfl) (by kernel_rfl) (fun _ _ _ h => h) (Or.inl ⟨by rfl, ?hyr10_0_21⟩) (by assumption) ?_
  case hyr10_0_21 => (intro w hSw; (try dsimp only at hSw); go_simp; try (with_reducible rfl))
  (try simp only [Act.put, List.getElem_toArray, List.getElem_cons_zero, List.getElem_cons_succ, List.setIfInBounds_toArray, List.set_cons_zero, List.set_cons_succ])
  refine wpAnyH_ready (rs := [17]) (by kernel_rfl) (by simp) (AllReadyH.cons rfl (fun K hK => ?_) AllReadyH.nil)
  go_simp
  (refine (KQ1.out _ HCC.out).mono ?_; rintro e w' ⟨rfl, hch⟩; have HCC := Lib.hid (HCC.out.trans hch); clear hch)
  (try go_wp2_with fail)
  refine hK.out _ _ ?_ (fun hHeld => ?_)
  · exact KX.out _ (KS.out _ HCC.out)
  clear hK K
  (try simp only [Act.put, List.getElem_toArray, List.getElem_cons_zero, List.getElem_cons_succ, List.setIfInBounds_toArray, List.set_cons_zero, List.set_cons_succ])
  refine wpAnyH_take (i := 22) (v := ?vr10_0_22) rfl (by kernel_rfl) (by kernel_rfl) (by kernel_rfl) (fun _ _ _ h => h) (Or.inl ⟨by rfl, ?hyr10_0_22⟩) (by assumption) ?_
  case hyr10_0_22 => (intro w hSw; (try dsimp only at hSw); go_simp; try (with_reducible rfl))
  (try simp only [Act.put, List.getElem_toArray, List.getElem_cons_zero, List.getElem_cons_succ, List.setIfInBounds_toArray, List.set_cons_zero, List.set_cons_succ])
  refine wpAnyH_take (i := 23) (v := ?vr10_0_23) rfl (by kernel_rfl) (by kernel_rfl) (by kernel_rfl) (fun _ _ _ h => h) (Or.inl ⟨by rfl, ?hyr10_0_23⟩) (by assumption) ?_
  case hyr10_0_23 => (intro w hSw; (try dsimp only at hSw); go_simp; try (with_reducible rfl))
  (try simp only [Act.put, List.getElem_toArray, List.getElem_cons_zero, List.getElem_cons_succ, List.setIfInBounds_toArray, List.set_cons_zero, List.set_cons_succ])
  refine wpAnyH_take (i := 24) (v := ?vr10_0_24) rfl (by kernel_rfl) (by kernel_rfl) (by kernel_rfl) (fun _ _ _ h => h) (Or.inl ⟨by rfl, ?hyr10_0_24⟩) (by assumption) ?_
  case hyr10_0_24 => (intro w hSw; (try dsimp only at hSw); go_simp; try (with_reducible rfl))
  (try simp only [Act.put, List.getElem_toArray, List.getElem_cons_zero, List.getElem_cons_succ, List.setIfInBounds_toArray, List.set_cons_zero, List.set_cons_succ])
  refine wpAnyH_take (i := 25) (v := ?vr10_0_25) rfl (by kernel_rfl) (by kernel_rfl) (by kernel_rfl) (fun _ _ _ h => h) (Or.inl ⟨by rfl, ?hyr10_0_25⟩) (by assumption) ?_
  case hyr10_0_25 => (intro w hSw; (try dsimp only at hSw); go_simp; try (with_reducible rfl))
  (try simp only [Act.put, List.getElem_toArray, List.getElem_cons_zero, List.getElem_cons_succ, List.setIfInBounds_toArray, List.set_cons_zero, List.set_cons_succ])
  refine wpAnyH_take (i := 26) (v := ?vr10_0_26) rfl (by kernel_rfl) (by kernel_rfl) (by kernel_rfl) (fun _ _ _ h => h) (Or.inl ⟨by rfl, ?hyr10_0_26⟩) (by assumption) ?_
  case hyr10_0_26 => (intro w hSw; (try dsimp only at hSw); go_simp; try (with_reducible rfl))
  (try simp only [Act.put, List.getElem_toArray, List.getElem_cons_zero, List.getElem_cons_succ, List.setIfInBounds_toArray, List.set_cons_zero, List.set_cons_succ])
  refine wpAnyH_take (i := 27) (v := ?vr10_0_27) rfl (by kernel_rfl) (by kernel_rfl) (by kernel_rfl) (fun _ _ _ h => h) (Or.inl ⟨by rfl, ?hyr10_0_27⟩) (by assumption) ?_
  case hyr10_0_27 => (intro w hSw; (try dsimp only at hSw); go_simp; try (with_reducible rfl))
  (try simp only [Act.put, List.getElem_toArray, List.getElem_cons_zero, List.getElem_cons_succ, List.setIfInBounds_toArray, List.set_cons_zero, List.set_cons_succ])
  refine wpAnyH_take (i := 28) (v := ?vr10_0_28) rfl (by kernel_rfl) (by kernel_rfl) (by kernel_rfl) (fun _ _ _ h => h) (Or.inl ⟨by rfl, ?hyr10_0_28⟩) (by assumption) ?_
  case hyr10_0_28 => (intro w hSw; (try dsimp only at hSw); go_simp; try (with_reducible rfl))
  (try simp only [Act.put, List.getElem_toArray, List.getElem_cons_zero, List.getElem_cons_succ, List.setIfInBounds_toArray, List.set_cons_zero, List.set_cons_succ])
  refine wpAnyH_take (i := 29) (v := ?vr10_0_29) rfl (by kernel_rfl) (by kernel_rfl) (by kernel_rfl) (fun _ _ _ h => h) (Or.inl ⟨by rfl, ?hyr10_0_29⟩) (by assumption) ?_
  case hyr10_0_29 => (intro w hSw; (try dsimp only at hSw); go_simp; try (with_reducible rfl))
  (try simp only [Act.put, List.getElem_toArray, List.getElem_cons_zero, List.getElem_cons_succ, List.setIfInBounds_toArray, List.set_cons_zero, List.set_cons_succ])
  refine wpAnyH_take (i := 30) (v := ?vr10_0_30) rfl (by kernel_rfl) (by kernel_rfl) (by kernel_rfl) (fun _ _ _ h => h) (Or.inl ⟨by rfl, ?hyr10_0_30⟩) (by assumption) ?_
  case hyr10_0_30 => (intro w hSw; (try dsimp only at hSw); go_simp; try (with_reducible rfl))
  (try simp only [Act.put, List.getElem_toArray, List.getElem_cons_zero, List.getElem_cons_succ, List.setIfInBounds_toArray, List.set_cons_zero, List.set_cons_succ])
  refine wpAnyH_take (i := 31) (v := ?vr10_0_31) rfl (by kernel_rfl) (by kernel_rfl) (by kernel_rfl) (fun _ _ _ h => h) (Or.inl ⟨by rfl, ?hyr10_0_31⟩) (by assumption) ?_
  case hyr10_0_31 => (intro w hSw; (try dsimp only at hSw); go_simp; try (with_reducible rfl))
  (try simp only [Act.put, List.getElem_toArray, List.getElem_cons_zero, List.getElem_cons_succ, List.setIfInBounds_toArray, List.set_cons_zero, List.set_cons_succ])
  refine wpAnyH_take (i := 33) (v := ?vr10_0_33) rfl (by kernel_rfl) (by kernel_rfl) (by kernel_rfl) (fun _ _ _ h => h) (Or.inl ⟨by rfl, ?hyr10_0_33⟩) (by assumption) ?_
  case hyr10_0_33 => (intro w hSw; (try dsimp only at hSw); go_simp; try (with_reducible rfl))
  (try simp only [Act.put, List.getElem_toArray, List.getElem_cons_zero, List.getElem_cons_succ, List.setIfInBounds_toArray, List.set_cons_zero, List.set_cons_succ])
  refine wpAnyH_take (i := 34) (v := ?vr10_0_34) rfl (by kernel_rfl) (by kernel_rfl) (by kernel_rfl) (fun _ _ _ h => h) (Or.inl ⟨by rfl, ?hyr10_0_34⟩) (by assumption) ?_
  case hyr10_0_34 => (intro w hSw; (try dsimp only at hSw); go_simp; try (with_reducible rfl))
  (try simp only [Act.put, List.getElem_toArray, List.getElem_cons_zero, List.getElem_cons_succ, List.setIfInBounds_toArray, List.set_cons_zero, List.set_cons_succ])
  refine wpAnyH_take (i := 35) (v := ?vr10_0_35) rfl (by kernel_rfl) (by kernel_rfl) (by kernel_rfl) (fun _ _ _ h => h) (Or.inl ⟨by rfl, ?hyr10_0_35⟩) (by assumption) ?_
  case hyr10_0_35 => (intro w hSw; (try dsimp only at hSw); go_simp; try (with_reducible rfl))
  (try simp only [Act.put, List.getElem_toArray, List.getElem_cons_zero, List.getElem_cons_succ, List.setIfInBounds_toArray, List.set_cons_zero, List.set_cons_succ])
  refine wpAnyH_take (i := 36) (v := ?vr10_0_36) rfl (by kernel_rfl) (by kernel_rfl) (by kernel_rfl) (fun _ _ _ h => h) (Or.inl ⟨by rfl, ?hyr10_0_36⟩) (by assumption) ?_
  case hyr10_0_36 => (intro w hSw; (try dsimp only at hSw); go_simp; try (with_reducible rfl))
  (try simp only [Act.put, List.getElem_toArray, List.getElem_cons_zero, List.getElem_cons_succ, List.setIfInBounds_toArray, List.set_cons_zero, List.set_cons_succ])
  refine wpAnyH_ready (rs := [32]) (by kernel_rfl) (by simp) (AllReadyH.cons rfl (fun K hK => ?_) AllReadyH.nil)
  go_simp
  (refine (KQ2.out _ HCC.out).mono ?_; rintro e w' ⟨rfl, hch⟩; have HCC := Lib.hid (HCC.out.trans hch); clear hch)
  (try go_wp2_with fail)
  refine hK.out _ _ ?_ (fun hHeld => ?_)
  · exact KX.out _ (KS.out _ HCC.out)
  clear hK K
  (try simp only [Act.put, List.getElem_toArray, List.getElem_cons_zero, List.getElem_cons_succ, List.setIfInBounds_toArray, List.set_cons_zero, List.set_cons_succ])
  refine wpAnyH_take (i := 37) (v := ?vr10_0_37) rfl (by kernel_rfl) (by kernel_rfl) (by kernel_rfl) (fun _ _ _ h => h) (Or.inl ⟨by rfl, ?hyr10_0_37⟩) (by assumption) ?_
  case hyr10_0_37 => (intro w hSw; (try dsimp only at hSw); go_simp; try (with_reducible rfl))
  (try simp only [Act.put, List.getElem_toArray, List.getElem_cons_zero, List.getElem_cons_succ, List.setIfInBounds_toArray, List.set_cons_zero, List.set_cons_succ])
  refine wpAnyH_take (i := 38) (v := ?vr10_0_38) rfl (by kernel_rfl) (by kernel_rfl) (by kernel_rfl) (fun _ _ _ h => h) (Or.inl ⟨by rfl, ?hyr10_0_38⟩) (by assumption) ?_
  case hyr10_0_38 => (intro w hSw; (try dsimp only at hSw); go_simp; try (with_reducible rfl))
  (try simp only [Act.put, List.getElem_toArray, List.getElem_cons_zero, List.getElem_cons_succ, List.setIfInBounds_toArray, List.set_cons_zero, List.set_cons_succ])
  refine wpAnyH_done (by kernel_rfl) ?_ _
  have HC0 : Hid (Chg [] w5 w5) := Lib.hid (Chg.refl _ _)
  have hn3 : 1 ≤ n := by omega
  have hn4 : n ≤ 2199023255552 := by omega
  replace HT5 := Lib.hid (HT5.out.chg0 HCC.out)
  clear h1 h2 hn1 hn2 hw1 hw2 hr1 hr2 hn KQ1 KQ2 KS HC0 hHeld HCC HRM
  obtain ⟨wq, hwq⟩ : ∃ wq : World, True := ⟨w5, trivial⟩
  go_wp2_with fail
  go_loopw [10, 11, 12] (fun s p _ wr => ∃ j : Nat, j ≤ 20 ∧ p = .int .u8 j ∧ s = .int .i64 (posSum LP c j) ∧ Hid (TL W0 wr lb mb cb nb S LP S L)) (fun _ p _ _ => 20 - (intOf p).toNat)
  case atStart => exact ⟨0, by omega, rfl, rfl, HT5⟩
  case round =>
    clear HT5
    obtain ⟨j, hj, rfl, rfl, HT⟩ := hrel
    by_cases hlt : j < 20
    · have hlj : decide ((j : Int) < 20) = true := decide_eq_true (by omega)
      obtain ⟨x1, x2, x3, x4⟩ := KX.out wr HT.out.ch
      have hs1 := posSum_bd HGP.out c j (by omega)
      have hp1 := pos_bd HG.out j c
      have hp2 := pos_bd HGP.out j c
      have hpp := HP.out j
      have hss := posSum_succ LP c j
      obtain ⟨sj, hsj⟩ : ∃ sj, sj = posSum LP c j := ⟨_, rfl⟩
      obtain ⟨p0, hp0⟩ : ∃ p0, p0 = posOf L j c := ⟨_, rfl⟩
      have KC : Hid (∀ W, TL W0 W lb mb cb nb S LP S L → Calls Try.prog 36 #[.pointer (some ⟨cb, 0, none⟩), .int .u8 j, .int .u8 c] W fun e w' => e = .returned (.int .i64 p0) ∧ Chg [] W w') := Lib.hid fun W h => by rw [hp0]; exact lposition h.c j c
      have KL : Hid (∀ W z, z = posOf LP j c → TL W0 W lb mb cb nb S LP S L → Calls Try.prog 36 #[.pointer (some ⟨lb, 0, none⟩), .int .u8 j, .int .u8 c] W fun e w' => e = .returned (.int .i64 z) ∧ Chg [] W w') := Lib.hid fun W z hz h => by rw [hz]; exact lposition h.l j c
      rw [← hsj] at hs1 hss ⊢
      rw [← hp0] at hp1 hpp
      simp only [if_true] at hpp
      have hs2 : -(70368744177664 * 20) ≤ sj ∧ sj ≤ 70368744177664 * 20 := by omega
      clear hsj hp0 hs1
      have hne := HNE.out.1
      by_cases ea : j = a
      · have t1 : ((j : Int) == (a : Int)) = true := by simp [ea]
        have t2 : ((j : Int) == (b : Int)) = false := by simp; omega
        rw [if_neg (fun h => hne (ea.symm.trans h.symm)), if_pos ea.symm] at hpp
        have HZ : Hid (p0 - n = posOf LP j c) := Lib.hid (by omega)
        have HSS : Hid (posSum LP c (j + 1) = sj + (p0 - n)) := Lib.hid (by rw [hss]; omega)
        clear hpp hss hp2 ea hne
        go_wp2_with fail
        refine (KC.out _ HT.out).mono ?_; rintro e w6 ⟨rfl, hch⟩
        have HT6 := Lib.hid (HT.out.chg0 hch)
        clear hch x1 x2 x3 x4
        obtain ⟨x1, x2, x3, x4⟩ := KX.out w6 HT6.out.ch
        go_wp2_with fail
        refine (KL.out _ _ HZ.out HT6.out).mono ?_; rintro e w7 ⟨rfl, hch⟩
        have HT7 := Lib.hid (HT6.out.chg0 hch)
        clear hch
        go_wp2
        go_roundw
        case rel => exact ⟨j + 1, by omega, by go_num, by rw [HSS.out], HT7⟩
        case measure => simp [intOf]; omega
      · have t1 : ((j : Int) == (a : Int)) = false := by simp; omega
        by_cases eb : j = b
        · have t2 : ((j : Int) == (b : Int)) = true := by simp [eb]
          rw [if_pos eb.symm] at hpp
          have HZ : Hid (p0 + n = posOf LP j c) := Lib.hid (by omega)
          have HSS : Hid (posSum LP c (j + 1) = sj + (p0 + n)) := Lib.hid (by rw [hss]; omega)
          clear hpp hss hp2 ea eb hne
          go_wp2_with fail
          refine (KC.out _ HT.out).mono ?_; rintro e w6 ⟨rfl, hch⟩
          have HT6 := Lib.hid (HT.out.chg0 hch)
          clear hch x1 x2 x3 x4
          obtain ⟨x1, x2, x3, x4⟩ := KX.out w6 HT6.out.ch
          go_wp2_with fail
          refine (KL.out _ _ HZ.out HT6.out).mono ?_; rintro e w7 ⟨rfl, hch⟩
          have HT7 := Lib.hid (HT6.out.chg0 hch)
          clear hch
          go_wp2
          go_roundw
          case rel => exact ⟨j + 1, by omega, by go_num, by rw [HSS.out], HT7⟩
          case measure => simp [intOf]; omega
        · have t2 : ((j : Int) == (b : Int)) = false := by simp; omega
          rw [if_neg (fun h => eb h.symm), if_neg (fun h => ea h.symm)] at hpp
          have HZ : Hid (p0 = posOf LP j c) := Lib.hid (by omega)
          have HSS : Hid (posSum LP c (j + 1) = sj + p0) := Lib.hid (by rw [hss]; omega)
          clear hpp hss hp2 ea eb hne
          go_wp2_with fail
          refine (KC.out _ HT.out).mono ?_; rintro e w6 ⟨rfl, hch⟩
          have HT6 := Lib.hid (HT.out.chg0 hch)
          clear hch x1 x2 x3 x4
          obtain ⟨x1, x2, x3, x4⟩ := KX.out w6 HT6.out.ch
          go_wp2_with fail
          refine (KL.out _ _ HZ.out HT6.out).mono ?_; rintro e w7 ⟨rfl, hch⟩
          have HT7 := Lib.hid (HT6.out.chg0 hch)
          clear hch
          go_wp2
          go_roundw
          case rel => exact ⟨j + 1, by omega, by go_num, by rw [HSS.out], HT7⟩
          case measure => simp [intOf]; omega
    · obtain rfl : j = 20 := by omega
      rw [posSum_zero HGP.out]
      go_wp2_with fail
      refine (llines_rd HT.out.l).mono ?_; rintro e w6 ⟨⟨v, rfl, hv⟩, hch⟩
      have HT6 := Lib.hid (HT.out.chg0 hch)
      have hfew := HGP.out.few
      clear hch
      rcases rd_open hv with ⟨rfl, ao', cap', rfl, _⟩ | ⟨g, off, cap', rfl, hcap, hrd⟩
      · clear hv
        go_wp2
        refine wp_loop_rounds 1 ?_
        rw [rounds_succ]
        go_wp2_with fail
        refine (HLV.out _).mono ?_; rintro e w7 ⟨rfl, hch⟩
        have HT7 := Lib.hid (HT6.out.chg0 hch)
        clear hch
        go_wp2
        go_ret
        exact ⟨rfl, HCX.out.trans HT7.out.ch⟩
      · have HR := Lib.hid hrd
        clear hv hrd
        go_wp2
        go_loopw [14] (fun i wr => ∃ i' : Nat, i' ≤ LP.length ∧ i = .int .i64 i' ∧ Hid (Chg [] w6 wr)) (fun i _ => LP.length - (intOf i).toNat)
        case atStart => exact ⟨0, by omega, rfl, Lib.hid (Chg.refl _ _)⟩
        case round =>
          obtain ⟨i, hi, rfl, HC⟩ := hrel
          by_cases hlt : i < LP.length
          · obtain ⟨r0, r1, r2, r3, r4⟩ := HR.out wr HC.out i hlt
            obtain ⟨o1, o2, o3, o4⟩ := HGP.out.owed LP[i] (List.getElem_mem hlt)
            generalize LP[i] = x at r0 r1 r2 r3 r4 o1 o2 o3 o4
            obtain ⟨xc, xd, xu, xl, xn⟩ := x
            dsimp only at r0 r1 r2 r3 r4 o1 o2 o3 o4
            have t1 : decide (xn < 0) = false := decide_eq_false (by omega)
            have t2 : decide (xl < xn) = false := decide_eq_false (by omega)
            clear r0 r1 r2 o1 o2 o3 o4
            go_wp2
            go_quiet (fail)
            go_wp2
            go_roundw
            case rel => exact ⟨i + 1, by omega, by go_num, Lib.hid (HC.out.drewN _)⟩
            case measure => simp [intOf]; omega
          · obtain rfl : i = LP.length := by omega
            go_wp2_with fail
            refine (HLV.out _).mono ?_; rintro e w7 ⟨rfl, hch⟩
            have HT7 := Lib.hid ((HT6.out.chg0 HC.out).chg0 hch)
            clear hch
            go_wp2
            go_ret
            exact ⟨rfl, HCX.out.trans HT7.out.ch⟩
end Go.Proofs.Ytofnaigkfhfhoaa
