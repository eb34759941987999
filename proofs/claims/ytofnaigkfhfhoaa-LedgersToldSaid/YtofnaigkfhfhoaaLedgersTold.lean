/-
  The law LedgersTold, walked.
-/
import Derived.Test.YtofnaigkfhfhoaaPlTold
namespace Go.Proofs.Ytofnaigkfhfhoaa
open Go.RowKit Go.Maps Pl
attribute [local go_sem ↓] Go.wp_at_zero Go.wp_at_succ

theorem own_form {w : World} {base : Nat} {t : TypeId} {k n : Nat} {v : Value} {xs : List Value} (h : w.ownsRow base t k v n xs) (hn : 0 < n) : ∃ g cap, v = .slice (some ⟨g, 0, none⟩) n cap ∧ base ≤ g ∧ n ≤ cap ∧ cap ≤ maxLen ∧ g < w.heap.size := by
  obtain ⟨_, ⟨_, h0⟩ | ⟨g, cap, cs, h1, h2, h3, h4, h5, _⟩⟩ := h
  · omega
  · exact ⟨g, cap, h1, h2, h4, h5, (show Blk w g t cs from h3).lt⟩

theorem own_line_set {W : World} {base g cap i j : Nat} {t : TypeId} {L : List Ln} {x' : Ln} {u : Value} {n : Nat} (h : W.ownsRow base t 5 (.slice (some ⟨g, 0, none⟩) n cap) n (lnsCells L)) (hi : i < L.length) (hj : j < 5) (hx : lnCells x' = (lnCells L[i]).set j u) :
    (W.setCell ⟨g, i * 5 + j, none⟩ u).ownsRow base t 5 (.slice (some ⟨g, 0, none⟩) n cap) n (lnsCells (L.set i x')) := by
  have := (h.stored (i * 5 + j) u).1
  rwa [show (lnsCells L).set (i * 5 + j) u = lnsCells (L.set i x') from flat_set lnCells_len L i hi j hj x' u hx] at this
theorem set_small {L : List Ln} (h : ∀ x ∈ L, x.small) {i : Nat} {x : Ln} (hx : x.small) {l d : Int} : ∀ y ∈ L.set i ⟨x.cr, x.db, x.cu, l, d⟩, y.small := by
  intro y hy
  rcases List.mem_or_eq_of_mem_set hy with hy | rfl
  · exact h y hy
  · exact hx
section
variable {w8 : World} {g : Nat} {L : List Ln} {i : Nat}
theorem take_src (h : ∀ W, Chg [] w8 W → ∀ j, j < L.length * 5 → W.cell? ⟨g, j, none⟩ = (lnsCells L)[j]?) (hi : i + 1 ≤ L.length) : ∀ j u, (lnsCells (L.take (i + 1)))[j]? = some u → w8.drew.cell? ((⟨g, 0, none⟩ : Addr).add j) = some u := by
  intro j u hu
  have hj : j < (i + 1) * 5 := by
    have := (List.getElem?_eq_some_iff.1 hu).1
    rw [flat_length lnCells_len, List.length_take] at this
    omega
  rw [add_at, Nat.zero_add, h _ (Chg.refl _ _).drew j (by omega)]
  rw [show lnsCells (L.take (i + 1)) = (lnsCells L).take ((i + 1) * 5) from (flat_take lnCells_len L (i + 1) hi).symm, List.getElem?_take_of_lt hj] at hu
  exact hu
theorem drop_src {W : World} (h : ∀ W, Chg [] w8 W → ∀ j, j < L.length * 5 → W.cell? ⟨g, j, none⟩ = (lnsCells L)[j]?) (k : Chg [] w8 W) (hi : i ≤ L.length) : ∀ j u, (lnsCells (L.drop i))[j]? = some u → W.cell? ((⟨g, i * 5, none⟩ : Addr).add j) = some u := by
  intro j u hu
  have hj : j < (L.length - i) * 5 := by
    have := (List.getElem?_eq_some_iff.1 hu).1
    rw [flat_length lnCells_len, List.length_drop] at this
    omega
  rw [add_at, h _ k (i * 5 + j) (by omega)]
  rw [show lnsCells (L.drop i) = (lnsCells L).drop (i * 5) from (flat_drop lnCells_len L i hi).symm, List.getElem?_drop] at hu
  exact hu
end

set_option maxRecDepth 100000 in
set_option maxHeartbeats 8000000 in
theorem ledgersTold_walk {w : World} {va : Value} {l : List Deed} {at_ : Nat} (hl : RdAct w va l) (hat : at_ < 256) :
    Calls Try.prog 10 #[va, .int .u8 at_] w fun e w' => e = .returned (.bool true) ∧ Chg [] w w' := by
  have HLV := Lib.hid (fun W => lives3 W)
  have HA := Lib.hid hl
  obtain ⟨ao, acap, rfl⟩ := rdact_shape hl
  clear hl
  by_cases hla : 120 < l.length
  · have hla1 : (120 : Int) < l.length := by omega
    go_enter Try.func10, Try.ntmps10
    go_wp2_with fail
    refine (HLV.out _).mono ?_; rintro e w' ⟨rfl, hc⟩
    have HC := Lib.hid hc
    clear hc
    go_wp2
    go_ret
    exact ⟨rfl, HC.out⟩
  have hla1 : (l.length : Int) ≤ 120 := by omega
  have hla2 : decide (120 < (l.length : Int)) = false := decide_eq_false (by omega)
  go_enter Try.func10, Try.ntmps10
  go_wp2_with fail
  refine (lmade HA.out (by omega)).mono ?_
  rintro e w1 ⟨lb, mb, rfl, hled⟩
  obtain ⟨_, _, ⟨S, L, hI⟩, hch⟩ := hled
  have HI := Lib.hid hI
  have HG := Lib.hid hI.good
  have HSO := Lib.hid hI.map.sorted
  have HSM := Lib.hid hI.map.small
  have HC1 := Lib.hid hch
  clear hI hch HA
  go_wp2_with fail
  refine (lparties_rd HI.out).mono ?_
  rintro e w2 ⟨⟨vp, rfl, hvp⟩, hch⟩
  have HP := Lib.hid hvp
  have HC2 := Lib.hid (HC1.out.trans hch)
  have HI2 := Lib.hid (HI.out.chg0 hch)
  clear hvp hch HI HC1
  go_wp2_with fail
  refine (llines HI2.out).mono ?_
  rintro e w3 ⟨⟨vl, rfl, hvl⟩, hch⟩
  have HO := Lib.hid hvl
  have HB := Lib.hid hch
  have hfew := HG.out.few
  have HPT := Lib.hid (fun p (hp : p ∈ ptsOf S 17) => (show p < 256 by have := (mem_pts.1 hp).1; omega))
  have hpl : (ptsOf S 17).length ≤ 17 := ptsOf_len S 17
  have HOK := Lib.hid (told_ok HG.out HSO.out)
  have HSET := Lib.hid (pts_set HG.out.pts)
  have KOF : Hid (∀ W v (M : List Ln), Chg [] w2 W → RdLn W v M → (∀ x ∈ M, x.small) → M.length ≤ 1000 → Calls Try.prog 40 #[vp, v] W (OfPost W (ptsOf S 17) M)) := Lib.hid fun W v M k h1 h2 h3 => lof3 (HP.out.chg0 k) h1 HPT.out h2 (by omega) (by omega)
  clear hvl hch HI2
  go_wp2_with fail
  refine (KOF.out _ _ _ HB.out (RdK.of_own lnCells_len HO.out) HSM.out (by omega)).mono ?_
  rintro e w4 hpost
  unfold OfPost at hpost
  rw [HOK.out, if_pos rfl, HSET.out] at hpost
  obtain ⟨nb, mb2, rfl, hls⟩ := hpost
  have HM := Lib.hid hls
  have HB4 := Lib.hid (HB.out.trans hls.ch)
  have HO4 := Lib.hid (own_chg HO.out hls.ch (by simp))
  clear hls HO HB HOK HSET
  go_wp2_with fail
  refine (lparties_rd HM.out.led).mono ?_
  rintro e w5 ⟨⟨vq, rfl, hvq⟩, hch⟩
  have KS := Lib.hid (sameParties_c hvq (HP.out.chg0 (HB4.out.trans hch)) (by omega))
  rw [decide_eq_true rfl] at KS
  have HM5 := Lib.hid (HM.out.chg0 hch)
  have HB5 := Lib.hid (HB4.out.trans hch)
  have HO5 := Lib.hid (own_chg HO4.out hch (by simp))
  clear hvq hch HM HB4 HO4
  go_wp2_with fail
  refine KS.out.mono ?_; rintro e w6 ⟨rfl, hch⟩
  have HM6 := Lib.hid (HM5.out.chg0 hch)
  have HB6 := Lib.hid (HB5.out.trans hch)
  have HO6 := Lib.hid (own_chg HO5.out hch (by simp))
  clear hch HM5 HB5 HO5 KS
  go_wp2_with fail
  refine (llines_rd HM6.out.led).mono ?_; rintro e w7 ⟨⟨v2, rfl, hv2⟩, hch⟩
  have KS := Lib.hid (sameLines_c hv2 (RdK.of_own lnCells_len (own_chg HO6.out hch (by simp))) (by omega))
  rw [decide_eq_true rfl] at KS
  have HB7 := Lib.hid (HB6.out.trans hch)
  have HO7 := Lib.hid (own_chg HO6.out hch (by simp))
  clear hv2 hch HM6 HB6 HO6
  go_wp2_with fail
  refine KS.out.mono ?_; rintro e w8 ⟨rfl, hch⟩
  have HB8 := Lib.hid (HB7.out.trans hch)
  have hO8 := own_chg HO7.out hch (by simp)
  clear hch HB7 HO7 KS
  by_cases hz : L.length = 0
  · obtain ⟨ao2, cap2, hsh⟩ := (RdK.of_own lnCells_len hO8).shape
    rw [hz] at hsh
    subst hsh
    clear hO8
    go_wp2_with fail
    refine (HLV.out _).mono ?_; rintro e w9 ⟨rfl, hch⟩
    have HB9 := Lib.hid (HB8.out.trans hch)
    clear hch
    go_wp2
    go_ret
    exact ⟨rfl, HC2.out.trans HB9.out⟩
  have hpos : 0 < L.length := by omega
  obtain ⟨g, cap, rfl, hbg, hcap1, hcap2, hglt⟩ := own_form hO8 hpos
  have HO8 := Lib.hid hO8
  clear hO8 hz
  obtain ⟨i, hi⟩ : ∃ i, i = at_ % L.length := ⟨_, rfl⟩
  have hil : i < L.length := by rw [hi]; exact Nat.mod_lt _ hpos
  have hmod : (at_ : Int) % (L.length : Int) = (i : Int) := by rw [hi]; simp
  have hLn : L.length ≠ 0 := by omega
  have hne0 : ((L.length : Int) == 0) = false := by simp; intro h; rw [h] at hpos; simp at hpos
  have hposI : (0 : Int) < L.length := by omega
  clear hi
  obtain ⟨i0, hi0, hz0, hz1, hz2⟩ := info_parts info_Line
  have hcellA : ∀ W, Chg [] w8 W → ∀ j, j < L.length * 5 → W.cell? ⟨g, j, none⟩ = (lnsCells L)[j]? := fun W k j hj => by
    have := (own_chg HO8.out k (by simp)).cellAt j hj
    exact this
  have HSRC : Hid (∀ W, Chg [] w8 W → ∀ j, j < L.length * 5 → W.cell? ⟨g, j, none⟩ = (lnsCells L)[j]?) := Lib.hid hcellA
  have hlen2 : i + 1 + (L.length - i) = (twiceL L i).length := by rw [twice_len hil]; omega
  have HLEN := Lib.hid hlen2
  clear hcellA hlen2
  have hwi : IntKind.i64.wrap ((i : Int) + 1) = (i : Int) + 1 := IntWalk.i64_in _ (by omega)
  have hi1 : (0 : Int) ≤ (i : Int) + 1 := by omega
  have hi2 : ((i : Int) + 1).toNat = i + 1 := by omega
  have hi3 : (i : Int) + 1 ≤ cap := by omega
  have hi4 : i + 1 ≤ cap := by omega
  have hi5 : i ≤ L.length := by omega
  have hi6 : ¬ cap = i := by omega
  go_wp2_with fail
  refine wp_region_held_drew (S := (fun _ : World => True)) (by kernel_rfl) ?_ (fun hHeld => ?_)
  · trivial
  refine wpAnyH_take (i := 0) (v := ?vt12_0_0) rfl (by kernel_rfl) (by kernel_rfl) (by kernel_rfl) (fun _ _ _ h => h) (Or.inl ⟨by rfl, ?hyt12_0_0⟩) (by assumption) ?_
  case hyt12_0_0 => (intro w hSw; (try dsimp only at hSw); go_simp; try (with_reducible rfl))
  (try simp only [Act.put, List.getElem_toArray, List.getElem_cons_zero, List.setIfInBounds_toArray, List.set_cons_zero, List.set_cons_succ])
  refine wpAnyH_take (i := 1) (v := ?vt12_0_1) rfl (by kernel_rfl) (by kernel_rfl) (by kernel_rfl) (fun _ _ _ h => h) (Or.inl ⟨by rfl, ?hyt12_0_1⟩) (by assumption) ?_
  case hyt12_0_1 => (intro w hSw; (try dsimp only at hSw); go_simp; try (with_reducible rfl))
  (try simp only [Act.put, List.getElem_toArray, List.getElem_cons_zero, List.getElem_cons_succ, List.setIfInBounds_toArray, List.set_cons_zero, List.set_cons_succ])
  refine wpAnyH_take (i := 2) (v := ?vt12_0_2) rfl (by kernel_rfl) (by kernel_rfl) (by kernel_rfl) (fun _ _ _ h => h) (Or.inl ⟨by rfl, ?hyt12_0_2⟩) (by assumption) ?_
  case hyt12_0_2 => (intro w hSw; (try dsimp only at hSw); go_simp; try (with_reducible rfl))
  (try simp only [Act.put, List.getElem_toArray, List.getElem_cons_zero, List.getElem_cons_succ, List.setIfInBounds_toArray, List.set_cons_zero, List.set_cons_succ])
  refine wpAnyH_take (i := 3) (v := ?vt12_0_3) rfl (by kernel_rfl) (by kernel_rfl) (by kernel_rfl) (fun _ _ _ h => h) (Or.inl ⟨by rfl, ?hyt12_0_3⟩) (by assumption) ?_
  case hyt12_0_3 => (intro w hSw; (try dsimp only at hSw); go_simp; try (with_reducible rfl))
  (try simp only [Act.put, List.getElem_toArray, List.getElem_cons_zero, List.getElem_cons_succ, List.setIfInBounds_toArray, List.set_cons_zero, List.set_cons_succ])
  refine wpAnyH_take (i := 5) (v := ?vt12_0_5) rfl (by kernel_rfl) (by kernel_rfl) (by kernel_rfl) (fun _ _ _ h => h) (Or.inl ⟨by rfl, ?hyt12_0_5⟩) (by assumption) ?_
  case hyt12_0_5 => (intro w hSw; (try dsimp only at hSw); go_simp; try (with_reducible rfl))
  (try simp only [Act.put, List.getElem_toArray, List.getElem_cons_zero, List.getElem_cons_succ, List.setIfInBounds_toArray, List.set_cons_zero, List.set_cons_succ])
  refine wpAnyH_take (i := 6) (v := ?vt12_0_6) rfl (by kernel_rfl) (by kernel_rfl) (by kernel_rfl) (fun _ _ _ h => h) (Or.inl ⟨by rfl, ?hyt12_0_6⟩) (by assumption) ?_
  case hyt12_0_6 => (intro w hSw; (try dsimp only at hSw); go_simp; try (with_reducible rfl))
  (try simp only [Act.put, List.getElem_toArray, List.getElem_cons_zero, List.getElem_cons_succ, List.setIfInBounds_toArray, List.set_cons_zero, List.set_cons_succ])
  refine wpAnyH_take (i := 7) (v := ?vt12_0_7) rfl (by kernel_rfl) (by kernel_rfl) (by kernel_rfl) (fun _ _ _ h => h) (Or.inl ⟨by rfl, ?hyt12_0_7⟩) (by assumption) ?_
  case hyt12_0_7 => (intro w hSw; (try dsimp only at hSw); go_simp; try (with_reducible rfl))
  (try simp only [Act.put, List.getElem_toArray, List.getElem_cons_zero, List.getElem_cons_succ, List.setIfInBounds_toArray, List.set_cons_zero, List.set_cons_succ])
  refine wpAnyH_ready (rs := [4]) (by kernel_rfl) (by simp) (AllReadyH.cons rfl (fun K hK => ?_) AllReadyH.nil)
  refine wp_append_own _ _ _ _ rfl w8.heap.size 62 i0 _ 5 24 Try.underlying50 hi0 hz0 hz1 hz2 rfl (by decide) (.slice none 0 0) 0 [] rfl (World.ownsRow_nil _ _ _ _) ⟨g, 0, none⟩ (i + 1) cap (lnsCells (L.take (i + 1))) rfl (by rw [flat_length lnCells_len, List.length_take]; omega) (take_src HSRC.out (by omega)) (fun u hu => by obtain ⟨x, _, hx⟩ := List.mem_flatMap.1 hu; exact lnCells_one x u hx) (by unfold maxLen at *; omega) (by omega) (Nat.le_refl _) ?_
  intro v1 wA own1 gr1 _
  rw [Nat.zero_add, List.nil_append] at own1
  have hcA : Chg [] w8 wA := (Chg.refl _ _).drew.grown gr1 (by simp [Value.ownBlock])
  refine hK.out _ _ ?_ (fun hHeld => ?_)
  · trivial
  clear hK K
  (try simp only [Act.put, List.getElem_toArray, List.getElem_cons_zero, List.getElem_cons_succ, List.setIfInBounds_toArray, List.set_cons_zero, List.set_cons_succ])
  refine wpAnyH_ready (rs := [8]) (by kernel_rfl) (by simp) (AllReadyH.cons rfl (fun K hK => ?_) AllReadyH.nil)
  refine wp_append_own _ _ _ _ rfl w8.heap.size 62 i0 _ 5 24 Try.underlying50 hi0 hz0 hz1 hz2 rfl (by decide) v1 (i + 1) (lnsCells (L.take (i + 1))) rfl own1 ⟨g, i * 5, none⟩ (L.length - i) (cap - i) (lnsCells (L.drop i)) rfl (by rw [flat_length lnCells_len, List.length_drop]) (drop_src HSRC.out hcA (by omega)) (fun u hu => by obtain ⟨x, _, hx⟩ := List.mem_flatMap.1 hu; exact lnCells_one x u hx) (by unfold maxLen at *; omega) (by omega) (by have := hcA.size; exact this) ?_
  intro v2' wB own2 gr2 _
  refine hK.out _ _ ?_ (fun hHeld => ?_)
  · trivial
  clear hK K
  (try simp only [Act.put, List.getElem_toArray, List.getElem_cons_zero, List.getElem_cons_succ, List.setIfInBounds_toArray, List.set_cons_zero, List.set_cons_succ])
  refine wpAnyH_take (i := 9) (v := ?vt12_0_9) rfl (by kernel_rfl) (by kernel_rfl) (by kernel_rfl) (fun _ _ _ h => h) (Or.inl ⟨by rfl, ?hyt12_0_9⟩) (by assumption) ?_
  case hyt12_0_9 => (intro w hSw; (try dsimp only at hSw); go_simp; try (with_reducible rfl))
  (try simp only [Act.put, List.getElem_toArray, List.getElem_cons_zero, List.getElem_cons_succ, List.setIfInBounds_toArray, List.set_cons_zero, List.set_cons_succ])
  refine wpAnyH_done (by kernel_rfl) ?_ _
  obtain ⟨g1, cap1, hv1, hb1, _, _, _⟩ := own_form own1 (by omega)
  have hcB : Chg [] w8 wB := hcA.grown gr2 (fun q hq => .inr (by rw [hv1] at hq; simp only [Value.ownBlock, Option.some.injEq] at hq; omega))
  have own3 : wB.ownsRow w8.heap.size 62 5 v2' (twiceL L i).length (lnsCells (twiceL L i)) := by
    rw [← HLEN.out]
    have : lnsCells (twiceL L i) = lnsCells (L.take (i + 1)) ++ lnsCells (L.drop i) := by unfold twiceL lnsCells; rw [List.flatMap_append]
    rw [this]; exact own2
  obtain ⟨g2, cap2, hv2, hb2, _, _, _⟩ := own_form own3 (by rw [← HLEN.out]; omega)
  have HBB := Lib.hid (HB8.out.trans hcB)
  have HOB := Lib.hid (own_chg HO8.out hcB (by simp))
  have HTW := Lib.hid own3
  subst hv1 hv2
  have HV2 := Lib.hid (twice_len hil)
  clear own1 own2 own3 gr1 gr2 hcA hcB hi0 hz0 hz1 hz2 HB8 HO8 hb1 hb2 HLEN HSRC hHeld
  have hsmT : ∀ x ∈ twiceL L i, x.small := fun x hx => by
    unfold twiceL at hx
    rw [List.mem_append] at hx
    rcases hx with hx | hx
    · exact HSM.out x (List.mem_of_mem_take hx)
    · exact HSM.out x (List.mem_of_mem_drop hx)
  have KT := Lib.hid (KOF.out _ _ _ HBB.out (RdK.of_own lnCells_len HTW.out) hsmT (by rw [HV2.out]; omega))
  have hr0 := twice_bad HG.out.pts hil
  obtain ⟨r, hr⟩ : ∃ r : Int, r = if 64 < L.length + 1 then 9 else 1 := ⟨_, rfl⟩
  rw [← hr] at hr0
  have hrn : r ≠ 0 := by rw [hr]; split <;> decide
  have HR := Lib.hid (And.intro hr0 (And.intro hr hrn))
  clear hsmT hr0 hr hrn
  go_wp2_with fail
  refine KT.out.mono ?_
  rintro e wC hpost
  unfold OfPost at hpost
  rw [HR.out.1, if_neg HR.out.2.2] at hpost
  obtain ⟨rfl, hch⟩ := hpost
  have HBC := Lib.hid (HBB.out.trans hch)
  have HOC := Lib.hid (own_chg HOB.out hch (by simp))
  clear hch HBB HOB KT HTW
  obtain ⟨x, hx⟩ : ∃ x, x = L[i] := ⟨_, rfl⟩
  have hxo := HG.out.owed L[i] (List.getElem_mem hil)
  have hxs := HSM.out L[i] (List.getElem_mem hil)
  rw [← hx] at hxo hxs
  have hE1 := set_bad (x := ⟨x.cr, x.db, x.cu, x.lim, x.lim + 1⟩) HG.out.pts HG.out.few hil (fun _ h => by have := h.2.2.2; dsimp only at this; omega)
  have hE2 := set_bad (x := ⟨x.db, x.db, x.cu, x.lim, 0⟩) HG.out.pts HG.out.few hil (fun h => by obtain ⟨_, _, h3, _⟩ := endsOk_of h; exact absurd rfl h3)
  have HE12 := Lib.hid (And.intro hE1 hE2)
  have HXO := Lib.hid hxs
  have hc3 : wC.cell? ⟨g, i * 5 + 3, none⟩ = some (.int .i64 x.lim) := by
    rw [HOC.out.cellAt _ (by omega), flat_get lnCells_len L i hil 3 (by omega), ← hx]; rfl
  have hc4 : wC.cell? ⟨g, i * 5 + 4, none⟩ = some (.int .i64 x.deb) := by
    rw [HOC.out.cellAt _ (by omega), flat_get lnCells_len L i hil 4 (by omega), ← hx]; rfl
  have hf4 : wC.frozen? ⟨g, i * 5 + 4, none⟩ = false := HOC.out.frozenAt _
  have h1 : wC.cell? ⟨g, i * 5 + 1, none⟩ = some (.int .u8 x.db) := by
    rw [HOC.out.cellAt _ (by omega), flat_get lnCells_len L i hil 1 (by omega), ← hx]; rfl
  have h0 : wC.cell? ⟨g, i * 5, none⟩ = some (.int .u8 x.cr) := by
    have := HOC.out.cellAt (i * 5 + 0) (by omega)
    rw [flat_get lnCells_len L i hil 0 (by omega), ← hx] at this; exact this
  have own1 := own_line_set HOC.out hil (j := 4) (x' := ⟨x.cr, x.db, x.cu, x.lim, x.lim + 1⟩) (u := .int .i64 (x.lim + 1)) (by omega) (by rw [← hx]; rfl)
  have HO1 := Lib.hid own1
  have HB1 : Hid (Chg [] w2 (wC.setCell ⟨g, i * 5 + 4, none⟩ (.int .i64 (x.lim + 1)))) := Lib.hid (HBC.out.setCell (.inr hbg) _)
  have KT := Lib.hid (KOF.out _ _ _ HB1.out (by have := own1; rw [show L.length = (L.set i ⟨x.cr, x.db, x.cu, x.lim, x.lim + 1⟩).length from (List.length_set ..).symm] at this; exact RdK.of_own lnCells_len this) (set_small HSM.out hxs) (by rw [List.length_set]; omega))
  rw [List.length_set] at KT
  obtain ⟨hxo1, hxo2, hxo3, hxo4⟩ := hxo
  have HH := Lib.hid (And.intro h0 h1)
  have HX := Lib.hid hx
  clear hE1 hE2 hxs own1 h0 h1 hx
  go_wp2_with fail
  refine KT.out.mono ?_
  rintro e wD hpost
  unfold OfPost at hpost
  rw [HE12.out.1, if_neg (by decide)] at hpost
  obtain ⟨rfl, hch⟩ := hpost
  have HBD := Lib.hid (HB1.out.trans hch)
  have HOD := Lib.hid (own_chg HO1.out hch (by simp))
  clear hch HB1 HO1 KT HBC HOC hc3 hc4 hf4
  have hil2 : i < (L.set i ⟨x.cr, x.db, x.cu, x.lim, x.lim + 1⟩).length := by rw [List.length_set]; exact hil
  have hgi : (L.set i ⟨x.cr, x.db, x.cu, x.lim, x.lim + 1⟩)[i] = ⟨x.cr, x.db, x.cu, x.lim, x.lim + 1⟩ := by simp
  have own2 := own_line_set HOD.out hil2 (j := 4) (x' := ⟨x.cr, x.db, x.cu, x.lim, 0⟩) (u := .int .i64 0) (by omega) (by rw [hgi]; rfl)
  rw [List.set_set] at own2
  have hil3 : i < (L.set i ⟨x.cr, x.db, x.cu, x.lim, 0⟩).length := by rw [List.length_set]; exact hil
  have hgi3 : (L.set i ⟨x.cr, x.db, x.cu, x.lim, 0⟩)[i] = ⟨x.cr, x.db, x.cu, x.lim, 0⟩ := by simp
  have own3 := own_line_set own2 hil3 (j := 0) (x' := ⟨x.db, x.db, x.cu, x.lim, 0⟩) (u := .int .u8 x.db) (by omega) (by rw [hgi3]; rfl)
  rw [List.set_set, Nat.add_zero] at own3
  have hd4 : wD.cell? ⟨g, i * 5 + 4, none⟩ = some (.int .i64 (x.lim + 1)) := by
    rw [HOD.out.cellAt _ (by omega), flat_get lnCells_len _ i hil2 4 (by omega), hgi]; rfl
  have hdf : wD.frozen? ⟨g, i * 5 + 4, none⟩ = false := HOD.out.frozenAt _
  have he1 : (wD.setCell ⟨g, i * 5 + 4, none⟩ (.int .i64 0)).cell? ⟨g, i * 5 + 1, none⟩ = some (.int .u8 x.db) := by
    rw [own2.cellAt _ (by omega), flat_get lnCells_len _ i hil3 1 (by omega), hgi3]; rfl
  have he0 : (wD.setCell ⟨g, i * 5 + 4, none⟩ (.int .i64 0)).cell? ⟨g, i * 5, none⟩ = some (.int .u8 x.cr) := by
    have := own2.cellAt (i * 5 + 0) (by omega)
    rw [flat_get lnCells_len _ i hil3 0 (by omega), hgi3] at this; exact this
  have hef : (wD.setCell ⟨g, i * 5 + 4, none⟩ (.int .i64 0)).frozen? ⟨g, i * 5, none⟩ = false := own2.frozenAt _
  have HB3 : Hid (Chg [] w2 ((wD.setCell ⟨g, i * 5 + 4, none⟩ (.int .i64 0)).setCell ⟨g, i * 5, none⟩ (.int .u8 x.db))) := Lib.hid ((HBD.out.setCell (.inr hbg) _).setCell (.inr hbg) _)
  have KT := Lib.hid (KOF.out _ _ _ HB3.out (by have := own3; rw [show L.length = (L.set i ⟨x.db, x.db, x.cu, x.lim, 0⟩).length from (List.length_set ..).symm] at this; exact RdK.of_own lnCells_len this) (fun y hy => by
    rcases List.mem_or_eq_of_mem_set hy with hy | rfl
    · exact HSM.out y hy
    · exact ⟨HXO.out.2.1, HXO.out.2.1, HXO.out.2.2⟩) (by rw [List.length_set]; omega))
  rw [List.length_set] at KT
  clear own2 own3 hil2 hil3 hgi hgi3
  go_wp2_with fail
  refine KT.out.mono ?_
  rintro e wE hpost
  unfold OfPost at hpost
  rw [HE12.out.2, if_neg (by decide)] at hpost
  obtain ⟨rfl, hch⟩ := hpost
  have HBE := Lib.hid (HB3.out.trans hch)
  clear hch HB3 KT hd4 hdf he1 he0 hef HBD HOD
  obtain ⟨hr0, hr, hrn⟩ := HR.out
  have hv2 := HV2.out
  by_cases h64 : 64 < L.length + 1
  · rw [if_pos h64] at hr
    subst hr
    have t1 : decide (64 < ((twiceL L i).length : Int)) = true := decide_eq_true (by omega)
    clear hr0 hrn h64 HR hv2
    go_wp2_with fail
    refine (HLV.out _).mono ?_; rintro e wF ⟨rfl, hch⟩
    have HBF := Lib.hid (HBE.out.trans hch)
    clear hch
    go_wp2
    go_ret
    exact ⟨rfl, HC2.out.trans HBF.out⟩
  · rw [if_neg h64] at hr
    subst hr
    clear hr0 hrn h64 HR hv2
    go_wp2_with fail
    refine (HLV.out _).mono ?_; rintro e wF ⟨rfl, hch⟩
    have HBF := Lib.hid (HBE.out.trans hch)
    clear hch
    go_wp2
    go_ret
    exact ⟨rfl, HC2.out.trans HBF.out⟩
end Go.Proofs.Ytofnaigkfhfhoaa
