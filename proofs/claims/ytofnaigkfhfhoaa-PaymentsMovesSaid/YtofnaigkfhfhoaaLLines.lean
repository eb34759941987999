/-
  The package ledgers: Lines.
-/
import Derived.Test.YtofnaigkfhfhoaaLOrd
import Derived.Test.YtofnaigkfhfhoaaRdK
import Derived.Test.YtofnaigkfhfhoaaPlLines
import Derived.Test.YtofnaigkfhfhoaaLPart
import Derived.Test.YtofnaigkfhfhoaaShelfSortL
import Derived.Shelf.SlSortCmp.NoneTotal
namespace Go.Proofs.Ytofnaigkfhfhoaa
open Go.RowKit Go.Maps Go.WideShapes Pl Go.Shelf Go.Lib Go.Sort

theorem lnCells_len (x : Ln) : (lnCells x).length = 5 := rfl
abbrev lnsCells (l : List Ln) : List Value := l.flatMap lnCells
/-- A slice of lines that reads as this list. -/
abbrev RdLn (w : World) (v : Value) (l : List Ln) : Prop := RdK lnCells 5 w v l

theorem cmpN_facts (a b : Nat) : (cmpN a b = -1 ∧ a < b) ∨ (cmpN a b = 1 ∧ b < a) ∨ (cmpN a b = 0 ∧ a = b) := by
  unfold cmpN
  by_cases h1 : a < b
  · rw [if_pos h1]; exact .inl ⟨rfl, h1⟩
  · rw [if_neg h1]
    by_cases h2 : b < a
    · rw [if_pos h2]; exact .inr (.inl ⟨rfl, h2⟩)
    · rw [if_neg h2]; exact .inr (.inr ⟨rfl, by omega⟩)
/-- How lines stand, told by numbers. -/
def ltL (x y : Ln) : Prop := x.cu < y.cu ∨ (x.cu = y.cu ∧ (x.cr < y.cr ∨ (x.cr = y.cr ∧ x.db < y.db)))
theorem cfL_iff (x y : Ln) : ltOf cfL x y = true ↔ ltL x y := by
  unfold ltOf ltL cfL
  rw [decide_eq_true_iff]
  rcases cmpN_facts x.cu y.cu with ⟨h1, h1'⟩ | ⟨h1, h1'⟩ | ⟨h1, h1'⟩ <;> rcases cmpN_facts x.cr y.cr with ⟨h2, h2'⟩ | ⟨h2, h2'⟩ | ⟨h2, h2'⟩ <;> rcases cmpN_facts x.db y.db with ⟨h3, h3'⟩ | ⟨h3, h3'⟩ | ⟨h3, h3'⟩ <;> simp only [h1, h2, h3] <;> simp <;> omega
theorem swoL : SWO (ltOf cfL) where
  irrefl x := by
    cases h : ltOf cfL x x with
    | false => rfl
    | true => have := (cfL_iff x x).1 h; unfold ltL at this; omega
  trans x y z h1 h2 := by
    rw [cfL_iff] at *
    unfold ltL at *
    omega
  ntrans x y z h1 h2 := by
    rw [← Bool.not_eq_true, cfL_iff] at *
    unfold ltL at *
    omega

theorem enters_order : ∀ args w, (callFunc 84 args).run Try.prog w = .ok (.enter 84 args) w := enters_of Try.func84 (by kernel_rfl) rfl

set_option maxHeartbeats 1000000 in
theorem sort_lines {w : World} {base : Nat} {v : Value} {L acc : List Ln} (h : w.ownsRow base 62 5 v acc.length (lnsCells acc)) (hp : acc.Perm L) (hs : Sorted L) (hsm : ∀ x ∈ L, x.small) (hlen : acc.length ≤ 1000000) :
    Calls Try.prog 83 #[v, .func (.func 84) #[] #[]] w fun e w' => e = .returned (.tuple #[]) ∧ w'.ownsRow base 62 5 v L.length (lnsCells L) ∧ ∃ s, Chg s w w' ∧ ∀ b ∈ s, base ≤ b := by
  have hl := hp.length_eq
  have h' := h
  obtain ⟨hx, ⟨rfl, h0⟩ | ⟨g, cap, cs, rfl, hb, hg, hn, hm, hsz, ht⟩⟩ := h
  · obtain rfl : acc = [] := List.eq_nil_of_length_eq_zero h0
    obtain rfl : L = [] := List.eq_nil_of_length_eq_zero (by rw [← hl]; rfl)
    have hc := AnyF.slices_SortFunc_none sortLines none 0 (.func (.func 84) #[] #[]) w
    change Calls Try.prog 83 _ _ _ at hc
    exact hc.mono fun e w' ⟨he, hw⟩ => ⟨he, by rw [hw]; exact h', [], by rw [hw]; exact Chg.refl _ _, by simp⟩
  · have hB : Blk w g _ cs := hg
    have hH : HoldsK lnCells 5 w g 0 acc.toArray := holdsK_of_blk lnCells_len hB ht
    have hc := AnyQ.slices_SortFunc sortLines 5 Try.isAgg62 Try.sizeOf62 lnCells lnCells_len (fun x u hu => by simp [lnCells] at hu; rcases hu with rfl | rfl | rfl | rfl | rfl <;> rfl) cfL swoL 84 #[] g 0 cap acc.toArray w enters_order
      (fun m os dk _ x y => (lorder x y _).mono fun e w' ⟨he, hw⟩ => ⟨he, hw.grow⟩) hH hB.lt (by simp; omega)
    change Calls Try.prog 83 _ _ _ at hc
    rw [List.size_toArray] at hc
    refine hc.mono fun e w' ⟨he, d', n, os, hpm, hst, hw⟩ => ?_
    have hd : d'.toList = L := by
      obtain ⟨q1, _, q2⟩ := hpm
      rw [List.size_toArray] at q1
      have e1 : d'.extract 0 acc.length = d' := by rw [show acc.length = d'.size from q1.symm]; exact Array.extract_size
      have e2 : acc.toArray.extract 0 acc.length = acc.toArray := by rw [show acc.length = acc.toArray.size from rfl]; exact Array.extract_size
      change (d'.extract 0 acc.length).toList.Perm (acc.toArray.extract 0 acc.length).toList at q2
      rw [e1, e2] at q2
      have q3 : d'.toList.Perm L := q2.trans hp
      refine sorted_perm_eq q3 ?_ hs
      rw [List.pairwise_iff_getElem]
      intro i j hi hj hij
      have hi' : i < d'.size := by simpa using hi
      have hj' : j < d'.size := by simpa using hj
      have := hst i j (Nat.zero_le _) hij (by show j < acc.length; have : d'.size = acc.length := q1; omega)
      rw [getElem!_pos d' j hj', getElem!_pos d' i hi'] at this
      have m1 : d'[i].small := hsm _ (q3.mem_iff.1 (by simp))
      have m2 : d'[j].small := hsm _ (q3.mem_iff.1 (by simp))
      simp only [Array.getElem_toList]
      rw [← cfL_lt m2 m1]
      unfold ltOf at this
      simpa using this
    obtain ⟨d'⟩ := d'
    obtain rfl : d' = L := hd
    obtain ⟨o1, o2⟩ := own_sorted (enc := lnCells) lnCells_len h' (l := d') (by rw [hl]) n os
    rw [hw]
    exact ⟨he, by rw [← hl]; exact o1, [g], chg_sorted _ _ _ _ _, by simpa using o2⟩

theorem info_Line : (Try.prog.info? 62).map (fun i => (i.zero, i.size, i.bytes)) = some (some (.agg #[.int .u8 0, .int .u8 0, .int .u8 0, .int .i64 0, .int .i64 0]), 5, 24) := by kernel_rfl
theorem lnCells_one (x : Ln) : ∀ u ∈ lnCells x, u.oneCell' = true := by
  intro u hu
  simp [lnCells] at hu
  rcases hu with rfl | rfl | rfl | rfl | rfl <;> rfl
theorem owedR_shape {v : Value} {y : DataW Unit × List MemPlace} (h : owedR v = some y) : ∃ p : Int × Int, v = owedV p.1 p.2 ∧ y = (owedD p.1 p.2, []) := by
  unfold owedR at h
  split at h
  · rename_i cs
    obtain ⟨cs⟩ := cs
    unfold owedL at h
    split at h
    · rename_i l d e
      have e : cs = _ := e
      exact ⟨(l, d), by rw [e], (Option.some.inj h).symm⟩
    · cases h
  · cases h

section
variable {w w' : World} {base : Nat} {t : TypeId} {k n : Nat} {v : Value} {xs : List Value}
theorem own_chg {s : List Nat} (h : w.ownsRow base t k v n xs) (c : Chg s w w') (hs : ∀ q, v.ownBlock = some q → q ∉ s) : w'.ownsRow base t k v n xs := by
  obtain ⟨hx, h0 | ⟨g, cap, cs, rfl, hb, hg, hr⟩⟩ := h
  · exact ⟨hx, .inl h0⟩
  · exact ⟨hx, .inr ⟨g, cap, cs, rfl, hb, (show Blk w g t cs from hg).chg c (hs g rfl), hr⟩⟩
theorem own_ne_map (h : w.ownsRow base t k v n xs) {R : Value → Option (DataW Unit × List MemPlace)} {kt : TypeId} {mb r m : Nat} {D : DataW Unit} {left : Lit → Bool} {cnt : Nat} (hr : w.ranges Try.prog kt R mb r m D left cnt) : ∀ q, v.ownBlock = some q → q ≠ r ∧ q ≠ mb := by
  intro q hq
  obtain ⟨es, clock, since, seen, c0, hb, _, _, _, hi, _⟩ := hr
  obtain ⟨hx, ⟨rfl, _⟩ | ⟨g, cap, cs, rfl, _, hg, _⟩⟩ := h
  · cases hq
  · simp only [Value.ownBlock, Option.some.injEq] at hq
    subst hq
    constructor
    · rintro rfl; rw [hg] at hi; cases hi
    · rintro rfl; rw [hg] at hb; cases hb
end

/-- The ends that come out of the map. -/
abbrev EndsT := { p : Nat × Nat × Nat // p.1 < 256 ∧ p.2.1 < 256 ∧ p.2.2 < 256 }

/-- What the map reads as, line by line. -/
def MapRd (L : List Ln) (D : DataW Unit) : Prop := ∀ c d u, c < 256 → d < 256 → u < 256 → D.atKey (endsL c d u) (owedD 0 0) = owedD (owedAt L (rk c d u)).1 (owedAt L (rk c d u)).2 ∧ Maps.has D (endsL c d u) = (findR L (rk c d u)).isSome

/-- THE STEP of a range over the ledger's map: nothing is left, or a line more has come. -/
theorem wpList_next_lines (w : World) {ops : Array Oper} {rest : List Oper} {o : Oper} {a : Act} {Q : Exit → Act → World → Prop} (hg : o.guard = none) (it : Operand) (hop : o.op = Op.next it false) (mb r n : Nat) (D : DataW Unit) (left : Lit → Bool) (cnt : Nat) (L acc : List Ln)
    (hit : a.eval it = .pointer (some ⟨r, 0, none⟩)) (h : w.ranges Try.prog 118 owedR mb r n D left cnt) (G : Gath L acc left) (hs : Sorted L) (hsm : ∀ x ∈ L, x.small) (hD : MapRd L D)
    (hDone : acc.Perm L → wpList Try.prog ops Q rest (a.put o.dst (.tuple #[.bool false])) w)
    (hMore : ∀ (x : Ln) (w' : World) (left' : Lit → Bool) (cnt' : Nat), x.small → Gath L (acc ++ [x]) left' → w'.ranges Try.prog 118 owedR mb r n D left' cnt' → cnt' < cnt → w.grownBy w' (some r) →
      (Instr.entry (.pointer (some ⟨r, 0, none⟩))).run Try.prog w' = .ok (.tuple #[endsV x.cr x.db x.cu, owedV x.lim x.deb]) w' → wpList Try.prog ops Q rest (a.put o.dst (.tuple #[.bool true, endsV x.cr x.db x.cu, owedV x.lim x.deb])) w') :
    wpList Try.prog ops Q (o :: rest) a w := by
  refine wpList_next_ranges w hg it hop 118 ends_law owedR (fun p : EndsT => endsV p.1.1 p.1.2.1 p.1.2.2) (fun p : Int × Int => owedV p.1 p.2) (fun key kl hk => by obtain ⟨c, d, u, hc, hd, hu, rfl, _⟩ := ends_key_inv hk; exact ⟨⟨(c, d, u), hc, hd, hu⟩, rfl⟩) (fun v y hv => by obtain ⟨p, rfl, _⟩ := owedR_shape hv; exact ⟨p, rfl⟩) mb r n D left cnt hit h (fun _ hl => hDone (gath_end G hs hsm hl)) ?_
  rintro ⟨⟨c, d, u⟩, hc, hd, hu⟩ ⟨l, m⟩ kl y w' cnt' hkey hlk hv hat hrg hlt hgr hsz hen
  dsimp only at hc hd hu hkey hv hen ⊢
  rw [ends_key hc hd hu] at hkey
  obtain rfl := Option.some.inj hkey
  obtain ⟨x, hx, _, rfl, rfl, rfl, G'⟩ := gath_step G hs hsm hc hd hu hlk
  have h1 := hat (owedD 0 0)
  rw [(hD _ _ _ hc hd hu).1] at h1
  have h2 : owedAt L (rk x.cr x.db x.cu) = (x.lim, x.deb) := by
    unfold owedAt
    rw [show rk x.cr x.db x.cu = x.rank from rfl, mem_find hs hx]
  rw [h2] at h1
  rw [owedR_mk] at hv
  obtain rfl := Option.some.inj hv
  simp only [owedD, DataW.agg.injEq, List.cons.injEq, DataW.lit.injEq, Lit.int.injEq, true_and, and_true] at h1
  obtain ⟨rfl, rfl⟩ := h1
  exact hMore x w' _ cnt' ⟨hc, hd, hu⟩ G' hrg hlt hgr hen

set_option maxRecDepth 100000 in
set_option maxHeartbeats 4000000 in
theorem llines {w : World} {lb mb : Nat} {S : Nat → Bool} {L : List Ln} (h : IsL w lb mb S L) :
    Calls Try.prog 27 #[.pointer (some ⟨lb, 0, none⟩)] w fun e w' =>
      (∃ v, e = .returned v ∧ w'.ownsRow w.heap.size 62 5 v L.length (lnsCells L)) ∧ Chg [] w w' := by
  have H1 := Lib.hid (lthere_yes h.cell)
  have hcl := h.cell
  have hfew : L.length ≤ 64 := h.good.few
  have hln := h.map.len 3
  obtain ⟨i0, hi, hz0, hz1, hz2⟩ := info_parts info_Line
  have II := Lib.hid (And.intro hi (And.intro hz0 (And.intro hz1 hz2)))
  have HI := Lib.hid h
  clear hi hz0 hz1 hz2 h
  go_enter Try.func27, Try.ntmps27
  go_wp2_with fail
  refine H1.out.mono ?_; rintro e w' ⟨rfl, rfl⟩
  clear hcl
  have hcl := HI.out.cell
  go_wp2_with (first
    | (at_make; refine wpList_make_own _ rfl _ _ 50 rfl w.heap.size 62 i0 _ 5 Try.underlying50 II.out.1 II.out.2.1 II.out.2.2.1 .i64 .i64 _ L.length rfl rfl rfl (by rw [II.out.2.2.2]; omega) (le_maxLen (by omega)) (Nat.le_refl _) ?_; intro w1 hown1 hg1; clear hcl hln; have hc1 : Chg [] w w1 := (Chg.refl _ _).grown hg1 (by simp); have HI1 := HI.out.chg0 hc1; have hcl1 := HI1.cell; obtain ⟨D, hD, hDs, hDl⟩ := HI1.map.owns; have HG0 : Hid (Gath L [] (Maps.has D)) := Lib.hid (gath_start HI1.map.sorted HI1.map.small hDl); have HDL : Hid (MapRd L D) := Lib.hid hDl; have HDS : Hid (Maps.size D ≤ 64) := Lib.hid (by rw [hDs]; exact hfew); have HC1 := Lib.hid hc1; clear hDl hc1 hg1 HI1)
    | (at_range; refine wpList_range_own _ rfl _ 27 rfl 118 120 ends_law Try.underlying27 _ mb L.length D rfl hD ?_; intro w2 hrg2 hg2 hs2; clear hcl1))
  (try go_frame)
  have hc2 : Chg [] w w2 := HC1.out.grown hg2 (by simp)
  have hown2 := own_chg hown1 ((Chg.refl [] _).grown hg2 (by simp)) (by simp)
  obtain ⟨r0, hr0⟩ : ∃ r0, r0 = w1.heap.size := ⟨_, rfl⟩
  have hr1 : w.heap.size ≤ r0 := by rw [hr0]; exact HC1.out.size
  rw [← hr0] at hrg2
  rw [← hr0]
  clear hown1 hg2 hs2 hr0 hD hDs
  go_loopw [3] (fun v wr => ∃ left cnt acc, wr.ranges Try.prog 118 owedR mb r0 L.length D left cnt ∧ wr.ownsRow w.heap.size 62 5 v acc.length (lnsCells acc) ∧ Hid (Gath L acc left) ∧ Chg [] w wr ∧ acc.length + cnt ≤ 64) (fun _ wr => wr.rangeLeft mb r0)
  case atStart => exact ⟨_, _, [], hrg2, hown2, HG0, hc2, by simpa using HDS.out⟩
  case round =>
    clear hrg2 hown2 hc2 HG0
    obtain ⟨left, cnt, acc, hrg, hown, HG, hchg, hcn⟩ := hrel
    have hne := own_ne_map hown hrg
    have HNE := Lib.hid hne
    have HCH := Lib.hid hchg
    have HOWN := Lib.hid hown
    clear hne hchg hown
    go_wp2_with (first
      | (at_next; refine wpList_next_lines _ rfl _ rfl mb r0 L.length D left cnt L acc rfl hrg HG.out HI.out.map.sorted HI.out.map.small HDL.out (fun hperm => ?_) (fun x w3 left3 cnt3 hx3 HG3 hrg3 hlt3 hg3 hen => ?_))
      | (go_at_call 83; refine (sort_lines HOWN.out hperm HI.out.map.sorted HI.out.map.small (by omega)).mono ?_; rintro e w4 ⟨rfl, hown4, s4, hc4, hs4⟩; have H4 := Lib.hid (And.intro hown4 (HCH.out.fresh hc4 (fun b hb => .inr (hs4 b hb)))); clear hown4 hc4 hs4)
      | (at_builtin; refine wpList_append_own _ rfl _ _ 50 rfl w.heap.size 62 i0 _ 5 24 Try.underlying50 II.out.1 II.out.2.1 II.out.2.2.1 II.out.2.2.2 rfl (by decide) _ _ _ rfl ((((own_chg HOWN.out ((Chg.refl [r0] wr).grown hg3 (by simp)) (fun q hq => by simpa using (HNE.out q hq).1)).alloc _).alloc _).alloc _) ⟨w3.heap.size + 1 + 1, 0, none⟩ 1 1 (lnCells x) rfl rfl (fun j u h => by have := cells_new ((w3.alloc (.cells #[.int .u8 x.cr, .int .u8 x.db, .int .u8 x.cu] 118)).alloc (.cells #[.int .i64 x.lim, .int .i64 x.deb] 120)) (lnCells x) 62 j u h; simp only [World.size_alloc] at this; exact this) (lnCells_one _) (le_maxLen (by omega)) (by omega) (by have h1 := HCH.out.size; have h2 := hg3.size; simp; omega) ?_; intro v' w4 hown' hgrow _))
    · go_ret
      exact ⟨⟨_, rfl, H4.out.1⟩, H4.out.2⟩
    · have hrg4 := (((hrg3.alloc _).alloc _).alloc _).kept hgrow (fun e => (HNE.out mb e.symm).2 rfl) (fun e => (HNE.out r0 e.symm).1 rfl)
      refine ⟨⟨left3, cnt3, acc ++ [x], hrg4, ?_, Lib.hid HG3, ?_, by simp; omega⟩, by rw [hrg4.left_eq, hrg.left_eq]; exact hlt3⟩
      · rw [List.length_append]
        simpa [lnsCells] using hown'
      · exact ((((HCH.out.fresh ((Chg.refl [r0] wr).grown hg3 (by simp)) (by simpa using hr1)).alloc _).alloc _).alloc _).grown hgrow (fun q hq => .inr (HOWN.out.lt q hq).1)
end Go.Proofs.Ytofnaigkfhfhoaa
