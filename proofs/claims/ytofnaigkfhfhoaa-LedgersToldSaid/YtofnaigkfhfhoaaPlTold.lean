/-
  What Of makes of what a ledger tells; of what is not quite that. In plain Lean.
-/
import Derived.Test.YtofnaigkfhfhoaaLOf3
namespace Go.Proofs.Ytofnaigkfhfhoaa
open Go.RowKit Go.Maps Pl

theorem pts_sorted (S : Nat → Bool) (n : Nat) : (ptsOf S n).Pairwise (· < ·) := List.Pairwise.filter _ List.pairwise_lt_range
theorem mem_pts {S : Nat → Bool} {n p : Nat} : p ∈ ptsOf S n ↔ p < n ∧ S p = true := by simp [ptsOf]
theorem pts_ok {S : Nat → Bool} (h : ∀ p, S p = true → p ∈ P16) : ∀ k, k < (ptsOf S 17).length → pOk (ptsOf S 17) k := by
  intro k hk
  refine ⟨?_, ?_⟩
  · rw [px_get hk]
    have := mem_pts.1 (List.getElem_mem hk)
    exact mem_P16.1 (h _ this.2)
  · by_cases e : k = 0
    · exact .inl e
    · right
      rw [px_get hk, px_get (by omega)]
      exact (List.pairwise_iff_getElem.1 (pts_sorted S 17)) (k - 1) k (by omega) hk (by omega)
theorem pts_set {S : Nat → Bool} (h : ∀ p, S p = true → p ∈ P16) : setS (ptsOf S 17) (ptsOf S 17).length = S := by
  funext p
  unfold setS
  rw [List.take_length, List.contains_eq_mem]
  cases hs : S p with
  | true =>
    rw [decide_eq_true_eq, mem_pts]
    have := mem_P16.1 (h p hs)
    exact ⟨by omega, hs⟩
  | false =>
    rw [decide_eq_false_iff_not, mem_pts, hs]
    simp
theorem good_ok {S : Nat → Bool} {L : List Ln} (h : GoodL S L) (hs : Sorted L) : ∀ k, k < L.length → lOk S L k := by
  intro k hk
  have hm : lx L k ∈ L := by rw [lx_get hk]; exact List.getElem_mem hk
  obtain ⟨a1, a2, a3, a4⟩ := h.ends _ hm
  obtain ⟨b1, b2⟩ := h.open_ _ hm
  refine ⟨decide_eq_true ⟨mem_P16.1 a1, mem_P16.1 a2, a3, a4⟩, b1, b2, h.owed _ hm, ?_⟩
  by_cases e : k = 0
  · exact .inl e
  · right
    rw [lx_get hk, lx_get (by omega)]
    exact (List.pairwise_iff_getElem.1 hs) (k - 1) k (by omega) hk (by omega)
theorem told_ok {S : Nat → Bool} {L : List Ln} (h : GoodL S L) (hs : Sorted L) : ofE (ptsOf S 17) L = 0 := by
  unfold ofE
  rw [if_pos (pts_ok h.pts), if_neg (by have := h.few; omega), if_pos (by rw [pts_set h.pts]; exact good_ok h hs)]
theorem told_bad {S : Nat → Bool} {ls : List Ln} (h : ∀ p, S p = true → p ∈ P16) {k : Nat} (hk : k < ls.length) (hn : ¬ lOk S ls k) : ofE (ptsOf S 17) ls = if 64 < ls.length then 9 else 1 := by
  unfold ofE
  rw [if_pos (pts_ok h)]
  by_cases e : 64 < ls.length
  · rw [if_pos e, if_pos e]
  · rw [if_neg e, if_neg e, if_neg (fun h' => hn (by have := h' k hk; rwa [pts_set h] at this))]
/-- One line twice. -/
def twiceL (L : List Ln) (i : Nat) : List Ln := L.take (i + 1) ++ L.drop i
theorem twice_len {L : List Ln} {i : Nat} (hi : i < L.length) : (twiceL L i).length = L.length + 1 := by
  unfold twiceL
  rw [List.length_append, List.length_take, List.length_drop]
  omega
theorem twice_bad {S : Nat → Bool} {L : List Ln} (h : ∀ p, S p = true → p ∈ P16) {i : Nat} (hi : i < L.length) : ofE (ptsOf S 17) (twiceL L i) = if 64 < L.length + 1 then 9 else 1 := by
  have hlen := twice_len hi
  rw [told_bad h (ls := twiceL L i) (k := i + 1) (by omega), hlen]
  rintro ⟨_, _, _, _, h5⟩
  have e1 : lx (twiceL L i) (i + 1) = L[i] := by
    rw [lx_get (by omega)]
    unfold twiceL
    rw [List.getElem_append_right (by rw [List.length_take]; omega), List.getElem_drop]
    congr 1
    rw [List.length_take]; omega
  have e2 : lx (twiceL L i) i = L[i] := by
    rw [lx_get (by omega)]
    unfold twiceL
    rw [List.getElem_append_left (by rw [List.length_take]; omega), List.getElem_take]
  rw [Nat.add_sub_cancel, e1, e2] at h5
  omega
theorem set_bad {S : Nat → Bool} {L : List Ln} (h : ∀ p, S p = true → p ∈ P16) (h64 : L.length ≤ 64) {i : Nat} (hi : i < L.length) {x : Ln} (hx : endsOk x.cr x.db x.cu = true → ¬ (1 ≤ x.lim ∧ x.lim ≤ 1099511627776 ∧ 0 ≤ x.deb ∧ x.deb ≤ x.lim)) : ofE (ptsOf S 17) (L.set i x) = 1 := by
  rw [told_bad h (ls := L.set i x) (k := i) (by simpa using hi), if_neg (by simp; omega)]
  rintro ⟨h1, _, _, h4, _⟩
  have e : lx (L.set i x) i = x := by rw [lx_get (by simpa using hi)]; simp
  rw [e] at h1 h4
  exact hx h1 h4

/-- Cells of a list of lines, one of them set. -/
theorem flat_set {α : Type} {enc : α → List Value} {k : Nat} (hk : ∀ x, (enc x).length = k) : ∀ (l : List α) (i : Nat) (hi : i < l.length) (j : Nat) (_ : j < k) (x : α) (u : Value), enc x = (enc l[i]).set j u → (l.flatMap enc).set (i * k + j) u = (l.set i x).flatMap enc
  | [], i, hi, _, _, _, _, _ => by simp at hi
  | y :: l, 0, _, j, hj, x, u, h => by
    have h : enc x = (enc y).set j u := h
    rw [List.flatMap_cons, Nat.zero_mul, Nat.zero_add, List.set_append_left _ _ (by rw [hk]; exact hj), List.set_cons_zero, List.flatMap_cons, h]
  | y :: l, i + 1, hi, j, hj, x, u, h => by
    rw [List.flatMap_cons, List.set_append_right _ _ (by rw [hk, Nat.add_mul]; omega), hk, show (i + 1) * k + j - k = i * k + j from by rw [Nat.add_mul]; omega, List.set_cons_succ, List.flatMap_cons]
    rw [flat_set hk l i (by simpa using hi) j hj x u (by simpa using h)]
theorem flat_take {α : Type} {enc : α → List Value} {k : Nat} (hk : ∀ x, (enc x).length = k) : ∀ (l : List α) (n : Nat), n ≤ l.length → (l.flatMap enc).take (n * k) = (l.take n).flatMap enc
  | l, 0, _ => by simp
  | [], n + 1, h => by simp at h
  | y :: l, n + 1, h => by
    rw [List.flatMap_cons, List.take_succ_cons, List.flatMap_cons, List.take_append, hk, List.take_of_length_le (by rw [hk, Nat.add_mul]; omega), show (n + 1) * k - k = n * k from by rw [Nat.add_mul]; omega, flat_take hk l n (by simpa using h)]
theorem flat_drop {α : Type} {enc : α → List Value} {k : Nat} (hk : ∀ x, (enc x).length = k) : ∀ (l : List α) (n : Nat), n ≤ l.length → (l.flatMap enc).drop (n * k) = (l.drop n).flatMap enc
  | l, 0, _ => by simp
  | [], n + 1, h => by simp at h
  | y :: l, n + 1, h => by
    rw [List.flatMap_cons, List.drop_succ_cons, List.drop_append, hk, List.drop_eq_nil_of_le (by rw [hk, Nat.add_mul]; omega), show (n + 1) * k - k = n * k from by rw [Nat.add_mul]; omega, flat_drop hk l n (by simpa using h), List.nil_append]

theorem ptCell_len (p : Nat) : (ptCell p).length = 1 := rfl
theorem ptCells_flat (l : List Nat) : ptCells l = l.flatMap ptCell := by
  induction l with
  | nil => rfl
  | cons p l ih => simp [ptCells, ptCell] at ih ⊢; exact ih
theorem rdPt_own {w : World} {base : Nat} {t : TypeId} {v : Value} {l : List Nat} (h : OwnSl w base t 1 v l.length (ptCells l)) : RdPt w v l := by
  obtain ⟨hl, ⟨rfl, h0⟩ | ⟨g, cs, rfl, hb, hk, hs, ht⟩⟩ := h
  · have : l = [] := List.eq_nil_of_length_eq_zero h0
    subst this
    exact .inl ⟨rfl, none, 0, rfl, fun _ => rfl⟩
  · refine .inr ⟨g, 0, l.length, rfl, Nat.le_refl _, fun i hi j u hu => ?_⟩
    have hj : j < 1 := by
      have := (List.getElem?_eq_some_iff.1 hu).1
      exact this
    have e := flat_get ptCell_len l i hi j hj
    rw [hu, ← ptCells_flat, ← ht, List.getElem?_take_of_lt (by omega)] at e
    rw [Nat.zero_add, hk.cell]
    simpa using e
theorem lparties_rd {w : World} {lb mb : Nat} {S : Nat → Bool} {L : List Ln} (h : IsL w lb mb S L) :
    Calls Try.prog 56 #[.pointer (some ⟨lb, 0, none⟩)] w fun e w' => (∃ v, e = .returned v ∧ RdPt w' v (ptsOf S 17)) ∧ Chg [] w w' :=
  (lparties h).mono fun _ _ ⟨⟨v, he, ho⟩, hc⟩ => ⟨⟨v, he, rdPt_own ho⟩, hc⟩
end Go.Proofs.Ytofnaigkfhfhoaa
