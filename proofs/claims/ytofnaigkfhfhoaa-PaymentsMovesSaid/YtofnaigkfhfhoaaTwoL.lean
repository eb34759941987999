/-
  Two ledgers of the call's own, apart: the one that is written, and its copy.
-/
import Derived.Test.YtofnaigkfhfhoaaLives3
import Derived.Test.YtofnaigkfhfhoaaSameL
import Derived.Test.YtofnaigkfhfhoaaPlRoom
namespace Go.Proofs.Ytofnaigkfhfhoaa
open Go.RowKit Go.Maps Pl

theorem rdact_shape {w : World} {v : Value} {l : List Deed} (h : RdAct w v l) : ∃ ao cap, v = .slice ao l.length cap := by
  rcases h with ⟨rfl, ao, cap, rfl, _⟩ | ⟨g, off, cap, rfl, _⟩
  · exact ⟨ao, cap, rfl⟩
  · exact ⟨_, _, rfl⟩
theorem rdact_chg0 {w w' : World} {v : Value} {l : List Deed} (h : RdAct w v l) (k : Chg [] w w') : RdAct w' v l := by
  rcases h with h | ⟨g, off, cap, rfl, hn, hc⟩
  · exact .inl h
  · exact .inr ⟨g, off, cap, rfl, hn, fun i hi => ⟨(hc i hi).1, (hc i hi).2.chg k⟩⟩

/-- The ledger, and its copy. -/
structure TL (a w : World) (lb mb cb nb : Nat) (S : Nat → Bool) (L : List Ln) (S' : Nat → Bool) (L' : List Ln) : Prop where
  l : IsL w lb mb S L
  c : IsL w cb nb S' L'
  ch : Chg [] a w
  lb0 : a.heap.size ≤ lb
  mb0 : a.heap.size ≤ mb
  ap : lb ≠ cb ∧ lb ≠ nb ∧ mb ≠ cb ∧ mb ≠ nb
section
variable {a w w' : World} {lb mb cb nb : Nat} {S S' S2 : Nat → Bool} {L L' L2 : List Ln}
theorem TL.chg0 (h : TL a w lb mb cb nb S L S' L') (k : Chg [] w w') : TL a w' lb mb cb nb S L S' L' := ⟨h.l.chg0 k, h.c.chg0 k, h.ch.trans k, h.lb0, h.mb0, h.ap⟩
theorem TL.step {s : List Nat} (h : TL a w lb mb cb nb S L S' L') (hI : IsL w' lb mb S2 L2) (k : Chg s w w') (hs : ∀ b ∈ s, b = lb ∨ b = mb) : TL a w' lb mb cb nb S2 L2 S' L' :=
  ⟨hI, h.c.chg k (fun hm => by rcases hs _ hm with e | e <;> have := h.ap <;> omega) (fun hm => by rcases hs _ hm with e | e <;> have := h.ap <;> omega), h.ch.fresh k (fun b hb => .inr (by rcases hs b hb with rfl | rfl; exact h.lb0; exact h.mb0)), h.lb0, h.mb0, h.ap⟩
theorem TL.blk (h : TL a w lb mb cb nb S L S' L') {b : Nat} {t : TypeId} {cs : Array Value} (hb : Blk a b t cs) : Blk w b t cs := hb.chg h.ch (by simp)
/-- The copy, made. -/
theorem tl_copy (hd : Led a w lb mb) : ∃ S L, IsL w lb mb S L ∧ Calls Try.prog 21 #[.pointer (some ⟨lb, 0, none⟩)] w fun e w' => ∃ cb nb, e = .returned (.pointer (some ⟨cb, 0, none⟩)) ∧ TL a w' lb mb cb nb S L S L := by
  obtain ⟨h1, h2, ⟨S, L, hI⟩, hc⟩ := hd
  refine ⟨S, L, hI, (lcopy hI).mono ?_⟩
  rintro e w' ⟨cb, nb, he, g1, g2, hI', k⟩
  have l1 := hI.blk.lt
  have l2 := hI.map.lt
  exact ⟨cb, nb, he, hI.chg0 k, hI', hc.trans k, h1, h2, by omega⟩
/-- Are both told alike? -/
theorem tl_same {u v : Value} (h : RdLn w u L) (h' : RdLn w v L') (hm : L.length ≤ 2000000) : Calls Try.prog 26 #[u, v] w fun e w' => e = .returned (.bool (decide (L = L'))) ∧ Chg [] w w' := sameLines_c h h' hm
end
/-- Lines that were told, read. -/
theorem llines_rd {w : World} {lb mb : Nat} {S : Nat → Bool} {L : List Ln} (h : IsL w lb mb S L) :
    Calls Try.prog 27 #[.pointer (some ⟨lb, 0, none⟩)] w fun e w' => (∃ v, e = .returned v ∧ RdLn w' v L) ∧ Chg [] w w' :=
  (llines h).mono fun _ _ ⟨⟨v, he, ho⟩, hc⟩ => ⟨⟨v, he, RdK.of_own lnCells_len ho⟩, hc⟩
end Go.Proofs.Ytofnaigkfhfhoaa
