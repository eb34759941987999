/-
  A slice whose elements have so many cells each reads as a list.
-/
import Derived.Test.YtofnaigkfhfhoaaSortK
import Derived.OwnWalk
namespace Go.Proofs.Ytofnaigkfhfhoaa
open Go.RowKit Go.Sort

/-- A value that is a slice, and reads as this list. -/
def RdK {α : Type} (enc : α → List Value) (k : Nat) (w : World) (v : Value) (l : List α) : Prop :=
  (l = [] ∧ ∃ ao cap, v = .slice ao 0 cap ∧ (ao = none → cap = 0)) ∨
  ∃ g off cap, v = .slice (some ⟨g, off, none⟩) l.length cap ∧ l.length ≤ cap ∧ ∀ i (h : i < l.length) j u, (enc l[i])[j]? = some u → w.cell? ⟨g, off + i * k + j, none⟩ = some u

section
variable {α : Type} {enc : α → List Value} {k : Nat} {w w' : World} {v : Value} {l : List α}
theorem RdK.chg {s : List Nat} (h : RdK enc k w v l) (c : Chg s w w') (hs : ∀ a n m, v = .slice (some a) n m → a.block ∉ s) : RdK enc k w' v l := by
  rcases h with h | ⟨g, off, cap, rfl, hn, hc⟩
  · exact .inl h
  · refine .inr ⟨g, off, cap, rfl, hn, fun i hi j u hu => ?_⟩
    have h1 := hc i hi j u hu
    exact (c.cell (p := ⟨g, off + i * k + j, none⟩) (block_lt_of_cell h1) (hs ⟨g, off, none⟩ _ _ rfl)).trans h1
theorem RdK.chg0 (h : RdK enc k w v l) (c : Chg [] w w') : RdK enc k w' v l := h.chg c (by simp)
theorem RdK.shape (h : RdK enc k w v l) : ∃ ao cap, v = .slice ao l.length cap := by
  rcases h with ⟨rfl, ao, cap, rfl, _⟩ | ⟨g, off, cap, rfl, _⟩
  · exact ⟨ao, cap, rfl⟩
  · exact ⟨_, _, rfl⟩

theorem flat_length (hk : ∀ x, (enc x).length = k) (l : List α) : (l.flatMap enc).length = l.length * k := by
  induction l with
  | nil => simp
  | cons x l ih => simp [hk, ih, Nat.add_mul]; omega
theorem flat_get (hk : ∀ x, (enc x).length = k) : ∀ (l : List α) (i : Nat) (h : i < l.length) (j : Nat), j < k → (l.flatMap enc)[i * k + j]? = (enc l[i])[j]?
  | [], i, h, _, _ => by simp at h
  | x :: l, 0, _, j, hj => by
    rw [List.flatMap_cons, Nat.zero_mul, Nat.zero_add, List.getElem?_append_left (by rw [hk]; exact hj)]
    rfl
  | x :: l, i + 1, h, j, hj => by
    rw [List.flatMap_cons, List.getElem?_append_right (by rw [hk, Nat.add_mul]; omega), hk, show (i + 1) * k + j - k = i * k + j from by rw [Nat.add_mul]; omega]
    exact flat_get hk l i (by simpa using h) j hj
theorem RdK.of_own {base : Nat} {t : TypeId} (hk : ∀ x, (enc x).length = k) (h : w.ownsRow base t k v l.length (l.flatMap enc)) : RdK enc k w v l := by
  obtain ⟨hl, ⟨rfl, h0⟩ | ⟨g, cap, cs, rfl, hb, hg, hn, hm, hs, ht⟩⟩ := h
  · exact .inl ⟨List.eq_nil_of_length_eq_zero h0, none, 0, rfl, fun _ => rfl⟩
  · have hB : Blk w g t cs := hg
    refine .inr ⟨g, 0, cap, rfl, hn, fun i hi j u hu => ?_⟩
    have hj : j < k := by
      have := (List.getElem?_eq_some_iff.1 hu).1
      rwa [hk] at this
    have hlt : i * k + j < l.length * k := by
      have : (i + 1) * k ≤ l.length * k := Nat.mul_le_mul_right k hi
      rw [Nat.add_mul] at this
      omega
    rw [Nat.zero_add, hB.cell]
    have e := flat_get hk l i hi j hj
    rw [hu, ← ht, List.getElem?_take_of_lt hlt] at e
    simpa using e
end

section
variable {α : Type} [Inhabited α] {enc : α → List Value} {k : Nat}
/-- The row behind a sort. -/
theorem own_sorted {w : World} {base g cap : Nat} {t : TypeId} {xs : List Value} (hk : ∀ x, (enc x).length = k) {n : Nat} (h : w.ownsRow base t k (.slice (some ⟨g, 0, none⟩) n cap) n xs) {l : List α} (hl : l.length = n) (m : Nat) (os : Array Obj) :
    (sortWorldK enc k w g 0 m l.toArray os).ownsRow base t k (.slice (some ⟨g, 0, none⟩) n cap) n (l.flatMap enc) ∧ base ≤ g := by
  obtain ⟨hx, ⟨hv, _⟩ | ⟨g', cap', cs, hv, hb, hg, hn, hm, hs, ht⟩⟩ := h
  · cases hv
  · cases hv
    have hB := blk_sorted (enc := enc) (k := k) (show Blk w g t cs from hg) l.toArray m os
    have hsz : (flatK enc k l.toArray).size = n * k := by simp [hl]
    refine ⟨⟨by rw [flat_length hk, hl], .inr ⟨g, cap, _, rfl, hb, hB, hn, hm, by rw [putCells_size]; exact hs, ?_⟩⟩, hb⟩
    have := putCells_take (F := flatK enc k l.toArray) (cs := cs) (by rw [hsz, hs]; exact Nat.mul_le_mul_right k hn)
    rw [hsz, flatK_list hk] at this
    exact this
end
end Go.Proofs.Ytofnaigkfhfhoaa
