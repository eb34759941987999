/-
  A row that was sorted (slices.SortFunc at a struct): what its block holds behind.
-/
import Derived.Test.YtofnaigkfhfhoaaGro
import Derived.Shelf.GgSortFunc.InsertionK
namespace Go.Proofs.Ytofnaigkfhfhoaa
open Go.RowKit Go.Sort Go

section
variable {α : Type} [Inhabited α] {enc : α → List Value} {k : Nat}

theorem flatK_list (hk : ∀ x, (enc x).length = k) (l : List α) : (flatK enc k l.toArray).toList = l.flatMap enc := by
  apply List.ext_getElem?
  intro t
  have hlen : ∀ l : List α, (l.flatMap enc).length = l.length * k := by
    intro l
    induction l with
    | nil => simp
    | cons x l ih => simp [hk, ih, Nat.add_mul]; omega
  by_cases ht : t < l.length * k
  · have h1 : (flatK enc k l.toArray).toList[t]? = some ((enc l.toArray[t / k]!)[t % k]!) := by
      have hs : t < (flatK enc k l.toArray).size := by simpa using ht
      have := get_flatK enc k l.toArray t (by simpa using ht)
      rw [getElem!_pos _ t hs] at this
      rw [Array.getElem?_toList, Array.getElem?_eq_getElem hs, this]
    rw [h1]
    have k0 : 0 < k := by
      rcases Nat.eq_zero_or_pos k with h | h
      · subst h; simp at ht
      · exact h
    clear h1
    induction l generalizing t with
    | nil => simp at ht
    | cons x l ih =>
      rw [List.flatMap_cons]
      by_cases hx : t < k
      · rw [List.getElem?_append_left (by rw [hk]; exact hx), Nat.div_eq_of_lt hx, Nat.mod_eq_of_lt hx]
        simp [hk, hx]
      · obtain ⟨u, rfl⟩ : ∃ u, t = u + k := ⟨t - k, by omega⟩
        rw [List.getElem?_append_right (by rw [hk]; omega), hk, Nat.add_sub_cancel, ← ih u (by simp [Nat.add_mul] at ht; omega), Nat.add_div_right u k0, Nat.add_mod_right]
        simp
  · rw [List.getElem?_eq_none (by simp; omega), List.getElem?_eq_none (by rw [hlen]; omega)]

theorem putCells_take {F cs : Array Value} (h : F.size ≤ cs.size) : (putCells id 0 F cs).toList.take F.size = F.toList := by
  apply List.ext_getElem?
  intro t
  by_cases ht : t < F.size
  · rw [List.getElem?_take_of_lt ht]
    have hc : t < cs.size := by omega
    simp [putCells, hc, ht]
  · rw [List.getElem?_eq_none (by simp; omega), List.getElem?_eq_none (by simp; omega)]
theorem putCells_size (F cs : Array Value) : (putCells id 0 F cs).size = cs.size := by simp [putCells]

theorem holdsK_of_blk {w : World} {g : Nat} {t : TypeId} {cs : Array Value} (hk : ∀ x, (enc x).length = k) (h : Blk w g t cs) {l : List α} (ht : cs.toList.take (l.length * k) = l.flatMap enc) :
    HoldsK enc k w g 0 l.toArray := by
  intro j hj
  have hj' : j < l.length * k := by simpa using hj
  rw [Nat.zero_add]
  refine ⟨?_, h.frozen j⟩
  rw [h.cell]
  have e := flatK_list hk l
  rw [← ht] at e
  have : (flatK enc k l.toArray)[j]? = cs[j]? := by
    rw [← Array.getElem?_toList, e, List.getElem?_take_of_lt hj', Array.getElem?_toList]
  rw [← this, Array.getElem?_eq_getElem hj, getElem!_pos _ j hj]
  rfl

theorem size_putK (w : World) (blk off : Nat) (d : Array α) : (putRowK enc k w blk off d).heap.size = w.heap.size := by simp [putRowK, putRow, mapBlock]
/-- The world behind a sort: its row's block. -/
theorem blk_sorted {w : World} {g : Nat} {t : TypeId} {cs : Array Value} (h : Blk w g t cs) (d : Array α) (n : Nat) (os : Array Obj) :
    Blk (sortWorldK enc k w g 0 n d os) g t (putCells id 0 (flatK enc k d) cs) := by
  have hg := h.lt
  have h1 : Blk (putRowK enc k (Sort.ahead w n) g 0 d) g t (putCells id 0 (flatK enc k d) cs) := by
    unfold Blk putRowK putRow mapBlock
    have h' : (Sort.ahead w n).heap[g]? = some (.cells cs t (0, 0)) := h
    simp only [Array.getElem?_modify, h']
    rfl
  unfold Blk sortWorldK grow at *
  rw [Array.getElem?_append_left (by rw [size_putK]; exact hg)]
  exact h1
/-- .. all else. -/
theorem chg_sorted (w : World) (g : Nat) (d : Array α) (n : Nat) (os : Array Obj) : Chg [g] w (sortWorldK enc k w g 0 n d os) := by
  have hs : (putRowK enc k (Sort.ahead w n) g 0 d).heap.size = w.heap.size := by rw [size_putK]; rfl
  refine ⟨rfl, rfl, rfl, ?_, fun i hi hn => ?_⟩
  · unfold sortWorldK grow
    simp only [Array.size_append, hs]; omega
  · unfold sortWorldK grow
    rw [Array.getElem?_append_left (by rw [hs]; exact hi)]
    unfold putRowK putRow mapBlock
    simp only [Array.getElem?_modify]
    rw [if_neg (by simpa using Ne.symm (by simpa using hn))]
    rfl
end
end Go.Proofs.Ytofnaigkfhfhoaa
