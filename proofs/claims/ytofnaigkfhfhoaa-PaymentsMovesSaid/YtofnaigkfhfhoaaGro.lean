/-
  What a comparison leaves of a world: draws, and new blocks behind.
-/
import Derived.Test.YtofnaigkfhfhoaaBase
import Derived.Sort.Grow
namespace Go.Proofs.Ytofnaigkfhfhoaa
open Go.RowKit Go.Sort

/-- w' is w with new blocks behind, and draws. -/
structure Gro (w w' : World) : Prop where
  chg : Chg [] w w'
  drawn : w.drawn ≤ w'.drawn
theorem Gro.refl (w : World) : Gro w w := ⟨Chg.refl _ _, Nat.le_refl _⟩
theorem Gro.trans {a b c : World} (h : Gro a b) (k : Gro b c) : Gro a c := ⟨h.chg.trans k.chg, Nat.le_trans h.drawn k.drawn⟩
theorem Gro.alloc {a w : World} (h : Gro a w) (o : Obj) : Gro a (w.alloc o) := ⟨h.chg.alloc o, h.drawn⟩
theorem Gro.drew {a w : World} (h : Gro a w) : Gro a w.drew := ⟨h.chg.drew, Nat.le_succ_of_le h.drawn⟩
theorem Gro.drewN {a w : World} (h : Gro a w) (n : Nat) : Gro a (w.drewN n) := ⟨h.chg.drewN n, Nat.le_trans h.drawn (Nat.le_add_right _ _)⟩
theorem Gro.setCell {a w : World} (h : Gro a w) {p : Addr} (hp : a.heap.size ≤ p.block) (v : Value) : Gro a (w.setCell p v) := ⟨h.chg.setCell (.inr hp) v, h.drawn⟩
theorem Gro.grow {w w' : World} (h : Gro w w') : ∃ q os', w' = Go.Sort.grow (w.drewN q) os' := by
  refine ⟨w'.drawn - w.drawn, w'.heap.extract w.heap.size w'.heap.size, ?_⟩
  have e1 : w'.heap = w.heap ++ w'.heap.extract w.heap.size w'.heap.size := by
    apply Array.ext_getElem?
    intro i
    by_cases hi : i < w.heap.size
    · rw [Array.getElem?_append_left hi]
      exact h.chg.block i hi (by simp)
    · rw [Array.getElem?_append_right (by omega), Array.getElem?_extract]
      by_cases hi2 : i < w'.heap.size
      · rw [if_pos (by omega)]
        congr 1; omega
      · rw [if_neg (by omega), Array.getElem?_eq_none (by omega)]
  have e2 : w.drawn + (w'.drawn - w.drawn) = w'.drawn := by have := h.drawn; omega
  have h1 := h.chg.os
  have h2 := h.chg.tape
  have h3 := h.chg.output
  unfold Go.Sort.grow World.drewN
  obtain ⟨hp, tp, dn, os, op⟩ := w'
  dsimp only at *
  rw [← e1, e2, h1, h2, h3]
end Go.Proofs.Ytofnaigkfhfhoaa
