/-
  A graph's list of edges: what is in it, how it is built by parties 1 to 16, when two are the same.
-/
import Derived.Test.YtfpdkeokdojejaaNew
namespace Go.Proofs.Ytfpdkeokdojejaa
open Go.RowKit Pl

theorem mem_edgesOf {C : Caps} {x : Fl} : x ∈ edgesOf C ↔ x.f < 17 ∧ x.t < 17 ∧ 0 < C x.f x.t ∧ x.n = C x.f x.t := by
  simp only [edgesOf, tabE, rowE, List.mem_flatMap, List.mem_range]
  constructor
  · rintro ⟨a, ha, b, hb, h⟩
    unfold cellE at h
    split at h
    · rename_i hp
      simp at h
      subst h
      exact ⟨ha, hb, hp, rfl⟩
    · simp at h
  · rintro ⟨h1, h2, h3, h4⟩
    refine ⟨x.f, h1, x.t, h2, ?_⟩
    unfold cellE
    rw [if_pos h3, ← h4]
    simp

theorem flatMap_same {α β : Type} {f g : α → List β} : ∀ {l : List α}, (∀ a ∈ l, f a = g a) → l.flatMap f = l.flatMap g
  | [], _ => rfl
  | a :: l, h => by rw [List.flatMap_cons, List.flatMap_cons, h a (by simp), flatMap_same fun b hb => h b (by simp [hb])]
theorem edgesOf_congr {C D : Caps} (h : ∀ a b, a < 17 → b < 17 → C a b = D a b) : edgesOf C = edgesOf D := by
  unfold edgesOf tabE rowE
  refine flatMap_same fun a ha => flatMap_same fun b hb => ?_
  rw [List.mem_range] at ha hb
  unfold cellE
  rw [h a b ha hb]

theorem edgesOf_inj {C D : Caps} (hC : ∀ a b, 0 ≤ C a b) (hD : ∀ a b, 0 ≤ D a b) (h : edgesOf C = edgesOf D) {a b : Nat} (ha : a < 17) (hb : b < 17) : C a b = D a b := by
  by_cases h1 : 0 < C a b
  · have : (⟨a, b, C a b⟩ : Fl) ∈ edgesOf C := mem_edgesOf.2 ⟨ha, hb, h1, rfl⟩
    rw [h, mem_edgesOf] at this
    exact this.2.2.2
  · by_cases h2 : 0 < D a b
    · have : (⟨a, b, D a b⟩ : Fl) ∈ edgesOf D := mem_edgesOf.2 ⟨ha, hb, h2, rfl⟩
      rw [← h, mem_edgesOf] at this
      exact this.2.2.2.symm
    · have := hC a b
      have := hD a b
      omega

theorem capsEq_edges {C D : Caps} (hC : ∀ a b, 0 ≤ C a b) (hD : ∀ a b, 0 ≤ D a b) : capsEq C D = decide (edgesOf C = edgesOf D) := by
  rw [Bool.eq_iff_iff, capsEq_iff, decide_eq_true_eq]
  exact ⟨edgesOf_congr, fun h i j hi hj => edgesOf_inj hC hD h hi hj⟩

/-- The first j cells of a party's row, from party 1 on. -/
def row1 (D : Caps) (a j : Nat) : List Fl := (List.range' 1 j).flatMap (cellE D a)
/-- The rows of the first k parties. -/
def tab1 (D : Caps) (k : Nat) : List Fl := (List.range' 1 k).flatMap fun a => row1 D a 16
theorem row1_succ (D : Caps) (a j : Nat) : row1 D a (j + 1) = row1 D a j ++ cellE D a (j + 1) := by
  simp [row1, List.range'_concat, Nat.add_comm]
theorem tab1_succ (D : Caps) (k : Nat) : tab1 D (k + 1) = tab1 D k ++ row1 D (k + 1) 16 := by
  simp [tab1, List.range'_concat, Nat.add_comm]
theorem cellE_len (C : Caps) (a b : Nat) : (cellE C a b).length ≤ 1 := by unfold cellE; split <;> simp
theorem row1_len (D : Caps) (a j : Nat) : (row1 D a j).length ≤ j := by
  induction j with
  | zero => simp [row1]
  | succ j ih => rw [row1_succ, List.length_append]; have := cellE_len D a (j + 1); omega
theorem tab1_len (D : Caps) (k : Nat) : (tab1 D k).length ≤ k * 16 := by
  induction k with
  | zero => simp [tab1]
  | succ k ih => rw [tab1_succ, List.length_append]; have := row1_len D (k + 1) 16; omega
theorem edgesOf_tab1 {D : Caps} (h : ∀ a b, a ∉ P16 ∨ b ∉ P16 ∨ a = b → D a b = 0) : edgesOf D = tab1 D 16 := by
  have hr : List.range 17 = 0 :: List.range' 1 16 := by decide
  have h0 : ∀ a, cellE D a 0 = [] := fun a => by
    unfold cellE; rw [h a 0 (.inr (.inl (by rw [mem_P16]; omega)))]; rfl
  have h1 : ∀ b, cellE D 0 b = [] := fun b => by
    unfold cellE; rw [h 0 b (.inl (by rw [mem_P16]; omega))]; rfl
  have hrow : ∀ a, rowE D a 17 = row1 D a 16 := fun a => by
    unfold rowE row1
    rw [hr, List.flatMap_cons, h0]; rfl
  have hz : row1 D 0 16 = [] := by
    unfold row1
    rw [List.flatMap_eq_nil_iff]
    exact fun b _ => h1 b
  unfold edgesOf tabE tab1
  rw [hr, List.flatMap_cons, hrow, hz, List.nil_append]
  exact flatMap_same fun a _ => hrow a
theorem edgesOf_len (C : Caps) : (edgesOf C).length ≤ 289 := tabE_len C 17

/-- Where a pair stands in the list, or that it has nothing. -/
theorem edges_at {C : Caps} {k f t : Nat} (h : k < (edgesOf C).length) (hf : (edgesOf C)[k].f = f) (ht : (edgesOf C)[k].t = t) : (edgesOf C)[k].n = C f t := by
  have := (mem_edgesOf.1 (List.getElem_mem h)).2.2.2
  rw [this, hf, ht]
theorem edges_none {B : Int} {C : Caps} (hC : CapOk B C) {f t : Nat} (h : ∀ k (hk : k < (edgesOf C).length), ¬((edgesOf C)[k].f = f ∧ (edgesOf C)[k].t = t)) : C f t = 0 := by
  refine Classical.byContradiction fun hne => ?_
  have hp : 0 < C f t := by have := hC.nonneg f t; omega
  have hf : f ∈ P16 := Classical.byContradiction fun e => hne (hC.off f t (.inl e))
  have ht : t ∈ P16 := Classical.byContradiction fun e => hne (hC.off f t (.inr (.inl e)))
  rw [mem_P16] at hf ht
  have hm : (⟨f, t, C f t⟩ : Fl) ∈ edgesOf C := mem_edgesOf.2 ⟨(by dsimp only; omega), (by dsimp only; omega), hp, rfl⟩
  obtain ⟨k, hk, e⟩ := List.mem_iff_getElem.1 hm
  exact h k hk ⟨by rw [e], by rw [e]⟩
end Go.Proofs.Ytfpdkeokdojejaa
