/-
  A slice of flows that reads as a list.
-/
import Derived.Test.YtofnaigkfhfhoaaEdges
namespace Go.Proofs.Ytofnaigkfhfhoaa
open Go.RowKit Pl

/-- A value that is a slice of flows and reads as this list. -/
def RdFl (w : World) (v : Value) (l : List Fl) : Prop :=
  (l = [] ∧ ∃ ao cap, v = .slice ao 0 cap ∧ (ao = none → cap = 0)) ∨
  ∃ g off cap, v = .slice (some ⟨g, off, none⟩) l.length cap ∧ l.length ≤ cap ∧ ∀ k (h : k < l.length),
    w.cell? ⟨g, off + k * 3, none⟩ = some (.int .u8 l[k].f) ∧ w.cell? ⟨g, off + k * 3 + 1, none⟩ = some (.int .u8 l[k].t) ∧ w.cell? ⟨g, off + k * 3 + 2, none⟩ = some (.int .i64 l[k].n)

/-- May an edge be? -/
def edgeOk (x : Fl) : Prop := 1 ≤ x.f ∧ x.f ≤ 16 ∧ 1 ≤ x.t ∧ x.t ≤ 16 ∧ x.f ≠ x.t ∧ 0 ≤ x.n ∧ x.n ≤ 2199023255552
instance (x : Fl) : Decidable (edgeOk x) := by unfold edgeOk; exact inferInstance

/-- Edges, laid one by one. T: which ends were told. -/
def newFrom : List Fl → Caps → (Nat → Nat → Bool) → Option Caps
  | [], C, _ => some C
  | x :: l, C, T => if edgeOk x ∧ T x.f x.t = false then newFrom l (set2 C x.f x.t x.n) (fun a b => if a = x.f ∧ b = x.t then true else T a b) else none
/-- The graph of these edges; none: it may not be. -/
def newG (l : List Fl) : Option Caps := newFrom l (fun _ _ => 0) (fun _ _ => false)

/-- What holds while edges are laid. -/
structure Laid (C : Caps) (T : Nat → Nat → Bool) : Prop where
  nonneg : ∀ a b, 0 ≤ C a b
  le : ∀ a b, C a b ≤ 2199023255552
  off : ∀ a b, a ∉ P16 ∨ b ∉ P16 ∨ a = b → C a b = 0
theorem Laid.zero : Laid (fun _ _ => 0) (fun _ _ => false) := ⟨fun _ _ => Int.le_refl _, fun _ _ => by decide, fun _ _ _ => rfl⟩
theorem Laid.set {C : Caps} {T T' : Nat → Nat → Bool} (h : Laid C T) {x : Fl} (hx : edgeOk x) : Laid (set2 C x.f x.t x.n) T' := by
  obtain ⟨h1, h2, h3, h4, h5, h6, h7⟩ := hx
  refine ⟨fun a b => ?_, fun a b => ?_, fun a b hab => ?_⟩
  · unfold set2; split
    · exact h6
    · exact h.nonneg a b
  · unfold set2; split
    · exact h7
    · exact h.le a b
  · unfold set2
    rw [if_neg]
    · exact h.off a b hab
    · rintro ⟨rfl, rfl⟩
      rw [mem_P16, mem_P16] at hab
      omega
theorem Laid.good {C : Caps} {T : Nat → Nat → Bool} (h : Laid C T) : CapOk 4398046511104 C :=
  ⟨h.nonneg, fun a b => by have := h.le a b; have := h.le b a; omega, h.off⟩
theorem newFrom_good : ∀ (l : List Fl) {C : Caps} {T : Nat → Nat → Bool} {D : Caps}, Laid C T → newFrom l C T = some D → CapOk 4398046511104 D
  | [], C, T, D, h, e => by
    simp [newFrom] at e; subst e; exact h.good
  | x :: l, C, T, D, h, e => by
    unfold newFrom at e
    split at e
    · rename_i hx; exact newFrom_good l (h.set hx.1) e
    · cases e

/-- Which ends were told, as cells. -/
def toldA (T : Nat → Nat → Bool) : Array Value := ((List.range 289).map fun k => Value.bool (T (k / 17) (k % 17))).toArray
theorem toldA_size (T : Nat → Nat → Bool) : (toldA T).size = 289 := by simp [toldA]
theorem toldA_get (T : Nat → Nat → Bool) {i j : Nat} (hi : i < 17) (hj : j < 17) : (toldA T)[i * 17 + j]? = some (.bool (T i j)) := by
  have h : i * 17 + j < 289 := by omega
  have e1 : (i * 17 + j) / 17 = i := by omega
  have e2 : (i * 17 + j) % 17 = j := by omega
  simp [toldA, List.getElem?_map, List.getElem?_range h, e1, e2]
theorem toldA_set (T : Nat → Nat → Bool) {i j : Nat} (hi : i < 17) (hj : j < 17) : (toldA T).setIfInBounds (i * 17 + j) (.bool true) = toldA (fun a b => if a = i ∧ b = j then true else T a b) := by
  apply Array.ext_getElem?
  intro k
  rw [Array.getElem?_setIfInBounds]
  by_cases hk : k < 289
  · obtain ⟨a, c, ha, hc, rfl⟩ : ∃ a c, a < 17 ∧ c < 17 ∧ k = a * 17 + c := ⟨k / 17, k % 17, by omega, by omega, by omega⟩
    rw [toldA_get _ ha hc, toldA_get _ ha hc]
    by_cases e : i * 17 + j = a * 17 + c
    · obtain rfl : i = a := by omega
      obtain rfl : j = c := by omega
      rw [if_pos rfl, if_pos (by rw [toldA_size]; omega)]
      simp
    · rw [if_neg e]
      have : ¬ (a = i ∧ c = j) := by rintro ⟨rfl, rfl⟩; exact e rfl
      simp [this]
  · rw [if_neg (by omega), Array.getElem?_eq_none (by rw [toldA_size]; omega), Array.getElem?_eq_none (by rw [toldA_size]; omega)]
theorem build_graph : Try.zeroCells164.setIfInBounds 289 (.bool true) = gcells (fun _ _ => 0) true := by kernel_rfl

/-- What New answers. -/
def NewPost (w : World) (l : List Fl) (e : Ending) (w' : World) : Prop :=
  (match newG l with
    | some C => ∃ b, w.heap.size ≤ b ∧ e = .returned (.tuple #[.pointer (some ⟨b, 0, none⟩), .int .i64 0]) ∧ IsG w' b C
    | none => e = .returned (.tuple #[.pointer none, .int .i64 1])) ∧ Chg [] w w'
theorem NewPost.good {w w' : World} {l : List Fl} {C : Caps} (h : newG l = some C) (hg : IsG w' w.heap.size C) (hc : Chg [] w w') : NewPost w l (.returned (.tuple #[.pointer (some ⟨w.heap.size, 0, none⟩), .int .i64 0])) w' := by
  unfold NewPost; rw [h]; exact ⟨⟨_, Nat.le_refl _, rfl, hg⟩, hc⟩
theorem NewPost.bad {w w' : World} {l : List Fl} (h : newG l = none) (hc : Chg [] w w') : NewPost w l (.returned (.tuple #[.pointer none, .int .i64 1])) w' := by
  unfold NewPost; rw [h]; exact ⟨rfl, hc⟩
theorem NewPost.yes {w w' : World} {l : List Fl} {C : Caps} {e : Ending} (h : newG l = some C) (k : NewPost w l e w') : ∃ b, w.heap.size ≤ b ∧ e = .returned (.tuple #[.pointer (some ⟨b, 0, none⟩), .int .i64 0]) ∧ IsG w' b C ∧ Chg [] w w' := by
  unfold NewPost at k; rw [h] at k
  obtain ⟨⟨b, h1, h2, h3⟩, h4⟩ := k
  exact ⟨b, h1, h2, h3, h4⟩
theorem NewPost.no {w w' : World} {l : List Fl} {e : Ending} (h : newG l = none) (k : NewPost w l e w') : e = .returned (.tuple #[.pointer none, .int .i64 1]) ∧ Chg [] w w' := by
  unfold NewPost at k; rw [h] at k; exact k

section
variable {w w' : World} {v : Value} {l : List Fl}
theorem flsCells_get : ∀ (l : List Fl) (k : Nat) (h : k < l.length), (flsCells l)[k * 3]? = some (.int .u8 l[k].f) ∧ (flsCells l)[k * 3 + 1]? = some (.int .u8 l[k].t) ∧ (flsCells l)[k * 3 + 2]? = some (.int .i64 l[k].n)
  | [], k, h => by simp at h
  | x :: l, 0, h => by simp [flsCells, flCells]
  | x :: l, k + 1, h => by
    have ih := flsCells_get l k (by simpa using h)
    have e : flsCells (x :: l) = flCells x ++ flsCells l := by simp [flsCells]
    rw [e]
    have h3 : (flCells x).length = 3 := rfl
    refine ⟨?_, ?_, ?_⟩
    · rw [List.getElem?_append_right (by rw [h3]; omega), h3, show (k + 1) * 3 - 3 = k * 3 from by omega]; simpa using ih.1
    · rw [List.getElem?_append_right (by rw [h3]; omega), h3, show (k + 1) * 3 + 1 - 3 = k * 3 + 1 from by omega]; simpa using ih.2.1
    · rw [List.getElem?_append_right (by rw [h3]; omega), h3, show (k + 1) * 3 + 2 - 3 = k * 3 + 2 from by omega]; simpa using ih.2.2

theorem RdFl.of_blk {g off cap : Nat} {t : TypeId} {cs : Array Value} (hb : Blk w g t cs) (hn : l.length ≤ cap) (h : ∀ k, k < l.length * 3 → cs[off + k]? = (flsCells l)[k]?) : RdFl w (.slice (some ⟨g, off, none⟩) l.length cap) l := by
  refine .inr ⟨g, off, cap, rfl, hn, fun k hk => ?_⟩
  obtain ⟨h1, h2, h3⟩ := flsCells_get l k hk
  refine ⟨?_, ?_, ?_⟩
  · rw [hb.cell, h _ (by omega), h1]
  · rw [Nat.add_assoc, hb.cell, h _ (by omega), h2]
  · rw [Nat.add_assoc, hb.cell, h _ (by omega), h3]

theorem OwnSl.rd {base : Nat} {t : TypeId} (h : OwnSl w base t 3 v l.length (flsCells l)) : RdFl w v l := by
  obtain ⟨hl, ⟨rfl, h0⟩ | ⟨g, cs, rfl, hb, hk, hs, ht⟩⟩ := h
  · have : l = [] := List.eq_nil_of_length_eq_zero h0
    subst this
    exact .inl ⟨rfl, none, 0, rfl, fun _ => rfl⟩
  · refine RdFl.of_blk hk (Nat.le_refl _) fun k hkl => ?_
    rw [← ht, List.getElem?_take, if_pos (by omega), Nat.zero_add]
    simp

theorem RdFl.chg {s : List Nat} (h : RdFl w v l) (k : Chg s w w') (hs : ∀ a n c, v = .slice (some a) n c → a.block ∉ s) : RdFl w' v l := by
  rcases h with h | ⟨g, off, cap, rfl, hn, hc⟩
  · exact .inl h
  · refine .inr ⟨g, off, cap, rfl, hn, fun i hi => ?_⟩
    have hg := hs _ _ _ rfl
    obtain ⟨h1, h2, h3⟩ := hc i hi
    have hlt := block_lt_of_cell h1
    exact ⟨(k.cell (p := ⟨g, off + i * 3, none⟩) hlt hg).trans h1, (k.cell (p := ⟨g, off + i * 3 + 1, none⟩) hlt hg).trans h2, (k.cell (p := ⟨g, off + i * 3 + 2, none⟩) hlt hg).trans h3⟩
theorem RdFl.chg0 (h : RdFl w v l) (k : Chg [] w w') : RdFl w' v l := h.chg k (by simp)
end
end Go.Proofs.Ytofnaigkfhfhoaa
