/-
  The package graphs: Edges (and slices.Clip on flows).
-/
import Derived.Test.YtofnaigkfhfhoaaGraph2
import Derived.OwnWalk
import Derived.LoopTactic
namespace Go.Proofs.Ytofnaigkfhfhoaa
open Go.RowKit Pl

/-- A flow's cells. -/
def flCells (x : Fl) : List Value := [.int .u8 x.f, .int .u8 x.t, .int .i64 x.n]
def flsCells (l : List Fl) : List Value := l.flatMap flCells
theorem flsCells_length (l : List Fl) : (flsCells l).length = l.length * 3 := by
  induction l with
  | nil => rfl
  | cons x l ih => simp [flsCells, flCells] at ih ⊢; omega
theorem flsCells_append (l m : List Fl) : flsCells (l ++ m) = flsCells l ++ flsCells m := by simp [flsCells]

/-- One cell of the table, as an edge. -/
def cellE (C : Caps) (a b : Nat) : List Fl := if 0 < C a b then [⟨a, b, C a b⟩] else []
def rowE (C : Caps) (a n : Nat) : List Fl := (List.range n).flatMap (cellE C a)
def tabE (C : Caps) (n : Nat) : List Fl := (List.range n).flatMap fun a => rowE C a 17
/-- A graph's edges, in order. -/
def edgesOf (C : Caps) : List Fl := tabE C 17
theorem rowE_succ (C : Caps) (a n : Nat) : rowE C a (n + 1) = rowE C a n ++ cellE C a n := by simp [rowE, List.range_succ]
theorem tabE_succ (C : Caps) (n : Nat) : tabE C (n + 1) = tabE C n ++ rowE C n 17 := by simp [tabE, List.range_succ]
theorem rowE_len (C : Caps) (a n : Nat) : (rowE C a n).length ≤ n := by
  induction n with
  | zero => simp [rowE]
  | succ n ih => rw [rowE_succ, List.length_append]; have : (cellE C a n).length ≤ 1 := by unfold cellE; split <;> simp
                 omega
theorem tabE_len (C : Caps) (n : Nat) : (tabE C n).length ≤ n * 17 := by
  induction n with
  | zero => simp [tabE]
  | succ n ih => rw [tabE_succ, List.length_append]; have := rowE_len C n 17; omega

/-- A row of the table, as a value. -/
def rowA (C : Caps) (i : Nat) : List Value := (List.range 17).map fun j => .int .i64 (C i j)
theorem rowA_size (C : Caps) (i : Nat) : (rowA C i).toArray.size = 17 := by simp [rowA]
theorem rowA_one (C : Caps) (i : Nat) : ∀ u ∈ (rowA C i).toArray.toList, u.oneCell' = true := by
  refine int_oneCell _ fun v hv => ?_
  simp [rowA] at hv
  obtain ⟨k, _, rfl⟩ := hv
  exact ⟨_, _, .inl rfl⟩
theorem rowA_get (C : Caps) (i : Nat) {j : Nat} (h : j < 17) : (rowA C i).toArray[j]? = some (.int .i64 (C i j)) := by
  simp [rowA, List.getElem?_map, List.getElem?_range h]
theorem caps_row (C : Caps) {i : Nat} (h : i < 17) : (capsA C).toArray.extract (i * 17) (i * 17 + 17) = (rowA C i).toArray := by
  apply Array.ext_getElem?
  intro j
  by_cases hj : j < 17
  · rw [rowA_get C i hj, Array.getElem?_extract, if_pos (by rw [capsA_size]; omega), capsA_get C (by omega)]
    have e1 : (i * 17 + j) / 17 = i := by omega
    have e2 : (i * 17 + j) % 17 = j := by omega
    rw [e1, e2]
  · rw [Array.getElem?_eq_none (by simp; omega), Array.getElem?_eq_none (by rw [rowA_size]; omega)]
theorem zero_row : (Try.prog.info? 133).bind (fun i => i.zero.map Value.cells) = some (rowA (fun _ _ => 0) 0).toArray := by kernel_rfl
theorem info_Flow : (Try.prog.info? 114).map (fun i => (i.zero, i.size, i.bytes)) = some (some (.agg #[.int .u8 0, .int .u8 0, .int .i64 0]), 3, 16) := by kernel_rfl

/-- A slice of the call's own that has no room: nil, or a row from block 'base' on. -/
def OwnSl (w : World) (base : Nat) (e : TypeId) (size : Nat) (v : Value) (n : Nat) (xs : List Value) : Prop :=
  xs.length = n * size ∧ ((v = .slice none 0 0 ∧ n = 0) ∨ ∃ g cs, v = .slice (some ⟨g, 0, none⟩) n n ∧ base ≤ g ∧ Blk w g e cs ∧ n * size ≤ cs.size ∧ cs.toList.take (n * size) = xs)

theorem clip_flows (a : Option Addr) (n cap : Nat) (h : n ≤ cap) (w : World) :
    Calls Try.prog 115 #[.slice a n cap] w fun e w' => e = .returned (.slice a n n) ∧ w = w' := by
  go_enter Try.func115, Try.ntmps115
  go_wp2
  go_ret
  exact ⟨rfl, rfl⟩

theorem clip_own {w : World} {base n : Nat} {v : Value} {xs : List Value} (h : w.ownsRow base 114 3 v n xs) :
    Calls Try.prog 115 #[v] w fun e w' => (∃ u, e = .returned u ∧ OwnSl w base 114 3 u n xs) ∧ w = w' := by
  obtain ⟨hl, ⟨rfl, rfl⟩ | ⟨g, cap, cs, rfl, hb, hg, hn, hm, hs, ht⟩⟩ := h
  · exact (clip_flows none 0 0 (Nat.le_refl _) w).mono fun e w' ⟨he, hw⟩ => ⟨⟨_, he, hl, .inl ⟨rfl, rfl⟩⟩, hw⟩
  · exact (clip_flows _ n cap hn w).mono fun e w' ⟨he, hw⟩ => ⟨⟨_, he, hl, .inr ⟨g, cs, rfl, hb, hg, by rw [hs]; exact Nat.mul_le_mul_right 3 hn, ht⟩⟩, hw⟩

/-- The cells of a new block, read from its head. -/
theorem cells_new (w : World) (l : List Value) (t : TypeId) : ∀ j u, l[j]? = some u → (w.alloc (.cells l.toArray t)).cell? ((⟨w.heap.size, 0, none⟩ : Addr).add j) = some u := by
  intro j u h
  rw [add_at, Nat.zero_add, (Blk.new w t l.toArray).cell]
  simpa using h
theorem le_maxLen {n : Nat} (h : n ≤ 1000000000000) : n ≤ maxLen := by unfold maxLen; omega

theorem flCells_one (x : Fl) : ∀ u ∈ flCells x, u.oneCell' = true := by
  intro u hu
  simp [flCells] at hu
  rcases hu with rfl | rfl | rfl <;> rfl

end Go.Proofs.Ytofnaigkfhfhoaa
