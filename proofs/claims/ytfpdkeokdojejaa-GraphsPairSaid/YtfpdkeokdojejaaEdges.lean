/-
  The package graphs: Edges (and slices.Clip on flows).
-/
import Derived.Test.YtfpdkeokdojejaaGraph2
import Derived.OwnWalk
import Derived.LoopTactic
namespace Go.Proofs.Ytfpdkeokdojejaa
open Go.RowKit Pl

/-- A flow's cells. -/
def flCells (x : Fl) : List Value := [.int .u8 x.f, .int .u8 x.t, .int .i64 x.n]
def flsCells (l : List Fl) : List Value := l.flatMap flCells
theorem flsCells_length (l : List Fl) : (flsCells l).length = l.length * 3 := by
  induction l with
  | nil => rfl
  | cons x l ih => simp [flsCells, flCells] at ih ⊢; omega
theorem flsCells_append (l m : List Fl) : flsCells (l ++ m) = flsCells l ++ flsCells m := by simp [flsCells]

/-- One cell of the table, as an edge. -/
def cellE (C : Caps) (a b : Nat) : List Fl := if 0 < C a b then [⟨a, b, C a b⟩] else []
def rowE (C : Caps) (a n : Nat) : List Fl := (List.range n).flatMap (cellE C a)
def tabE (C : Caps) (n : Nat) : List Fl := (List.range n).flatMap fun a => rowE C a 17
/-- A graph's edges, in order. -/
def edgesOf (C : Caps) : List Fl := tabE C 17
theorem rowE_succ (C : Caps) (a n : Nat) : rowE C a (n + 1) = rowE C a n ++ cellE C a n := by simp [rowE, List.range_succ]
theorem tabE_succ (C : Caps) (n : Nat) : tabE C (n + 1) = tabE C n ++ rowE C n 17 := by simp [tabE, List.range_succ]
theorem rowE_len (C : Caps) (a n : Nat) : (rowE C a n).length ≤ n := by
  induction n with
  | zero => simp [rowE]
  | succ n ih => rw [rowE_succ, List.length_append]; have : (cellE C a n).length ≤ 1 := by unfold cellE; split <;> simp
                 omega
theorem tabE_len (C : Caps) (n : Nat) : (tabE C n).length ≤ n * 17 := by
  induction n with
  | zero => simp [tabE]
  | succ n ih => rw [tabE_succ, List.length_append]; have := rowE_len C n 17; omega

/-- A row of the table, as a value. -/
def rowA (C : Caps) (i : Nat) : List Value := (List.range 17).map fun j => .int .i64 (C i j)
theorem rowA_size (C : Caps) (i : Nat) : (rowA C i).toArray.size = 17 := by simp [rowA]
theorem rowA_one (C : Caps) (i : Nat) : ∀ u ∈ (rowA C i).toArray.toList, u.oneCell' = true := by
  refine int_oneCell _ fun v hv => ?_
  simp [rowA] at hv
  obtain ⟨k, _, rfl⟩ := hv
  exact ⟨_, _, .inl rfl⟩
theorem rowA_get (C : Caps) (i : Nat) {j : Nat} (h : j < 17) : (rowA C i).toArray[j]? = some (.int .i64 (C i j)) := by
  simp [rowA, List.getElem?_map, List.getElem?_range h]
theorem caps_row (C : Caps) {i : Nat} (h : i < 17) : (capsA C).toArray.extract (i * 17) (i * 17 + 17) = (rowA C i).toArray := by
  apply Array.ext_getElem?
  intro j
  by_cases hj : j < 17
  · rw [rowA_get C i hj, Array.getElem?_extract, if_pos (by rw [capsA_size]; omega), capsA_get C (by omega)]
    have e1 : (i * 17 + j) / 17 = i := by omega
    have e2 : (i * 17 + j) % 17 = j := by omega
    rw [e1, e2]
  · rw [Array.getElem?_eq_none (by simp; omega), Array.getElem?_eq_none (by rw [rowA_size]; omega)]
theorem zero_row : (Try.prog.info? 48).bind (fun i => i.zero.map Value.cells) = some (rowA (fun _ _ => 0) 0).toArray := by kernel_rfl
theorem info_Flow : (Try.prog.info? 35).map (fun i => (i.zero, i.size, i.bytes)) = some (some (.agg #[.int .u8 0, .int .u8 0, .int .i64 0]), 3, 16) := by kernel_rfl

/-- A slice of the call's own that has no room: nil, or a row from block 'base' on. -/
def OwnSl (w : World) (base : Nat) (e : TypeId) (size : Nat) (v : Value) (n : Nat) (xs : List Value) : Prop :=
  xs.length = n * size ∧ ((v = .slice none 0 0 ∧ n = 0) ∨ ∃ g cs, v = .slice (some ⟨g, 0, none⟩) n n ∧ base ≤ g ∧ Blk w g e cs ∧ n * size ≤ cs.size ∧ cs.toList.take (n * size) = xs)

theorem clip_flows (a : Option Addr) (n cap : Nat) (h : n ≤ cap) (w : World) :
    Calls Try.prog 43 #[.slice a n cap] w fun e w' => e = .returned (.slice a n n) ∧ w = w' := by
  go_enter Try.func43, Try.ntmps43
  go_wp2
  go_ret
  exact ⟨rfl, rfl⟩

theorem clip_own {w : World} {base n : Nat} {v : Value} {xs : List Value} (h : w.ownsRow base 35 3 v n xs) :
    Calls Try.prog 43 #[v] w fun e w' => (∃ u, e = .returned u ∧ OwnSl w base 35 3 u n xs) ∧ w = w' := by
  obtain ⟨hl, ⟨rfl, rfl⟩ | ⟨g, cap, cs, rfl, hb, hg, hn, hm, hs, ht⟩⟩ := h
  · exact (clip_flows none 0 0 (Nat.le_refl _) w).mono fun e w' ⟨he, hw⟩ => ⟨⟨_, he, hl, .inl ⟨rfl, rfl⟩⟩, hw⟩
  · exact (clip_flows _ n cap hn w).mono fun e w' ⟨he, hw⟩ => ⟨⟨_, he, hl, .inr ⟨g, cs, rfl, hb, hg, by rw [hs]; exact Nat.mul_le_mul_right 3 hn, ht⟩⟩, hw⟩

/-- The cells of a new block, read from its head. -/
theorem cells_new (w : World) (l : List Value) (t : TypeId) : ∀ j u, l[j]? = some u → (w.alloc (.cells l.toArray t)).cell? ((⟨w.heap.size, 0, none⟩ : Addr).add j) = some u := by
  intro j u h
  rw [add_at, Nat.zero_add, (Blk.new w t l.toArray).cell]
  simpa using h
theorem le_maxLen {n : Nat} (h : n ≤ 1000000000000) : n ≤ maxLen := by unfold maxLen; omega

theorem flCells_one (x : Fl) : ∀ u ∈ flCells x, u.oneCell' = true := by
  intro u hu
  simp [flCells] at hu
  rcases hu with rfl | rfl | rfl <;> rfl

set_option maxRecDepth 100000 in
set_option maxHeartbeats 4000000 in
theorem gedges {w : World} {b : Nat} {C : Caps} (h : IsG w b C) :
    Calls Try.prog 22 #[.pointer (some ⟨b, 0, none⟩)] w fun e w' =>
      (∃ v, e = .returned v ∧ OwnSl w' w.heap.size 35 3 v (edgesOf C).length (flsCells (edgesOf C))) ∧ Chg [] w w' := by
  have H1 := Lib.hid (gthere_yes h.made)
  have hB := h.blk
  obtain ⟨i0, hi, hz0, hz1, hz2⟩ := info_parts info_Flow
  have II := Lib.hid (And.intro hi (And.intro hz0 (And.intro hz1 hz2)))
  clear hi hz0 hz1 hz2
  go_enter Try.func22, Try.ntmps22
  go_wp2_with fail
  refine H1.out.mono ?_; rintro e w' ⟨rfl, rfl⟩
  go_wp2_with (refine wpList_load_part rfl 50 (.tmp 12) rfl b 0 289 rfl 52 (gcells C true) (0, 0) _ hB Try.underlying50 rfl size_caps (by rw [gcells_size]; omega) _ (caps_of_gcells C true) ?_)
  go_loopw [2, 14] (fun v i wr => ∃ k : Nat, k ≤ 17 ∧ i = .int .i64 k ∧ wr.ownsRow w.heap.size 35 3 v (tabE C k).length (flsCells (tabE C k)) ∧ Chg [] w wr) (fun _ i _ => 17 - (intOf i).toNat)
  case atStart => exact ⟨0, by omega, rfl, World.ownsRow_nil _ _ _ _, Chg.refl _ _⟩
  case round =>
    obtain ⟨k, hk, rfl, hown, hchg⟩ := hrel
    by_cases hlt : k < 17
    · have hix : ∀ W, (Instr.index 50 (.agg (capsA C).toArray) (.int .i64 (k : Int))).run Try.prog W = .ok (.agg (rowA C k).toArray) W := fun W => by
        have := run_index_part (P := Try.prog) (capsA C).toArray k .i64 Try.underlying50 Try.underlying48 rfl size_row hlt W
        rw [caps_row C hlt] at this; exact this
      go_wp2_with (first
        | (refine wpList_alloc_zero rfl 48 rfl _ zero_row ?_)
        | (refine wpList_store_whole rfl 48 (.tmp 4) (.tmp 17) rfl wr.heap.size rfl (rowA C k).toArray rfl _ _ (Blk.new _ _ _) (by rw [rowA_size]; exact size_row) (by simp only [rowA_size]) (rowA_one C k) ?_; rw [setRow_new])
        | (refine wpList_load_row rfl 48 (.tmp 4) rfl wr.heap.size rfl 48 (rowA C k).toArray (0, 0) _ (Blk.new _ _ _) Try.underlying48 rfl (by rw [rowA_size]; exact size_row) ?_))
      clear hix
      have ho1 := hown.alloc (.cells (rowA C k).toArray 48)
      have hc1 := hchg.alloc (.cells (rowA C k).toArray 48)
      clear hown hchg hB
      obtain ⟨wo, hwo⟩ : ∃ wo : World, wo = wr.alloc (.cells (rowA C k).toArray 48) := ⟨_, rfl⟩
      rw [← hwo] at ho1 hc1 ⊢
      clear hwo
      go_loopw [2, 19] (fun v i ws => ∃ j : Nat, j ≤ 17 ∧ i = .int .i64 j ∧ ws.ownsRow w.heap.size 35 3 v (tabE C k ++ rowE C k j).length (flsCells (tabE C k ++ rowE C k j)) ∧ Chg [] w ws) (fun _ i _ => 17 - (intOf i).toNat)
      case atStart => exact ⟨0, by omega, rfl, by simpa [rowE] using ho1, hc1⟩
      case round =>
        obtain ⟨j, hj, rfl, hown, hchg⟩ := hrel
        by_cases hjt : j < 17
        · have hix : ∀ W, (Instr.index 48 (.agg (rowA C k).toArray) (.int .i64 (j : Int))).run Try.prog W = .ok (.int .i64 (C k j)) W := fun W =>
            run_index_cell (P := Try.prog) (rowA C k).toArray j .i64 Try.underlying48 Try.underlying2 rfl size_i64 hjt _ (rowA_get C k hjt) W
          by_cases hpos : 0 < C k j
          · have hbl := tabE_len C k
            have hrl := rowE_len C k j
            have e1 : tabE C k ++ rowE C k (j + 1) = (tabE C k ++ rowE C k j) ++ [⟨k, j, C k j⟩] := by rw [rowE_succ, cellE, if_pos hpos, List.append_assoc]
            have E1 := Lib.hid e1
            clear e1
            go_wp2_with (at_builtin; refine wpList_append_own _ rfl _ _ 22 rfl w.heap.size 35 i0 _ 3 16 Try.underlying22 II.out.1 II.out.2.1 II.out.2.2.1 II.out.2.2.2 rfl (by decide) _ _ _ rfl (hown.alloc _) ⟨wr.heap.size, 0, none⟩ 1 1 (flCells ⟨k, j, C k j⟩) rfl rfl (cells_new _ (flCells ⟨k, j, C k j⟩) _) (flCells_one _) (le_maxLen (by simp; omega)) (by simp; omega) (by have := hchg.size; simp; omega) ?_)
            intro v' w1 hown' hgrow _
            have hlt1 := hown.lt
            have hc2 := (hchg.alloc (.cells (flCells ⟨k, j, C k j⟩).toArray 35)).grown hgrow (fun q hq => .inr (hlt1 q hq).1)
            have R : w1.ownsRow w.heap.size 35 3 v' (tabE C k ++ rowE C k (j + 1)).length (flsCells (tabE C k ++ rowE C k (j + 1))) := by
              rw [E1.out, List.length_append, flsCells_append]
              simpa [flsCells] using hown'
            clear hown hown' hgrow hchg hlt1 ho1 hc1 hbl hrl E1
            go_wp2
            go_roundw
            case rel => exact ⟨j + 1, by omega, by go_num, R, hc2⟩
            case measure => simp [intOf]; omega
          · have e1 : rowE C k (j + 1) = rowE C k j := by rw [rowE_succ, cellE, if_neg hpos, List.append_nil]
            rw [← e1] at hown
            clear e1
            go_wp2
            go_roundw
            case rel => exact ⟨j + 1, by omega, by go_num, hown, hchg⟩
            case measure => simp [intOf]; omega
        · obtain rfl : j = 17 := by omega
          rw [← tabE_succ] at hown
          clear ho1 hc1
          go_wp2
          go_roundw
          case rel => exact ⟨k + 1, by omega, by go_num, hown, hchg⟩
          case measure => simp [intOf]; omega
    · obtain rfl : k = 17 := by omega
      have H2 := Lib.hid (clip_own hown)
      have HC := Lib.hid hchg
      clear hown hchg hB
      go_wp2_with fail
      refine H2.out.mono ?_; rintro e w' ⟨⟨u, rfl, hu⟩, rfl⟩
      have HU := Lib.hid hu
      clear hu
      go_wp2
      go_ret
      exact ⟨⟨_, rfl, HU.out⟩, HC.out⟩
end Go.Proofs.Ytfpdkeokdojejaa
