/-
  The package graphs: Copy, all, Same.
-/
import Derived.Test.YtofnaigkfhfhoaaGraph
import Derived.Test.YtofnaigkfhfhoaaLaws
namespace Go.Proofs.Ytofnaigkfhfhoaa
open Go.RowKit Pl

theorem int_oneCell (l : List Value) (h : ∀ v ∈ l, ∃ k n, v = .int k n ∨ ∃ c, v = .bool c) : ∀ v ∈ l, v.oneCell' = true := by
  intro v hv
  obtain ⟨k, n, rfl | ⟨c, rfl⟩⟩ := h v hv <;> rfl
theorem gcells_one (C : Caps) (m : Bool) : ∀ u ∈ (gcells C m).toList, u.oneCell' = true := by
  refine int_oneCell _ fun v hv => ?_
  simp [gcells, capsA] at hv
  rcases hv with ⟨k, _, rfl⟩ | rfl
  · exact ⟨_, _, .inl rfl⟩
  · exact ⟨.i64, 0, .inr ⟨_, rfl⟩⟩
theorem capsA_one (C : Caps) : ∀ u ∈ (capsA C).toArray.toList, u.oneCell' = true := by
  refine int_oneCell _ fun v hv => ?_
  simp [capsA] at hv
  obtain ⟨k, _, rfl⟩ := hv
  exact ⟨_, _, .inl rfl⟩

theorem zero_Graph : (Try.prog.info? 164).bind (fun i => i.zero.map Value.cells) = some (gcells (fun _ _ => 0) false) := by kernel_rfl
theorem size_Graph : (Try.prog.info? 164).map (·.size) = some 290 := by kernel_rfl
theorem zero_caps : (Try.prog.info? 162).bind (fun i => i.zero.map Value.cells) = some (capsA (fun _ _ => 0)).toArray := by kernel_rfl
theorem size_row : (Try.prog.info? 133).map (·.size) = some 17 := by kernel_rfl
theorem size_i64 : (Try.prog.info? 2).map (·.size) = some 1 := by kernel_rfl
theorem size_caps : (Try.prog.info? 162).map (·.size) = some 289 := by kernel_rfl

set_option maxHeartbeats 1000000 in
theorem gcopy {w : World} {b : Nat} {C : Caps} (h : IsG w b C) :
    Calls Try.prog 111 #[.pointer (some ⟨b, 0, none⟩)] w fun e w' => e = .returned (.pointer (some ⟨w.heap.size, 0, none⟩)) ∧ IsG w' w.heap.size C ∧ Chg [] w w' := by
  have H1 := Lib.hid (gthere_yes h.made)
  have hB := h.blk
  go_enter Try.func111, Try.ntmps111
  go_wp2_with fail
  refine H1.out.mono ?_; rintro e w' ⟨rfl, rfl⟩
  go_wp2_with (first | (refine wpList_load_row rfl 164 _ rfl b rfl 164 (gcells C true) (0, 0) _ hB Try.underlying164 rfl (by rw [gcells_size]; exact size_Graph) ?_) | (refine wpList_alloc_zero rfl 164 rfl _ zero_Graph ?_) | (refine wpList_store_whole rfl 164 _ _ rfl _ rfl (gcells C true) rfl _ _ (Blk.new _ _ _) (by rw [gcells_size]; exact size_Graph) (by rw [gcells_size, gcells_size]) (gcells_one C true) ?_; rw [setRow_new]))
  go_ret
  exact ⟨rfl, ⟨Blk.new _ _ _, h.good⟩, (Chg.refl _ _).alloc _⟩

theorem gcopy_void {w : World} {v : Value} (h : VoidG w v) :
    Calls Try.prog 111 #[v] w fun e w' => e = .returned (.pointer none) ∧ w = w' := by
  go_enter Try.func111, Try.ntmps111
  go_wp2_with (go_at_call 130; refine (gthere_no h).mono ?_; rintro e w' ⟨rfl, rfl⟩)
  go_ret
  exact ⟨rfl, rfl⟩

/-! ### all, Same -/

theorem caps_of_gcells (C : Caps) (m : Bool) : (gcells C m).extract 0 (0 + 289) = (capsA C).toArray := by
  apply Array.ext'
  rw [Array.toList_extract]
  simp only [gcells, List.extract_eq_take_drop, Nat.zero_add, Nat.sub_zero, List.drop_zero]
  rw [List.take_append_of_le_length (by rw [capsA_length]; exact Nat.le_refl _), List.take_of_length_le (by rw [capsA_length]; exact Nat.le_refl _)]

theorem capsA_size (C : Caps) : (capsA C).toArray.size = 289 := by simp [capsA_length]

theorem VoidG.alloc {w : World} {v : Value} (h : VoidG w v) (o : Obj) : VoidG (w.alloc o) v := by
  rcases h with rfl | ⟨b, rfl, h⟩
  · exact .inl rfl
  · exact .inr ⟨b, rfl, by
      have hb : b < w.heap.size := block_lt_of_cell h
      exact (World.cell?_of_block (a := ⟨b, 289, none⟩) (Below.heap_alloc w o b hb)).trans h⟩

/-- Are two graphs' capacities the same? -/
def capsEq (C D : Caps) : Bool := (List.range 17).all fun i => (List.range 17).all fun j => C i j == D i j
theorem capsEq_refl (C : Caps) : capsEq C C = true := by simp [capsEq]
theorem capsEq_iff (C D : Caps) : capsEq C D = true ↔ ∀ i j, i < 17 → j < 17 → C i j = D i j := by
  simp [capsEq]
  constructor
  · intro h i j hi hj; exact h i hi j hj
  · intro h i hi j hj; exact h i j hi hj

theorem capsA_get (C : Caps) {k : Nat} (h : k < 289) : (capsA C).toArray[k]? = some (.int .i64 (C (k / 17) (k % 17))) := by
  simp [capsA, List.getElem?_map, List.getElem?_range h]

theorem run_part_row (E : Caps) (i : Nat) (w : World) : (part 133 (capsA E).toArray (i * 17)).run Try.prog w = .ok (.agg ((capsA E).toArray.extract (i * 17) (i * 17 + 17))) w := by
  have hagg : (isAgg 133).run Try.prog w = .ok true w := by
    unfold isAgg
    rw [Sem.run_bind, run_underlying Try.underlying133 w]
    rfl
  cases hq : Try.prog.info? 133 with
  | none => have := size_row; simp [hq] at this
  | some j =>
    have hsz : j.size = 17 := by have := size_row; simpa [hq] using this
    simp only [part, Sem.run_bind, hagg, Result.andThen_ok, if_true, sizeOf, typeInfo, run_program, hq, hsz, Sem.run_pure]

theorem run_part_cell (E : Caps) (i j : Nat) (hi : i < 17) (hj : j < 17) (w : World) : (part 2 ((capsA E).toArray.extract (i * 17) (i * 17 + 17)) (j * 1)).run Try.prog w = .ok (.int .i64 (E i j)) w := by
  have hagg : (isAgg 2).run Try.prog w = .ok false w := by
    unfold isAgg
    rw [Sem.run_bind, run_underlying Try.underlying2 w]
    rfl
  have hg : ((capsA E).toArray.extract (i * 17) (i * 17 + 17))[j]? = some (.int .i64 (E i j)) := by
    rw [Array.getElem?_extract, if_pos (by rw [capsA_size]; omega), capsA_get E (by omega)]
    have e1 : (i * 17 + j) / 17 = i := by omega
    have e2 : (i * 17 + j) % 17 = j := by omega
    rw [e1, e2]
  simp only [part, Sem.run_bind, hagg, Result.andThen_ok, Bool.false_eq_true, if_false, Nat.mul_one, hg, Sem.run_pure]

theorem run_equalIn_caps (d : Nat) (C D : Caps) (w : World) : (Op.equalIn (d + 1 + 1 + 1) 162 (.agg (capsA C).toArray) (.agg (capsA D).toArray)).run Try.prog w = .ok (capsEq C D) w := by
  refine run_equalIn_array (n := 17) _ _ _ _ Try.underlying162 size_row w fun i hi => ?_
  simp only [Sem.run_bind, run_part_row, Result.andThen_ok]
  refine run_equalIn_array (n := 1) _ _ _ _ Try.underlying133 size_i64 w fun j hj => ?_
  simp only [Sem.run_bind, run_part_cell _ i j hi hj, Result.andThen_ok]
  exact run_equalIn_int w _ _ _ _ _ _ Try.underlying2

theorem run_eql_caps (C D : Caps) (w : World) : (binOp .eql 162 (.agg (capsA C).toArray) (.agg (capsA D).toArray)).run Try.prog w = .ok (.bool (capsEq C D)) w := by
  simp only [binOp]
  simp [Op.equal, Op.maxDepth, run_equalIn_caps 9997 C D w]

end Go.Proofs.Ytofnaigkfhfhoaa
