/-
  A ledger that is not there: what it has. The graph of no ledger.
-/
import Derived.Test.YtofnaigkfhfhoaaNewB
namespace Go.Proofs.Ytofnaigkfhfhoaa
open Go.RowKit Pl

/-- A ledger that is not there: nil, or one that no call made. -/
def VoidLed (w : World) (v : Value) : Prop := v = .pointer none ∨ ∃ b, v = .pointer (some ⟨b, 0, none⟩) ∧ w.cell? ⟨b, 17, none⟩ = some (.map none)

theorem VoidLed.chg {w w' : World} {v : Value} {s : List Nat} (h : VoidLed w v) (k : Chg s w w') (hs : ∀ a, v = .pointer (some a) → a.block ∉ s) : VoidLed w' v := by
  rcases h with rfl | ⟨b, rfl, h⟩
  · exact .inl rfl
  · exact .inr ⟨b, rfl, (k.cell (p := ⟨b, 17, none⟩) (block_lt_of_cell h) (hs ⟨b, 0, none⟩ rfl)).trans h⟩
theorem VoidG.chg {w w' : World} {v : Value} {s : List Nat} (h : VoidG w v) (k : Chg s w w') (hs : ∀ a, v = .pointer (some a) → a.block ∉ s) : VoidG w' v := by
  rcases h with rfl | ⟨b, rfl, h⟩
  · exact .inl rfl
  · exact .inr ⟨b, rfl, (k.cell (p := ⟨b, 289, none⟩) (block_lt_of_cell h) (hs ⟨b, 0, none⟩ rfl)).trans h⟩

theorem lthere_no {v : Value} {w : World} (h : VoidLed w v) : Calls Try.prog 71 #[v] w fun e w' => e = .returned (.bool false) ∧ w = w' := by
  rcases h with rfl | ⟨b, rfl, h⟩
  · go_enter Try.func71, Try.ntmps71
    go_wp2
    go_ret
    exact ⟨rfl, rfl⟩
  · have hn := fun W => run_neq_map_nil (P := Try.prog) W 27 _ _ none Try.underlying27
    go_enter Try.func71, Try.ntmps71
    go_wp2
    go_ret
    exact ⟨rfl, rfl⟩

theorem lparties_void {v : Value} {w : World} (h : VoidLed w v) : Calls Try.prog 56 #[v] w fun e w' => e = .returned (.slice none 0 0) ∧ w = w' := by
  go_enter Try.func56, Try.ntmps56
  go_wp2_with (go_at_call 71; refine (lthere_no h).mono ?_; rintro e w' ⟨rfl, rfl⟩)
  go_ret
  exact ⟨rfl, rfl⟩

theorem gof_void {v : Value} {w : World} (h : VoidLed w v) (c : Int) : Calls Try.prog 66 #[v, .int .u8 c] w fun e w' => ∃ b, w.heap.size ≤ b ∧ e = .returned (.pointer (some ⟨b, 0, none⟩)) ∧ IsG w' b (fun _ _ => 0) ∧ Chg [] w w' := by
  have h2 : ∀ o, VoidLed (w.alloc o) v := fun o => h.chg ((Chg.refl [] w).alloc o) (by simp)
  have H2 := Lib.hid h2
  clear h2
  go_enter Try.func66, Try.ntmps66
  go_wp2_with fail
  refine (lparties_void (H2.out _)).mono ?_; rintro e w' ⟨rfl, rfl⟩
  go_wp2
  refine wp_loop_rounds 1 ?_
  rw [rounds_succ]
  go_wp2
  go_ret
  refine ⟨w.heap.size, Nat.le_refl _, rfl, ⟨?_, Laid.zero.good⟩, (Chg.refl _ _).alloc _⟩
  rw [← build_graph]; exact Blk.new _ _ _

end Go.Proofs.Ytofnaigkfhfhoaa
