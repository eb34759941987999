/-
  A ledger that is not there: what its methods answer.
-/
import Derived.Test.YtofnaigkfhfhoaaVoidL
import Derived.Test.YtofnaigkfhfhoaaLForg
namespace Go.Proofs.Ytofnaigkfhfhoaa
open Go.RowKit Pl
attribute [local go_sem ↓] Go.wp_at_zero Go.wp_at_succ

theorem lopen_void {v : Value} {w : World} (h : VoidLed w v) (p : Int) : Calls Try.prog 59 #[v, .int .u8 p] w fun e w' => e = .returned (.int .i64 2) ∧ Chg [] w w' := by
  have HT := Lib.hid (fun W (k : Chg [] w W) => lthere_no (h.chg k (by simp)))
  clear h
  go_enter Try.func59, Try.ntmps59
  go_wp2_with fail
  refine (HT.out _ (by (repeat first | exact Chg.refl _ _ | apply Chg.alloc))).mono ?_; rintro e w' ⟨rfl, rfl⟩
  go_wp2
  go_ret
  exact ⟨rfl, (by (repeat first | exact Chg.refl _ _ | apply Chg.alloc))⟩

theorem ltrust_void {v : Value} {w : World} (h : VoidLed w v) (p q u n : Int) : Calls Try.prog 60 #[v, .int .u8 p, .int .u8 q, .int .u8 u, .int .i64 n] w fun e w' => e = .returned (.int .i64 2) ∧ Chg [] w w' := by
  have HT := Lib.hid (fun W (k : Chg [] w W) => lthere_no (h.chg k (by simp)))
  clear h
  go_enter Try.func60, Try.ntmps60
  go_wp2_with fail
  refine (HT.out _ (by (repeat first | exact Chg.refl _ _ | apply Chg.alloc))).mono ?_; rintro e w' ⟨rfl, rfl⟩
  go_wp2
  go_ret
  exact ⟨rfl, (by (repeat first | exact Chg.refl _ _ | apply Chg.alloc))⟩

theorem lpush_void {v : Value} {w : World} (h : VoidLed w v) (p q u n : Int) : Calls Try.prog 35 #[v, .int .u8 p, .int .u8 q, .int .u8 u, .int .i64 n] w fun e w' => e = .returned (.int .i64 2) ∧ Chg [] w w' := by
  have HT := Lib.hid (fun W (k : Chg [] w W) => lthere_no (h.chg k (by simp)))
  clear h
  go_enter Try.func35, Try.ntmps35
  go_wp2_with fail
  refine (HT.out _ (by (repeat first | exact Chg.refl _ _ | apply Chg.alloc))).mono ?_; rintro e w' ⟨rfl, rfl⟩
  go_wp2
  go_ret
  exact ⟨rfl, (by (repeat first | exact Chg.refl _ _ | apply Chg.alloc))⟩

theorem lroom_void {v : Value} {w : World} (h : VoidLed w v) (p q u : Int) : Calls Try.prog 34 #[v, .int .u8 p, .int .u8 q, .int .u8 u] w fun e w' => e = .returned (.int .i64 0) ∧ Chg [] w w' := by
  have HT := Lib.hid (fun W (k : Chg [] w W) => lthere_no (h.chg k (by simp)))
  clear h
  go_enter Try.func34, Try.ntmps34
  go_wp2_with fail
  refine (HT.out _ (by (repeat first | exact Chg.refl _ _ | apply Chg.alloc))).mono ?_; rintro e w' ⟨rfl, rfl⟩
  go_wp2
  go_ret
  exact ⟨rfl, (by (repeat first | exact Chg.refl _ _ | apply Chg.alloc))⟩

set_option maxHeartbeats 1000000 in
theorem lline_void {v : Value} {w : World} (h : VoidLed w v) (p q u : Int) : Calls Try.prog 37 #[v, .int .u8 p, .int .u8 q, .int .u8 u] w fun e w' => e = .returned (.tuple #[.agg #[.int .u8 0, .int .u8 0, .int .u8 0, .int .i64 0, .int .i64 0], .bool false]) ∧ Chg [] w w' := by
  have HT := Lib.hid (fun W (k : Chg [] w W) => lthere_no (h.chg k (by simp)))
  clear h
  go_enter Try.func37, Try.ntmps37
  go_wp2_with fail
  refine (HT.out _ (by (repeat first | exact Chg.refl _ _ | apply Chg.alloc))).mono ?_; rintro e w' ⟨rfl, rfl⟩
  go_wp2_with fail
  refine bodyPost_ret (results_cell_row_tmp rfl _ _ w.heap.size 62 #[.int .u8 0, .int .u8 0, .int .u8 0, .int .i64 0, .int .i64 0] (0, 0) _ rfl (Blk.new _ _ _) Try.underlying62 (by kernel_rfl)) rfl ?_
  exact ⟨rfl, (Chg.refl _ _).alloc _⟩

set_option maxHeartbeats 1000000 in
theorem lforgive_void {v : Value} {w : World} (h : VoidLed w v) (p q u n : Int) : Calls Try.prog 61 #[v, .int .u8 p, .int .u8 q, .int .u8 u, .int .i64 n] w fun e w' => e = .returned (.int .i64 2) ∧ Chg [] w w' := by
  have HL := Lib.hid (lline_void h p q u)
  have HT := Lib.hid (fun W (k : Chg [] w W) => lthere_no (h.chg k (by simp)))
  clear h
  go_enter Try.func61, Try.ntmps61
  go_wp2_with fail
  refine HL.out.mono ?_; rintro e w2 ⟨rfl, hc⟩
  have HC := Lib.hid hc
  clear hc
  go_wp2_with fail
  refine (HT.out _ (HC.out.alloc _)).mono ?_; rintro e w' ⟨rfl, rfl⟩
  go_wp2
  go_ret
  exact ⟨rfl, HC.out.alloc _⟩
end Go.Proofs.Ytofnaigkfhfhoaa
