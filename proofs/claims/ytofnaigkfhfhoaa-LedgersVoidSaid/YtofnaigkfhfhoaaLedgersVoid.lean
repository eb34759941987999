/-
  The law LedgersVoid, walked.
-/
import Derived.Test.YtofnaigkfhfhoaaLives3
namespace Go.Proofs.Ytofnaigkfhfhoaa
open Go.RowKit Go.Maps Pl
attribute [local go_sem ↓] Go.wp_at_zero Go.wp_at_succ

theorem lparties_void1 {v : Value} {w : World} (h : VoidLed w v) : Calls Try.prog 56 #[v] w fun e w' => e = .returned (.slice none 0 0) ∧ Chg [] w w' :=
  (lparties_void h).mono fun _ _ ⟨he, hw⟩ => ⟨he, hw ▸ Chg.refl _ _⟩

set_option maxRecDepth 100000 in
set_option maxHeartbeats 8000000 in
theorem ledgersVoid_walk {w : World} {k a b c : Nat} {n : Int} (_ : k < 256) (_ : a < 256) (_ : b < 256) (_ : c < 256) (_ : -9223372036854775808 ≤ n ∧ n ≤ 9223372036854775807) :
    Calls Try.prog 9 #[.agg #[.int .u8 k, .int .u8 a, .int .u8 b, .int .u8 c, .int .i64 n]] w fun e w' => e = .returned (.bool true) ∧ Chg [] w w' := by
  have HX : Hid (Blk (((w.alloc (.cells #[.int .u8 k, .int .u8 a, .int .u8 b, .int .u8 c, .int .i64 n] 57)).alloc (.cells #[.bool false, .bool false, .bool false, .bool false, .bool false, .bool false, .bool false, .bool false, .bool false, .bool false, .bool false, .bool false, .bool false, .bool false, .bool false, .bool false, .bool false, .map none] 29)).alloc (.cells #[.pointer none, .pointer (some ⟨w.heap.size + 1, 0, none⟩)] 30)) w.heap.size 57 #[.int .u8 k, .int .u8 a, .int .u8 b, .int .u8 c, .int .i64 n]) := Lib.hid (((Blk.new w _ _).alloc _).alloc _)
  have HZ : Hid (Blk (((w.alloc (.cells #[.int .u8 k, .int .u8 a, .int .u8 b, .int .u8 c, .int .i64 n] 57)).alloc (.cells #[.bool false, .bool false, .bool false, .bool false, .bool false, .bool false, .bool false, .bool false, .bool false, .bool false, .bool false, .bool false, .bool false, .bool false, .bool false, .bool false, .bool false, .map none] 29)).alloc (.cells #[.pointer none, .pointer (some ⟨w.heap.size + 1, 0, none⟩)] 30)) (w.heap.size + 1) 29 #[.bool false, .bool false, .bool false, .bool false, .bool false, .bool false, .bool false, .bool false, .bool false, .bool false, .bool false, .bool false, .bool false, .bool false, .bool false, .bool false, .bool false, .map none]) := Lib.hid ((by have := Blk.new (w.alloc (.cells #[.int .u8 k, .int .u8 a, .int .u8 b, .int .u8 c, .int .i64 n] 57)) 29 #[.bool false, .bool false, .bool false, .bool false, .bool false, .bool false, .bool false, .bool false, .bool false, .bool false, .bool false, .bool false, .bool false, .bool false, .bool false, .bool false, .bool false, .map none]; rw [World.size_alloc] at this; exact this.alloc _))
  have HR : Hid (Blk (((w.alloc (.cells #[.int .u8 k, .int .u8 a, .int .u8 b, .int .u8 c, .int .i64 n] 57)).alloc (.cells #[.bool false, .bool false, .bool false, .bool false, .bool false, .bool false, .bool false, .bool false, .bool false, .bool false, .bool false, .bool false, .bool false, .bool false, .bool false, .bool false, .bool false, .map none] 29)).alloc (.cells #[.pointer none, .pointer (some ⟨w.heap.size + 1, 0, none⟩)] 30)) (w.heap.size + 1 + 1) 30 #[.pointer none, .pointer (some ⟨w.heap.size + 1, 0, none⟩)]) := Lib.hid ((by have := Blk.new ((w.alloc (.cells #[.int .u8 k, .int .u8 a, .int .u8 b, .int .u8 c, .int .i64 n] 57)).alloc (.cells #[.bool false, .bool false, .bool false, .bool false, .bool false, .bool false, .bool false, .bool false, .bool false, .bool false, .bool false, .bool false, .bool false, .bool false, .bool false, .bool false, .bool false, .map none] 29)) 30 #[.pointer none, .pointer (some ⟨w.heap.size + 1, 0, none⟩)]; rw [World.size_alloc, World.size_alloc] at this; exact this))
  have HC0 : Hid (Chg [] w (((w.alloc (.cells #[.int .u8 k, .int .u8 a, .int .u8 b, .int .u8 c, .int .i64 n] 57)).alloc (.cells #[.bool false, .bool false, .bool false, .bool false, .bool false, .bool false, .bool false, .bool false, .bool false, .bool false, .bool false, .bool false, .bool false, .bool false, .bool false, .bool false, .bool false, .map none] 29)).alloc (.cells #[.pointer none, .pointer (some ⟨w.heap.size + 1, 0, none⟩)] 30))) := Lib.hid ((((Chg.refl _ _).alloc _).alloc _).alloc _)
  obtain ⟨xb, hxb⟩ : ∃ xb, xb = w.heap.size := ⟨_, rfl⟩
  rw [← hxb] at HX HZ HR HC0
  obtain ⟨W0, hW0⟩ : ∃ W0, W0 = (((w.alloc (.cells #[.int .u8 k, .int .u8 a, .int .u8 b, .int .u8 c, .int .i64 n] 57)).alloc (.cells #[.bool false, .bool false, .bool false, .bool false, .bool false, .bool false, .bool false, .bool false, .bool false, .bool false, .bool false, .bool false, .bool false, .bool false, .bool false, .bool false, .bool false, .map none] 29)).alloc (.cells #[.pointer none, .pointer (some ⟨xb + 1, 0, none⟩)] 30)) := ⟨_, rfl⟩
  rw [← hW0] at HX HZ HR HC0
  have KX : Hid (∀ W, Chg [] W0 W → W.cell? ⟨xb, 1, none⟩ = some (.int .u8 a) ∧ W.cell? ⟨xb, 2, none⟩ = some (.int .u8 b) ∧ W.cell? ⟨xb, 3, none⟩ = some (.int .u8 c) ∧ W.cell? ⟨xb, 4, none⟩ = some (.int .i64 n)) := Lib.hid fun W k => ⟨(HX.out.chg k (by simp)).cell 1, (HX.out.chg k (by simp)).cell 2, (HX.out.chg k (by simp)).cell 3, (HX.out.chg k (by simp)).cell 4⟩
  have KR : Hid (∀ W, Chg [] W0 W → W.cell? ⟨xb + 1 + 1, 0, none⟩ = some (.pointer none) ∧ W.cell? ⟨xb + 1 + 1, 1, none⟩ = some (.pointer (some ⟨xb + 1, 0, none⟩))) := Lib.hid fun W k => ⟨(HR.out.chg k (by simp)).cell 0, (HR.out.chg k (by simp)).cell 1⟩
  have KN : Hid (∀ W, Chg [] W0 W → VoidLed W (.pointer none)) := Lib.hid fun W _ => .inl rfl
  have KZ : Hid (∀ W, Chg [] W0 W → VoidLed W (.pointer (some ⟨xb + 1, 0, none⟩))) := Lib.hid fun W k => .inr ⟨_, rfl, (HZ.out.chg k (by simp)).cell 17⟩
  clear HX HZ HR
  go_enter Try.func9, Try.ntmps9
  go_wp2
  rw [← hxb, ← hW0]
  clear hW0 hxb
  go_loopw [5] (fun i wr => ∃ j : Nat, j ≤ 2 ∧ i = .int .i64 j ∧ Hid (Chg [] W0 wr)) (fun i _ => 2 - (intOf i).toNat)
  case atStart => exact ⟨0, by omega, rfl, Lib.hid (Chg.refl _ _)⟩
  case round =>
    obtain ⟨j, hj, rfl, HC⟩ := hrel
    by_cases hlt : j < 2
    · obtain ⟨r0, r1⟩ := KR.out wr HC.out
      obtain ⟨x0, x1, x2, x3⟩ := KX.out wr HC.out
      rcases (by omega : j = 0 ∨ j = 1) with rfl | rfl
      · have HV := KN
        go_wp2_with fail
        refine (lline_void (HV.out _ HC.out) _ _ _).mono ?_; rintro e w2 ⟨rfl, hc⟩
        replace HC := Lib.hid (HC.out.trans hc)
        clear hc
        obtain ⟨x0, x1, x2, x3⟩ := KX.out (w2.alloc (.cells #[.int .u8 0, .int .u8 0, .int .u8 0, .int .i64 0, .int .i64 0] 62)) (HC.out.alloc _)
        go_wp2_with fail
        replace HC := Lib.hid (HC.out.alloc (.cells #[.int .u8 0, .int .u8 0, .int .u8 0, .int .i64 0, .int .i64 0] 62))
        refine (lopen_void (HV.out _ HC.out) _).mono ?_; rintro e w3 ⟨rfl, hc⟩
        replace HC := Lib.hid (HC.out.trans hc)
        clear hc
        obtain ⟨x0, x1, x2, x3⟩ := KX.out w3 HC.out
        go_wp2_with fail
        refine (ltrust_void (HV.out _ HC.out) _ _ _ _).mono ?_; rintro e w4 ⟨rfl, hc⟩
        replace HC := Lib.hid (HC.out.trans hc)
        clear hc
        obtain ⟨x0, x1, x2, x3⟩ := KX.out w4 HC.out
        go_wp2_with fail
        refine (lpush_void (HV.out _ HC.out) _ _ _ _).mono ?_; rintro e w5 ⟨rfl, hc⟩
        replace HC := Lib.hid (HC.out.trans hc)
        clear hc
        obtain ⟨x0, x1, x2, x3⟩ := KX.out w5 HC.out
        go_wp2_with fail
        refine (lforgive_void (HV.out _ HC.out) _ _ _ _).mono ?_; rintro e w6 ⟨rfl, hc⟩
        replace HC := Lib.hid (HC.out.trans hc)
        clear hc
        obtain ⟨x0, x1, x2, x3⟩ := KX.out w6 HC.out
        go_wp2_with fail
        refine (lhas_void (HV.out _ HC.out) _).mono ?_; rintro e w7 ⟨rfl, hc⟩
        replace HC := Lib.hid (HC.out.trans hc)
        clear hc
        obtain ⟨x0, x1, x2, x3⟩ := KX.out w7 HC.out
        go_wp2_with fail
        refine (lroom_void (HV.out _ HC.out) _ _ _).mono ?_; rintro e w8 ⟨rfl, hc⟩
        replace HC := Lib.hid (HC.out.trans hc)
        clear hc
        obtain ⟨x0, x1, x2, x3⟩ := KX.out w8 HC.out
        go_wp2_with fail
        refine (lposition_void (HV.out _ HC.out) _ _).mono ?_; rintro e w9 ⟨rfl, hc⟩
        replace HC := Lib.hid (HC.out.trans hc)
        clear hc
        obtain ⟨x0, x1, x2, x3⟩ := KX.out w9 HC.out
        go_wp2_with fail
        refine (ltotal_void (HV.out _ HC.out) _).mono ?_; rintro e w10 ⟨rfl, hc⟩
        replace HC := Lib.hid (HC.out.trans hc)
        clear hc
        obtain ⟨x0, x1, x2, x3⟩ := KX.out w10 HC.out
        go_wp2_with fail
        refine (lparties_void1 (HV.out _ HC.out) ).mono ?_; rintro e w11 ⟨rfl, hc⟩
        replace HC := Lib.hid (HC.out.trans hc)
        clear hc
        go_wp2_with fail
        refine (llines_void (HV.out _ HC.out) ).mono ?_; rintro e w12 ⟨rfl, hc⟩
        replace HC := Lib.hid (HC.out.trans hc)
        clear hc
        go_wp2_with fail
        refine (lcopy_void (HV.out _ HC.out) ).mono ?_; rintro e w13 ⟨rfl, hc⟩
        replace HC := Lib.hid (HC.out.trans hc)
        clear hc
        go_wp2
        go_roundw
        case rel => exact ⟨1, by omega, rfl, HC⟩
        case measure => simp [intOf]
      · have HV := KZ
        go_wp2_with fail
        refine (lline_void (HV.out _ HC.out) _ _ _).mono ?_; rintro e w2 ⟨rfl, hc⟩
        replace HC := Lib.hid (HC.out.trans hc)
        clear hc
        obtain ⟨x0, x1, x2, x3⟩ := KX.out (w2.alloc (.cells #[.int .u8 0, .int .u8 0, .int .u8 0, .int .i64 0, .int .i64 0] 62)) (HC.out.alloc _)
        go_wp2_with fail
        replace HC := Lib.hid (HC.out.alloc (.cells #[.int .u8 0, .int .u8 0, .int .u8 0, .int .i64 0, .int .i64 0] 62))
        refine (lopen_void (HV.out _ HC.out) _).mono ?_; rintro e w3 ⟨rfl, hc⟩
        replace HC := Lib.hid (HC.out.trans hc)
        clear hc
        obtain ⟨x0, x1, x2, x3⟩ := KX.out w3 HC.out
        go_wp2_with fail
        refine (ltrust_void (HV.out _ HC.out) _ _ _ _).mono ?_; rintro e w4 ⟨rfl, hc⟩
        replace HC := Lib.hid (HC.out.trans hc)
        clear hc
        obtain ⟨x0, x1, x2, x3⟩ := KX.out w4 HC.out
        go_wp2_with fail
        refine (lpush_void (HV.out _ HC.out) _ _ _ _).mono ?_; rintro e w5 ⟨rfl, hc⟩
        replace HC := Lib.hid (HC.out.trans hc)
        clear hc
        obtain ⟨x0, x1, x2, x3⟩ := KX.out w5 HC.out
        go_wp2_with fail
        refine (lforgive_void (HV.out _ HC.out) _ _ _ _).mono ?_; rintro e w6 ⟨rfl, hc⟩
        replace HC := Lib.hid (HC.out.trans hc)
        clear hc
        obtain ⟨x0, x1, x2, x3⟩ := KX.out w6 HC.out
        go_wp2_with fail
        refine (lhas_void (HV.out _ HC.out) _).mono ?_; rintro e w7 ⟨rfl, hc⟩
        replace HC := Lib.hid (HC.out.trans hc)
        clear hc
        obtain ⟨x0, x1, x2, x3⟩ := KX.out w7 HC.out
        go_wp2_with fail
        refine (lroom_void (HV.out _ HC.out) _ _ _).mono ?_; rintro e w8 ⟨rfl, hc⟩
        replace HC := Lib.hid (HC.out.trans hc)
        clear hc
        obtain ⟨x0, x1, x2, x3⟩ := KX.out w8 HC.out
        go_wp2_with fail
        refine (lposition_void (HV.out _ HC.out) _ _).mono ?_; rintro e w9 ⟨rfl, hc⟩
        replace HC := Lib.hid (HC.out.trans hc)
        clear hc
        obtain ⟨x0, x1, x2, x3⟩ := KX.out w9 HC.out
        go_wp2_with fail
        refine (ltotal_void (HV.out _ HC.out) _).mono ?_; rintro e w10 ⟨rfl, hc⟩
        replace HC := Lib.hid (HC.out.trans hc)
        clear hc
        obtain ⟨x0, x1, x2, x3⟩ := KX.out w10 HC.out
        go_wp2_with fail
        refine (lparties_void1 (HV.out _ HC.out) ).mono ?_; rintro e w11 ⟨rfl, hc⟩
        replace HC := Lib.hid (HC.out.trans hc)
        clear hc
        go_wp2_with fail
        refine (llines_void (HV.out _ HC.out) ).mono ?_; rintro e w12 ⟨rfl, hc⟩
        replace HC := Lib.hid (HC.out.trans hc)
        clear hc
        go_wp2_with fail
        refine (lcopy_void (HV.out _ HC.out) ).mono ?_; rintro e w13 ⟨rfl, hc⟩
        replace HC := Lib.hid (HC.out.trans hc)
        clear hc
        go_wp2
        go_roundw
        case rel => exact ⟨2, by omega, rfl, HC⟩
        case measure => simp [intOf]
    · obtain rfl : j = 2 := by omega
      go_wp2_with fail
      refine (lives3 _).mono ?_
      rintro e w2 ⟨rfl, hc⟩
      replace HC := Lib.hid (HC.out.trans hc)
      clear hc
      go_wp2
      go_ret
      exact ⟨rfl, HC0.out.trans HC.out⟩
end Go.Proofs.Ytofnaigkfhfhoaa
