/-
  The law GraphsVoid, walked: whatever push is asked of a graph that is not there, the call answers true and leaves all that lay in memory as it was.
-/
import Derived.Test.YtfpdkeokdojejaaVoidL
import Derived.Test.YtfpdkeokdojejaaLives5
namespace Go.Proofs.Ytfpdkeokdojejaa
open Go.RowKit Pl

theorem edges_zero : edgesOf (fun _ _ => 0) = [] := by decide +kernel
theorem capsA_zero : capsEq (fun _ _ => 0) (fun _ _ => 0) = true := capsEq_refl _

set_option maxRecDepth 100000 in
set_option maxHeartbeats 8000000 in
theorem graphsVoid_walk (w : World) (f t n : Int) : Calls Try.prog 4 #[.agg #[.int .u8 f, .int .u8 t, .int .i64 n]] w fun e w' => e = .returned (.bool true) ∧ Chg [] w w' := by
  go_enter Try.func4, Try.ntmps4
  go_wp2_with (refine wpList_alloc_zero rfl 52 rfl _ zero_Graph ?_)
  refine (gof_void (.inl rfl) 1).mono ?_
  rintro e w1 ⟨b, _, rfl, hG, hC⟩
  have x0 := (Blk.new w 35 #[.int .u8 f, .int .u8 t, .int .i64 n])
  have z0 := Blk.new (w.alloc (.cells #[.int .u8 f, .int .u8 t, .int .i64 n] 35)) 52 (gcells (fun _ _ => 0) false)
  have s0 := Blk.new ((w.alloc (.cells #[.int .u8 f, .int .u8 t, .int .i64 n] 35)).alloc (.cells (gcells (fun _ _ => 0) false) 52)) 25 #[.pointer none, .pointer (some ⟨w.heap.size + 1, 0, none⟩)]
  have x1 := ((x0.alloc _).alloc _).chg hC (by simp)
  have z1 := (z0.alloc _).chg hC (by simp)
  have s1 := s0.chg hC (by simp)
  simp only [World.size_alloc] at z1 s1
  have hc1 : Chg [] w w1 := ((((Chg.refl [] w).alloc _).alloc _).alloc _).trans hC
  have G := Lib.hid hG
  clear x0 z0 s0 hC hG
  have X := Lib.hid (And.intro x1 (And.intro z1 s1))
  have C1 := Lib.hid hc1
  clear x1 z1 s1 hc1
  have VZ : Hid (∀ W, Chg [] w1 W → VoidG W (.pointer (some ⟨w.heap.size + 1, 0, none⟩))) := fun W hW => .inr ⟨_, rfl, by rw [(X.out.2.1.chg hW (by simp)).cell, gcells_made]⟩
  have VN : Hid (∀ W, Chg [] w1 W → VoidG W (.pointer none)) := fun W _ => .inl rfl
  go_wp2
  go_loopw [6] (fun i wr => ∃ k : Nat, k ≤ 2 ∧ i = .int .i64 k ∧ Chg [] w1 wr) (fun i _ => 2 - (intOf i).toNat)
  case atStart => exact ⟨0, by omega, rfl, Chg.refl _ _⟩
  case round =>
    obtain ⟨k, hk, rfl, hchg⟩ := hrel
    by_cases hlt : k < 2
    · have GB : Hid (∀ W, Chg [] w1 W → IsG W b (fun _ _ => 0)) := fun W hW => G.out.chg hW (by simp)
      have HC := Lib.hid hchg
      have hx := X.out.1.chg hchg (by simp)
      have y0 : wr.cell? ⟨w.heap.size, 0, none⟩ = some (.int .u8 f) := hx.cell 0
      have y1 : wr.cell? ⟨w.heap.size, 1, none⟩ = some (.int .u8 t) := hx.cell 1
      have y2 : wr.cell? ⟨w.heap.size, 2, none⟩ = some (.int .i64 n) := hx.cell 2
      have SC : Hid (∀ W, Chg [] w1 W → W.cell? ⟨w.heap.size + 2, 0, none⟩ = some (.pointer none) ∧ W.cell? ⟨w.heap.size + 2, 1, none⟩ = some (.pointer (some ⟨w.heap.size + 1, 0, none⟩))) :=
        fun W hW => ⟨(X.out.2.2.chg hW (by simp)).cell 0, (X.out.2.2.chg hW (by simp)).cell 1⟩
      obtain ⟨q0, q1⟩ := SC.out wr hchg
      clear hx hchg
      obtain rfl | rfl : k = 0 ∨ k = 1 := by omega
      · have HA := VN
        have HB := VZ
        go_wp2_with fail
        refine (gcap_void (HA.out _ HC.out) _ _).mono ?_; rintro e w' ⟨rfl, rfl⟩
        go_wp2_with fail
        refine (gpush_void (HA.out _ HC.out) _ _ _).mono ?_; rintro e w' ⟨rfl, rfl⟩
        go_wp2_with fail
        refine (gedges_void (HA.out _ HC.out)).mono ?_; rintro e w' ⟨rfl, rfl⟩
        go_wp2_with fail
        refine (gcopy_void (HA.out _ HC.out)).mono ?_; rintro e w' ⟨rfl, rfl⟩
        go_wp2_with fail
        refine (gsame_of (gall_void (HA.out _ HC.out)) (fun W hW => gall (GB.out W (HC.out.trans hW)))).mono ?_
        rw [capsA_zero]
        rintro e w2 ⟨rfl, hC⟩
        have HC2 := Lib.hid (HC.out.trans hC)
        clear hC
        go_wp2_with fail
        refine (gsame_of (gall (GB.out _ HC2.out)) (fun W hW => gall_void (HA.out W (HC2.out.trans hW)))).mono ?_
        rw [capsA_zero]
        rintro e w3 ⟨rfl, hC⟩
        have HC3 := Lib.hid (HC2.out.trans hC)
        clear hC
        obtain ⟨r0, r1⟩ := SC.out w3 HC3.out
        go_wp2_with fail
        refine (gsame_of (gall_void (HA.out _ HC3.out)) (fun W hW => gall_void (HB.out W (HC3.out.trans hW)))).mono ?_
        rw [capsA_zero]
        rintro e w4 ⟨rfl, hC⟩
        have HC4 := Lib.hid (HC3.out.trans hC)
        clear hC
        go_wp2
        go_roundw
        case rel => exact ⟨1, by omega, rfl, HC4.out⟩
        case measure => simp [intOf]
      · have HA := VZ
        have HB := VN
        go_wp2_with fail
        refine (gcap_void (HA.out _ HC.out) _ _).mono ?_; rintro e w' ⟨rfl, rfl⟩
        go_wp2_with fail
        refine (gpush_void (HA.out _ HC.out) _ _ _).mono ?_; rintro e w' ⟨rfl, rfl⟩
        go_wp2_with fail
        refine (gedges_void (HA.out _ HC.out)).mono ?_; rintro e w' ⟨rfl, rfl⟩
        go_wp2_with fail
        refine (gcopy_void (HA.out _ HC.out)).mono ?_; rintro e w' ⟨rfl, rfl⟩
        go_wp2_with fail
        refine (gsame_of (gall_void (HA.out _ HC.out)) (fun W hW => gall (GB.out W (HC.out.trans hW)))).mono ?_
        rw [capsA_zero]
        rintro e w2 ⟨rfl, hC⟩
        have HC2 := Lib.hid (HC.out.trans hC)
        clear hC
        go_wp2_with fail
        refine (gsame_of (gall (GB.out _ HC2.out)) (fun W hW => gall_void (HA.out W (HC2.out.trans hW)))).mono ?_
        rw [capsA_zero]
        rintro e w3 ⟨rfl, hC⟩
        have HC3 := Lib.hid (HC2.out.trans hC)
        clear hC
        obtain ⟨r0, r1⟩ := SC.out w3 HC3.out
        go_wp2_with fail
        refine (gsame_of (gall_void (HA.out _ HC3.out)) (fun W hW => gall_void (HB.out W (HC3.out.trans hW)))).mono ?_
        rw [capsA_zero]
        rintro e w4 ⟨rfl, hC⟩
        have HC4 := Lib.hid (HC3.out.trans hC)
        clear hC
        go_wp2
        go_roundw
        case rel => exact ⟨2, by omega, rfl, HC4.out⟩
        case measure => simp [intOf]
    · obtain rfl : k = 2 := by omega
      have HC := Lib.hid hchg
      have GB := Lib.hid (G.out.chg hchg (by simp))
      clear hchg
      go_wp2_with fail
      refine (gedges GB.out).mono ?_
      rw [edges_zero]
      rintro e w2 ⟨⟨v, rfl, ho⟩, hC⟩
      have HC2 := Lib.hid (HC.out.trans hC)
      have hr := ho.rd (l := [])
      rcases hr with ⟨_, ao, cap, rfl⟩ | ⟨g, off, cap, rfl, _, hc⟩
      · clear ho hC
        go_wp2_with fail
        refine (lives5 _).mono ?_
        rintro e w3 ⟨rfl, hC⟩
        have HC3 := Lib.hid (HC2.out.trans hC)
        clear hC
        go_wp2
        go_ret
        exact ⟨rfl, C1.out.trans HC3.out⟩
      · clear ho hC hc
        go_wp2_with fail
        refine (lives5 _).mono ?_
        rintro e w3 ⟨rfl, hC⟩
        have HC3 := Lib.hid (HC2.out.trans hC)
        clear hC
        go_wp2
        go_ret
        exact ⟨rfl, C1.out.trans HC3.out⟩
end Go.Proofs.Ytfpdkeokdojejaa
