/-
  The law FlowsRoute, walked.
-/
import Derived.Test.YtfpdkeokdojejaaLives7
import Derived.Test.YtfpdkeokdojejaaRRoute
import Derived.Test.YtfpdkeokdojejaaRefNew
import Derived.Test.YtfpdkeokdojejaaPageF
import Derived.Test.YtfpdkeokdojejaaPlMost
namespace Go.Proofs.Ytfpdkeokdojejaa
open Go.RowKit Pl
attribute [local irreducible] hops
attribute [local go_sem ↓] Go.wp_at_zero Go.wp_at_succ

set_option maxRecDepth 100000 in
set_option maxHeartbeats 4000000 in
theorem flowsRoute_long {w : World} {va : Value} {l : List Fl} (hl : RdFl w va l) (s t : Nat) (want : Int) (h300 : 300 < l.length) :
    Calls Try.prog 7 #[va, .agg #[.int .u8 s, .int .u8 t, .int .i64 want]] w fun e w' => e = .returned (.bool true) ∧ Chg [] w w' := by
  obtain ⟨ao, cap, rfl⟩ := hl.shape
  have hL : (300 : Int) < (l.length : Int) := by omega
  clear hl h300
  go_enter Try.func7, Try.ntmps7
  go_wp2_with (go_at_call 27; refine (lives7 _).mono ?_; rintro e w' ⟨rfl, hc⟩)
  go_ret
  exact ⟨rfl, ((Chg.refl [] w).alloc _).trans hc⟩

theorem mostF_zero (s t : Nat) : mostF (fun _ _ => 0) s t = 0 := by
  unfold mostF
  rw [route_none _ _ _ _ (short_zero s t)]

set_option maxRecDepth 100000 in
set_option maxHeartbeats 4000000 in
theorem flowsRoute_bad {w : World} {va : Value} {l : List Fl} (hl : RdFl w va l) (s t : Nat) (want : Int) (hw : want ≤ 9223372036854775807) (h300 : l.length ≤ 300) (hnew : newG l = none) :
    Calls Try.prog 7 #[va, .agg #[.int .u8 s, .int .u8 t, .int .i64 want]] w fun e w' => e = .returned (.bool true) ∧ Chg [] w w' := by
  have hl1 := hl.chg0 ((Chg.refl [] w).alloc (.cells #[.int .u8 s, .int .u8 t, .int .i64 want] 58))
  obtain ⟨ao, cap, rfl⟩ := hl.shape
  have HL := Lib.hid hl1
  have hL : (l.length : Int) ≤ 300 := by omega
  have hr : route s t want.toNat (fun _ _ => 0) want = ([], 0, fun _ _ => 0) := route_none _ _ _ _ (short_zero s t)
  have HR := Lib.hid hr
  clear hl hl1 hr
  go_enter Try.func7, Try.ntmps7
  go_wp2_with fail
  refine (gnew HL.out (by omega)).mono ?_
  intro e w1 hp
  obtain ⟨rfl, hC⟩ := NewPost.no hnew hp
  have HL1 := Lib.hid (HL.out.chg0 hC)
  have C1 := Lib.hid hC
  clear hp hC
  go_wp2_with fail
  refine (rnew HL1.out (by omega)).mono ?_
  intro e w2 hp
  obtain ⟨rfl, hC⟩ := RNewPost.no hnew hp
  have hb1 := (Blk.new w 58 #[.int .u8 s, .int .u8 t, .int .i64 want]).chg (C1.out.trans hC) (by simp)
  have C2 := Lib.hid (((Chg.refl [] w).alloc (.cells #[.int .u8 s, .int .u8 t, .int .i64 want] 58)).trans (C1.out.trans hC))
  have B2 := Lib.hid hb1
  have c0 : w2.cell? ⟨w.heap.size, 0, none⟩ = some (.int .u8 s) := hb1.cell 0
  have c1 : w2.cell? ⟨w.heap.size, 1, none⟩ = some (.int .u8 t) := hb1.cell 1
  have c2 : w2.cell? ⟨w.heap.size, 2, none⟩ = some (.int .i64 want) := hb1.cell 2
  clear hp hC hb1
  go_wp2_with fail
  refine (froute (.inr ⟨.inl rfl, rfl⟩) s t hw).mono ?_
  rintro e w3 ⟨u, rfl, hu, hC⟩
  rw [HR.out] at hu
  rw [HR.out]
  obtain ⟨ua, uc, rfl⟩ := hu.rd.shape
  have C3 := Lib.hid (C2.out.trans hC)
  have hb3 := B2.out.chg hC (by simp)
  have d0 : w3.cell? ⟨w.heap.size, 0, none⟩ = some (.int .u8 s) := hb3.cell 0
  have d1 : w3.cell? ⟨w.heap.size, 1, none⟩ = some (.int .u8 t) := hb3.cell 1
  have d2 : w3.cell? ⟨w.heap.size, 2, none⟩ = some (.int .i64 want) := hb3.cell 2
  clear hu hC hb3 c0 c1 c2
  go_wp2_with fail
  refine (fmost (C := fun _ _ => 0) (.inr ⟨.inl rfl, rfl⟩) s t).mono ?_
  rw [mostF_zero]
  rintro e w4 ⟨rfl, hC⟩
  have C4 := Lib.hid (C3.out.trans hC)
  clear hC
  go_wp2_with (go_at_call 27; refine (lives7 _).mono ?_; rintro e w' ⟨rfl, hc⟩)
  go_ret
  exact ⟨rfl, C4.out.trans hc⟩

set_option maxRecDepth 100000 in
set_option maxHeartbeats 8000000 in
theorem flowsRoute_on {w : World} {va : Value} {l : List Fl} (hl : RdFl w va l) (s t : Nat) {want : Int} (hw : -9223372036854775808 ≤ want ∧ want ≤ 9223372036854775807) (h300 : l.length ≤ 300) {C : Caps} (hnew : newG l = some C) :
    Calls Try.prog 7 #[va, .agg #[.int .u8 s, .int .u8 t, .int .i64 want]] w fun e w' => e = .returned (.bool true) ∧ Chg [] w w' := by
  have hl1 := hl.chg0 ((Chg.refl [] w).alloc (.cells #[.int .u8 s, .int .u8 t, .int .i64 want] 58))
  obtain ⟨ao, cap, rfl⟩ := hl.shape
  have HL := Lib.hid hl1
  have hL : (l.length : Int) ≤ 300 := by omega
  have HW := Lib.hid hw
  clear hl hl1 hw
  go_enter Try.func7, Try.ntmps7
  go_wp2_with fail
  refine (gnew HL.out (by omega)).mono ?_
  intro e w1 hp
  obtain ⟨b, hb, rfl, hG, hC⟩ := NewPost.yes hnew hp
  have HL1 := Lib.hid (HL.out.chg0 hC)
  have C1 := Lib.hid hC
  have G1 := Lib.hid hG
  clear hp hC hG hb
  go_wp2_with fail
  refine (rnew HL1.out (by omega)).mono ?_
  intro e w2 hp
  obtain ⟨mb, vm, hmb, rfl, hM, hvo, hC⟩ := RNewPost.yes hnew hp
  obtain ⟨xb, hxb⟩ : ∃ xb : Nat, xb = w.heap.size := ⟨_, rfl⟩
  have hb1 := (Blk.new w 58 #[.int .u8 s, .int .u8 t, .int .i64 want]).chg (C1.out.trans hC) (by simp)
  rw [← hxb] at hb1 ⊢
  clear hxb
  have C2 := Lib.hid (((Chg.refl [] w).alloc (.cells #[.int .u8 s, .int .u8 t, .int .i64 want] 58)).trans (C1.out.trans hC))
  have G2 := Lib.hid (IsG.mk (G1.out.blk.chg hC (by simp)) G1.out.good)
  have M2 := Lib.hid hM
  have B2 := Lib.hid hb1
  have c0 : w2.cell? ⟨xb, 0, none⟩ = some (.int .u8 s) := hb1.cell 0
  have c1 : w2.cell? ⟨xb, 1, none⟩ = some (.int .u8 t) := hb1.cell 1
  have c2 : w2.cell? ⟨xb, 2, none⟩ = some (.int .i64 want) := hb1.cell 2
  clear hp hC hb1 hM hvo hmb G1 C1
  have HLn := Lib.hid (route_len G2.out.good s t (w := want))
  go_wp2_with fail
  refine (froute (.inl ⟨b, rfl, G2.out⟩) s t HW.out.2).mono ?_
  rintro e w3 ⟨u, rfl, hu, hC⟩
  have C3 := Lib.hid hC
  have U3 := Lib.hid hu
  have hb3 := B2.out.chg hC (by simp)
  have d0 : w3.cell? ⟨xb, 0, none⟩ = some (.int .u8 s) := hb3.cell 0
  have d1 : w3.cell? ⟨xb, 1, none⟩ = some (.int .u8 t) := hb3.cell 1
  have d2 : w3.cell? ⟨xb, 2, none⟩ = some (.int .i64 want) := hb3.cell 2
  clear hu hC hb3 c0 c1 c2
  go_wp2_with fail
  refine (rroute (M2.out.chg0 C3.out) s t HW.out.1 HW.out.2).mono ?_
  rintro e w4 ⟨v, rfl, hv, hC⟩
  have C4 := Lib.hid (C3.out.trans hC)
  have U4 := Lib.hid (U3.out.move (Nat.le_refl _) (fun g cs _ hg => hg.chg hC (by simp)))
  have V4 := Lib.hid (rd_owns hv)
  have hlen := HLn.out
  obtain ⟨ps, hps⟩ : ∃ ps, ps = (route s t want.toNat C want).1 := ⟨_, rfl⟩
  obtain ⟨got, hgot⟩ : ∃ got, got = (route s t want.toNat C want).2.1 := ⟨_, rfl⟩
  rw [← hps] at U4 V4 hlen
  rw [← hgot]
  have HPS := Lib.hid (And.intro hps hgot)
  clear hv hC U3 HLn hps hgot d0 d1 d2
  obtain ⟨pg1, hv1, hr1, hg1, hsh1⟩ := U4.out.page (by omega) 1
  have HP1 := Lib.hid (And.intro hv1 (And.intro hr1 hg1))
  have HSH1 := Lib.hid hsh1
  have hsl : ∃ a n c, u = .slice a n c := by
    rcases hsh1 with rfl | ⟨g, n, rfl⟩
    · exact ⟨_, _, _, rfl⟩
    · exact ⟨_, _, _, rfl⟩
  obtain ⟨u1, u2, u3, rfl⟩ := hsl
  obtain ⟨va', vc', rfl⟩ := V4.out.shape
  clear hv1 hr1 hg1 hsh1
  obtain ⟨va, vk, rfl⟩ := M2.out.row.shape
  have K2 : Hid (∀ W, Chg [] w4 W → Calls Try.prog 21 #[.slice u1 u2 u3, .slice va' ps.length vc'] W fun e w' => e = .returned (.bool true) ∧ Chg [] W w') := fun W hW => by
    have h := sameFlows (U4.out.rd.chg0 hW) (V4.out.chg0 hW) (by omega)
    rw [decide_eq_true rfl] at h
    exact h
  have K15 : Hid (∀ W, Chg [] w4 W → Calls Try.prog 29 #[.pointer (some ⟨b, 0, none⟩), .int .u8 s, .int .u8 t] W fun e w' => e = .returned (.int .i64 (mostF C s t)) ∧ Chg [] W w') := fun W hW => fmost (.inl ⟨b, rfl, ⟨G2.out.blk.chg (C4.out.trans hW) (by simp), G2.out.good⟩⟩) s t
  have K21 : Hid (∀ W, Chg [] w4 W → Calls Try.prog 33 #[.pointer (some ⟨mb, 0, none⟩), .int .u8 s, .int .u8 t] W fun e w' => e = .returned (.int .i64 (mostF C s t)) ∧ Chg [] W w') := fun W hW => rmost (M2.out.chg0 (C4.out.trans hW)) s t
  have K26 : Hid (∀ W, Chg [] w4 W → Calls Try.prog 22 #[.pointer (some ⟨b, 0, none⟩)] W fun e w' => (∃ a k, e = .returned (.slice a (edgesOf C).length k) ∧ RdFl w' (.slice a (edgesOf C).length k) (edgesOf C)) ∧ Chg [] W w') := fun W hW =>
    (gedges (b := b) (C := C) ⟨G2.out.blk.chg (C4.out.trans hW) (by simp), G2.out.good⟩).mono fun e w' ⟨⟨v, he, ho⟩, hc⟩ => by
      have hrd := ho.rd
      obtain ⟨a, k, rfl⟩ := hrd.shape
      exact ⟨⟨a, k, he, hrd⟩, hc⟩
  have K31 : Hid (∀ W, Chg [] w4 W → ∀ v, RdFl W v (edgesOf C) → Calls Try.prog 21 #[v, .slice va (edgesOf C).length vk] W fun e w' => e = .returned (.bool true) ∧ Chg [] W w') := fun W hW v hv => by
    have h := sameFlows hv (M2.out.row.chg0 (C4.out.trans hW)) (Nat.le_trans (edgesOf_len C) (by omega))
    rw [decide_eq_true rfl] at h
    exact h
  have KS : Hid (∀ W, Chg [] w4 W → W.cell? ⟨xb, 0, none⟩ = some (.int .u8 s) ∧ W.cell? ⟨xb, 1, none⟩ = some (.int .u8 t) ∧ W.cell? ⟨xb, 2, none⟩ = some (.int .i64 want) ∧ W.cell? ⟨mb, 0, none⟩ = some (.slice va (edgesOf C).length vk)) := fun W hW =>
    ⟨(B2.out.chg (C4.out.trans hW) (by simp)).cell 0, (B2.out.chg (C4.out.trans hW) (by simp)).cell 1, (B2.out.chg (C4.out.trans hW) (by simp)).cell 2, (M2.out.chg0 (C4.out.trans hW)).blk.cell 0⟩
  have HCC : Hid (Chg [] w4 w4.drew) := (Chg.refl _ _).drew
  go_wp2_with fail
  refine wp_region_held_drew (S := (fun w' : World => w'.cell? ⟨xb, 0, none⟩ = some (.int .u8 s) ∧ w'.cell? ⟨xb, 1, none⟩ = some (.int .u8 t) ∧ w'.cell? ⟨xb, 2, none⟩ = some (.int .i64 want) ∧ w'.cell? ⟨mb, 0, none⟩ = some (.slice va (edgesOf C).length vk))) (by kernel_rfl) ?_ (fun hHeld => ?_)
  · exact KS.out _ HCC.out
  refine wpAnyH_take (i := 0) (v := ?v712_0_0) rfl (by kernel_rfl) (by kernel_rfl) (by kernel_rfl) (fun _ _ _ h => h) (Or.inl ⟨by rfl, ?hy712_0_0⟩) (by assumption) ?_
  case hy712_0_0 => (intro w hSw; (try dsimp only at hSw); go_simp; try (with_reducible rfl))
  (try simp only [Act.put, List.getElem_toArray, List.getElem_cons_zero, List.setIfInBounds_toArray, List.set_cons_zero, List.set_cons_succ])
  refine wpAnyH_take (i := 1) (v := ?v712_0_1) rfl (by kernel_rfl) (by kernel_rfl) (by kernel_rfl) (fun _ _ _ h => h) (Or.inl ⟨by rfl, ?hy712_0_1⟩) (by assumption) ?_
  case hy712_0_1 => (intro w hSw; (try dsimp only at hSw); go_simp; try (with_reducible rfl))
  (try simp only [Act.put, List.getElem_toArray, List.getElem_cons_zero, List.getElem_cons_succ, List.setIfInBounds_toArray, List.set_cons_zero, List.set_cons_succ])
  refine wpAnyH_ready (rs := [2]) (by kernel_rfl) (by simp) (AllReadyH.cons rfl (fun K hK => ?_) AllReadyH.nil)
  go_simp
  (refine (K2.out _ HCC.out).mono ?_; rintro e w' ⟨rfl, hc⟩; have HCC := Lib.hid (HCC.out.trans hc); clear hc)
  (try go_wp2_with fail)
  refine hK.out _ _ ?_ (fun hHeld => ?_)
  · exact KS.out _ HCC.out
  clear hK K
  (try simp only [Act.put, List.getElem_toArray, List.getElem_cons_zero, List.getElem_cons_succ, List.setIfInBounds_toArray, List.set_cons_zero, List.set_cons_succ])
  refine wpAnyH_take (i := 3) (v := ?v712_0_3) rfl (by kernel_rfl) (by kernel_rfl) (by kernel_rfl) (fun _ _ _ h => h) (Or.inl ⟨by rfl, ?hy712_0_3⟩) (by assumption) ?_
  case hy712_0_3 => (intro w hSw; (try dsimp only at hSw); go_simp; try (with_reducible rfl))
  (try simp only [Act.put, List.getElem_toArray, List.getElem_cons_zero, List.getElem_cons_succ, List.setIfInBounds_toArray, List.set_cons_zero, List.set_cons_succ])
  refine wpAnyH_take (i := 4) (v := ?v712_0_4) rfl (by kernel_rfl) (by kernel_rfl) (by kernel_rfl) (fun _ _ _ h => h) (Or.inl ⟨by rfl, ?hy712_0_4⟩) (by assumption) ?_
  case hy712_0_4 => (intro w hSw; (try dsimp only at hSw); go_simp; try (with_reducible rfl))
  (try simp only [Act.put, List.getElem_toArray, List.getElem_cons_zero, List.getElem_cons_succ, List.setIfInBounds_toArray, List.set_cons_zero, List.set_cons_succ])
  refine wpAnyH_take (i := 5) (v := ?v712_0_5) rfl (by kernel_rfl) (by kernel_rfl) (by kernel_rfl) (fun _ _ _ h => h) (Or.inl ⟨by rfl, ?hy712_0_5⟩) (by assumption) ?_
  case hy712_0_5 => (intro w hSw; (try dsimp only at hSw); go_simp; try (with_reducible rfl))
  (try simp only [Act.put, List.getElem_toArray, List.getElem_cons_zero, List.getElem_cons_succ, List.setIfInBounds_toArray, List.set_cons_zero, List.set_cons_succ])
  refine wpAnyH_take (i := 6) (v := ?v712_0_6) rfl (by kernel_rfl) (by kernel_rfl) (by kernel_rfl) (fun _ _ _ h => h) (Or.inl ⟨by rfl, ?hy712_0_6⟩) (by assumption) ?_
  case hy712_0_6 => (intro w hSw; (try dsimp only at hSw); go_simp; try (with_reducible rfl))
  (try simp only [Act.put, List.getElem_toArray, List.getElem_cons_zero, List.getElem_cons_succ, List.setIfInBounds_toArray, List.set_cons_zero, List.set_cons_succ])
  refine wpAnyH_take (i := 7) (v := ?v712_0_7) rfl (by kernel_rfl) (by kernel_rfl) (by kernel_rfl) (fun _ _ _ h => h) (Or.inl ⟨by rfl, ?hy712_0_7⟩) (by assumption) ?_
  case hy712_0_7 => (intro w hSw; (try dsimp only at hSw); go_simp; try (with_reducible rfl))
  (try simp only [Act.put, List.getElem_toArray, List.getElem_cons_zero, List.getElem_cons_succ, List.setIfInBounds_toArray, List.set_cons_zero, List.set_cons_succ])
  refine wpAnyH_take (i := 8) (v := ?v712_0_8) rfl (by kernel_rfl) (by kernel_rfl) (by kernel_rfl) (fun _ _ _ h => h) (Or.inl ⟨by rfl, ?hy712_0_8⟩) (by assumption) ?_
  case hy712_0_8 => (intro w hSw; (try dsimp only at hSw); go_simp; try (with_reducible rfl))
  (try simp only [Act.put, List.getElem_toArray, List.getElem_cons_zero, List.getElem_cons_succ, List.setIfInBounds_toArray, List.set_cons_zero, List.set_cons_succ])
  refine wpAnyH_take (i := 9) (v := ?v712_0_9) rfl (by kernel_rfl) (by kernel_rfl) (by kernel_rfl) (fun _ _ _ h => h) (Or.inl ⟨by rfl, ?hy712_0_9⟩) (by assumption) ?_
  case hy712_0_9 => (intro w hSw; (try dsimp only at hSw); go_simp; try (with_reducible rfl))
  (try simp only [Act.put, List.getElem_toArray, List.getElem_cons_zero, List.getElem_cons_succ, List.setIfInBounds_toArray, List.set_cons_zero, List.set_cons_succ])
  refine wpAnyH_take (i := 10) (v := ?v712_0_10) rfl (by kernel_rfl) (by kernel_rfl) (by kernel_rfl) (fun _ _ _ h => h) (Or.inl ⟨by rfl, ?hy712_0_10⟩) (by assumption) ?_
  case hy712_0_10 => (intro w hSw; (try dsimp only at hSw); go_simp; try (with_reducible rfl))
  (try simp only [Act.put, List.getElem_toArray, List.getElem_cons_zero, List.getElem_cons_succ, List.setIfInBounds_toArray, List.set_cons_zero, List.set_cons_succ])
  refine wpAnyH_take (i := 11) (v := ?v712_0_11) rfl (by kernel_rfl) (by kernel_rfl) (by kernel_rfl) (fun _ _ _ h => h) (Or.inl ⟨by rfl, ?hy712_0_11⟩) (by assumption) ?_
  case hy712_0_11 => (intro w hSw; (try dsimp only at hSw); go_simp; try (with_reducible rfl))
  (try simp only [Act.put, List.getElem_toArray, List.getElem_cons_zero, List.getElem_cons_succ, List.setIfInBounds_toArray, List.set_cons_zero, List.set_cons_succ])
  refine wpAnyH_take (i := 12) (v := ?v712_0_12) rfl (by kernel_rfl) (by kernel_rfl) (by kernel_rfl) (fun _ _ _ h => h) (Or.inl ⟨by rfl, ?hy712_0_12⟩) (by assumption) ?_
  case hy712_0_12 => (intro w hSw; (try dsimp only at hSw); go_simp; try (with_reducible rfl))
  (try simp only [Act.put, List.getElem_toArray, List.getElem_cons_zero, List.getElem_cons_succ, List.setIfInBounds_toArray, List.set_cons_zero, List.set_cons_succ])
  refine wpAnyH_take (i := 13) (v := ?v712_0_13) rfl (by kernel_rfl) (by kernel_rfl) (by kernel_rfl) (fun _ _ _ h => h) (Or.inl ⟨by rfl, ?hy712_0_13⟩) (by assumption) ?_
  case hy712_0_13 => (intro w hSw; (try dsimp only at hSw); go_simp; try (with_reducible rfl))
  (try simp only [Act.put, List.getElem_toArray, List.getElem_cons_zero, List.getElem_cons_succ, List.setIfInBounds_toArray, List.set_cons_zero, List.set_cons_succ])
  refine wpAnyH_take (i := 14) (v := ?v712_0_14) rfl (by kernel_rfl) (by kernel_rfl) (by kernel_rfl) (fun _ _ _ h => h) (Or.inl ⟨by rfl, ?hy712_0_14⟩) (by assumption) ?_
  case hy712_0_14 => (intro w hSw; (try dsimp only at hSw); go_simp; try (with_reducible rfl))
  (try simp only [Act.put, List.getElem_toArray, List.getElem_cons_zero, List.getElem_cons_succ, List.setIfInBounds_toArray, List.set_cons_zero, List.set_cons_succ])
  refine wpAnyH_take (i := 16) (v := ?v712_0_16) rfl (by kernel_rfl) (by kernel_rfl) (by kernel_rfl) (fun _ _ _ h => h) (Or.inl ⟨by rfl, ?hy712_0_16⟩) (by assumption) ?_
  case hy712_0_16 => (intro w hSw; (try dsimp only at hSw); go_simp; try (with_reducible rfl))
  (try simp only [Act.put, List.getElem_toArray, List.getElem_cons_zero, List.getElem_cons_succ, List.setIfInBounds_toArray, List.set_cons_zero, List.set_cons_succ])
  refine wpAnyH_take (i := 17) (v := ?v712_0_17) rfl (by kernel_rfl) (by kernel_rfl) (by kernel_rfl) (fun _ _ _ h => h) (Or.inl ⟨by rfl, ?hy712_0_17⟩) (by assumption) ?_
  case hy712_0_17 => (intro w hSw; (try dsimp only at hSw); go_simp; try (with_reducible rfl))
  (try simp only [Act.put, List.getElem_toArray, List.getElem_cons_zero, List.getElem_cons_succ, List.setIfInBounds_toArray, List.set_cons_zero, List.set_cons_succ])
  refine wpAnyH_take (i := 18) (v := ?v712_0_18) rfl (by kernel_rfl) (by kernel_rfl) (by kernel_rfl) (fun _ _ _ h => h) (Or.inl ⟨by rfl, ?hy712_0_18⟩) (by assumption) ?_
  case hy712_0_18 => (intro w hSw; (try dsimp only at hSw); go_simp; try (with_reducible rfl))
  (try simp only [Act.put, List.getElem_toArray, List.getElem_cons_zero, List.getElem_cons_succ, List.setIfInBounds_toArray, List.set_cons_zero, List.set_cons_succ])
  refine wpAnyH_take (i := 19) (v := ?v712_0_19) rfl (by kernel_rfl) (by kernel_rfl) (by kernel_rfl) (fun _ _ _ h => h) (Or.inl ⟨by rfl, ?hy712_0_19⟩) (by assumption) ?_
  case hy712_0_19 => (intro w hSw; (try dsimp only at hSw); go_simp; try (with_reducible rfl))
  (try simp only [Act.put, List.getElem_toArray, List.getElem_cons_zero, List.getElem_cons_succ, List.setIfInBounds_toArray, List.set_cons_zero, List.set_cons_succ])
  refine wpAnyH_take (i := 20) (v := ?v712_0_20) rfl (by kernel_rfl) (by kernel_rfl) (by kernel_rfl) (fun _ _ _ h => h) (Or.inl ⟨by rfl, ?hy712_0_20⟩) (by assumption) ?_
  case hy712_0_20 => (intro w hSw; (try dsimp only at hSw); go_simp; try (with_reducible rfl))
  (try simp only [Act.put, List.getElem_toArray, List.getElem_cons_zero, List.getElem_cons_succ, List.setIfInBounds_toArray, List.set_cons_zero, List.set_cons_succ])
  refine wpAnyH_ready (rs := [15]) (by kernel_rfl) (by simp) (AllReadyH.cons rfl (fun K hK => ?_) AllReadyH.nil)
  go_simp
  (refine (K15.out _ HCC.out).mono ?_; rintro e w' ⟨rfl, hc⟩; have HCC := Lib.hid (HCC.out.trans hc); clear hc)
  (try go_wp2_with fail)
  refine hK.out _ _ ?_ (fun hHeld => ?_)
  · exact KS.out _ HCC.out
  clear hK K
  (try simp only [Act.put, List.getElem_toArray, List.getElem_cons_zero, List.getElem_cons_succ, List.setIfInBounds_toArray, List.set_cons_zero, List.set_cons_succ])
  refine wpAnyH_ready (rs := [21]) (by kernel_rfl) (by simp) (AllReadyH.cons rfl (fun K hK => ?_) AllReadyH.nil)
  go_simp
  (refine (K21.out _ HCC.out).mono ?_; rintro e w' ⟨rfl, hc⟩; have HCC := Lib.hid (HCC.out.trans hc); clear hc)
  (try go_wp2_with fail)
  refine hK.out _ _ ?_ (fun hHeld => ?_)
  · exact KS.out _ HCC.out
  clear hK K
  (try simp only [Act.put, List.getElem_toArray, List.getElem_cons_zero, List.getElem_cons_succ, List.setIfInBounds_toArray, List.set_cons_zero, List.set_cons_succ])
  refine wpAnyH_take (i := 22) (v := ?v712_0_22) rfl (by kernel_rfl) (by kernel_rfl) (by kernel_rfl) (fun _ _ _ h => h) (Or.inl ⟨by rfl, ?hy712_0_22⟩) (by assumption) ?_
  case hy712_0_22 => (intro w hSw; (try dsimp only at hSw); go_simp; try (with_reducible rfl))
  (try simp only [Act.put, List.getElem_toArray, List.getElem_cons_zero, List.getElem_cons_succ, List.setIfInBounds_toArray, List.set_cons_zero, List.set_cons_succ])
  refine wpAnyH_take (i := 23) (v := ?v712_0_23) rfl (by kernel_rfl) (by kernel_rfl) (by kernel_rfl) (fun _ _ _ h => h) (Or.inl ⟨by rfl, ?hy712_0_23⟩) (by assumption) ?_
  case hy712_0_23 => (intro w hSw; (try dsimp only at hSw); go_simp; try (with_reducible rfl))
  (try simp only [Act.put, List.getElem_toArray, List.getElem_cons_zero, List.getElem_cons_succ, List.setIfInBounds_toArray, List.set_cons_zero, List.set_cons_succ])
  refine wpAnyH_take (i := 24) (v := ?v712_0_24) rfl (by kernel_rfl) (by kernel_rfl) (by kernel_rfl) (fun _ _ _ h => h) (Or.inl ⟨by rfl, ?hy712_0_24⟩) (by assumption) ?_
  case hy712_0_24 => (intro w hSw; (try dsimp only at hSw); go_simp; try (with_reducible rfl))
  (try simp only [Act.put, List.getElem_toArray, List.getElem_cons_zero, List.getElem_cons_succ, List.setIfInBounds_toArray, List.set_cons_zero, List.set_cons_succ])
  refine wpAnyH_take (i := 25) (v := ?v712_0_25) rfl (by kernel_rfl) (by kernel_rfl) (by kernel_rfl) (fun _ _ _ h => h) (Or.inl ⟨by rfl, ?hy712_0_25⟩) (by assumption) ?_
  case hy712_0_25 => (intro w hSw; (try dsimp only at hSw); go_simp; try (with_reducible rfl))
  (try simp only [Act.put, List.getElem_toArray, List.getElem_cons_zero, List.getElem_cons_succ, List.setIfInBounds_toArray, List.set_cons_zero, List.set_cons_succ])
  refine wpAnyH_take (i := 27) (v := ?v712_0_27) rfl (by kernel_rfl) (by kernel_rfl) (by kernel_rfl) (fun _ _ _ h => h) (Or.inl ⟨by rfl, ?hy712_0_27⟩) (by assumption) ?_
  case hy712_0_27 => (intro w hSw; (try dsimp only at hSw); go_simp; try (with_reducible rfl))
  (try simp only [Act.put, List.getElem_toArray, List.getElem_cons_zero, List.getElem_cons_succ, List.setIfInBounds_toArray, List.set_cons_zero, List.set_cons_succ])
  refine wpAnyH_take (i := 28) (v := ?v712_0_28) rfl (by kernel_rfl) (by kernel_rfl) (by kernel_rfl) (fun _ _ _ h => h) (Or.inl ⟨by rfl, ?hy712_0_28⟩) (by assumption) ?_
  case hy712_0_28 => (intro w hSw; (try dsimp only at hSw); go_simp; try (with_reducible rfl))
  (try simp only [Act.put, List.getElem_toArray, List.getElem_cons_zero, List.getElem_cons_succ, List.setIfInBounds_toArray, List.set_cons_zero, List.set_cons_succ])
  refine wpAnyH_take (i := 29) (v := ?v712_0_29) rfl (by kernel_rfl) (by kernel_rfl) (by kernel_rfl) (fun _ _ _ h => h) (Or.inl ⟨by rfl, ?hy712_0_29⟩) (by assumption) ?_
  case hy712_0_29 => (intro w hSw; (try dsimp only at hSw); go_simp; try (with_reducible rfl))
  (try simp only [Act.put, List.getElem_toArray, List.getElem_cons_zero, List.getElem_cons_succ, List.setIfInBounds_toArray, List.set_cons_zero, List.set_cons_succ])
  refine wpAnyH_take (i := 30) (v := ?v712_0_30) rfl (by kernel_rfl) (by kernel_rfl) (by kernel_rfl) (fun _ _ _ h => h) (Or.inl ⟨by rfl, ?hy712_0_30⟩) (by assumption) ?_
  case hy712_0_30 => (intro w hSw; (try dsimp only at hSw); go_simp; try (with_reducible rfl))
  (try simp only [Act.put, List.getElem_toArray, List.getElem_cons_zero, List.getElem_cons_succ, List.setIfInBounds_toArray, List.set_cons_zero, List.set_cons_succ])
  refine wpAnyH_ready (rs := [26]) (by kernel_rfl) (by simp) (AllReadyH.cons rfl (fun K hK => ?_) AllReadyH.nil)
  go_simp
  (refine (K26.out _ HCC.out).mono ?_; rintro e w' ⟨⟨a3, k3, rfl, hr3⟩, hc⟩; have HCC := Lib.hid (HCC.out.trans hc); have R3 := Lib.hid hr3; clear hc hr3)
  (try go_wp2_with fail)
  refine hK.out _ _ ?_ (fun hHeld => ?_)
  · exact KS.out _ HCC.out
  clear hK K
  (try simp only [Act.put, List.getElem_toArray, List.getElem_cons_zero, List.getElem_cons_succ, List.setIfInBounds_toArray, List.set_cons_zero, List.set_cons_succ])
  refine wpAnyH_ready (rs := [31]) (by kernel_rfl) (by simp) (AllReadyH.cons rfl (fun K hK => ?_) AllReadyH.nil)
  go_simp
  (refine (K31.out _ HCC.out _ R3.out).mono ?_; rintro e w' ⟨rfl, hc⟩; have HCC := Lib.hid (HCC.out.trans hc); clear hc)
  (try go_wp2_with fail)
  refine hK.out _ _ ?_ (fun hHeld => ?_)
  · exact KS.out _ HCC.out
  clear hK K
  (try simp only [Act.put, List.getElem_toArray, List.getElem_cons_zero, List.getElem_cons_succ, List.setIfInBounds_toArray, List.set_cons_zero, List.set_cons_succ])
  refine wpAnyH_take (i := 32) (v := ?v712_0_32) rfl (by kernel_rfl) (by kernel_rfl) (by kernel_rfl) (fun _ _ _ h => h) (Or.inl ⟨by rfl, ?hy712_0_32⟩) (by assumption) ?_
  case hy712_0_32 => (intro w hSw; (try dsimp only at hSw); go_simp; try (with_reducible rfl))
  (try simp only [Act.put, List.getElem_toArray, List.getElem_cons_zero, List.getElem_cons_succ, List.setIfInBounds_toArray, List.set_cons_zero, List.set_cons_succ])
  refine wpAnyH_take (i := 33) (v := ?v712_0_33) rfl (by kernel_rfl) (by kernel_rfl) (by kernel_rfl) (fun _ _ _ h => h) (Or.inl ⟨by rfl, ?hy712_0_33⟩) (by assumption) ?_
  case hy712_0_33 => (intro w hSw; (try dsimp only at hSw); go_simp; try (with_reducible rfl))
  (try simp only [Act.put, List.getElem_toArray, List.getElem_cons_zero, List.getElem_cons_succ, List.setIfInBounds_toArray, List.set_cons_zero, List.set_cons_succ])
  refine wpAnyH_done (by kernel_rfl) ?_ _
  clear hHeld
  obtain ⟨d0, d1, d2, _⟩ := KS.out _ HCC.out
  obtain ⟨W5, hW5⟩ : ∃ W5 : World, W5 = w' := ⟨_, rfl⟩
  rw [← hW5] at d0 d1 d2 HCC ⊢
  clear hW5
  go_wp2_with fail
  refine (froute (w := W5) (C := C) (.inl ⟨b, rfl, ⟨G2.out.blk.chg (C4.out.trans HCC.out) (by simp), G2.out.good⟩⟩) s t HW.out.2).mono ?_
  rintro e w6 ⟨uc, rfl, hu, hC⟩
  rw [← HPS.out.1] at hu
  rw [← HPS.out.2]
  have C6 := Lib.hid (HCC.out.trans hC)
  obtain ⟨pg2, hv2, hr2, hg2, hsh2⟩ := hu.page (by omega) 2
  have hz5 := HCC.out.size
  have HP2 := Lib.hid (And.intro hv2 (And.intro hr2 (And.intro hg2 (And.intro hsh2 (And.intro hz5 hC.size)))))
  have hsl : ∃ a n c, uc = .slice a n c := by
    rcases hsh2 with rfl | ⟨g, n, rfl⟩
    · exact ⟨_, _, _, rfl⟩
    · exact ⟨_, _, _, rfl⟩
  obtain ⟨y1, y2, y3, rfl⟩ := hsl
  clear hv2 hr2 hg2 hsh2 hC hu d0 d1 d2 hz5 K2 K15 K21 K26 K31
  go_wp2_with fail
  obtain ⟨kb, hkb⟩ : ∃ kb : Nat, kb = w6.heap.size := ⟨_, rfl⟩
  have hB7 := Blk.new w6 46 #[.slice none 0 0]
  have hc7 : Chg [] w4 (w6.alloc (.cells #[.slice none 0 0] 46)) := C6.out.alloc _
  have hp7 : pg2.Ready (w6.alloc (.cells #[.slice none 0 0] 46)) := pg2.ready _ _ [] HP2.out.2.1 ((Chg.refl [] w6).alloc _) (by simp)
  have hs7 : (w6.alloc (.cells #[.slice none 0 0] 46)).heap.size = kb + 1 := by rw [World.size_alloc, hkb]
  obtain ⟨W7, hW7⟩ : ∃ W7 : World, W7 = w6.alloc (.cells #[.slice none 0 0] 46) := ⟨_, rfl⟩
  rw [← hkb] at hB7 ⊢
  rw [← hW7] at hB7 hc7 hp7 hs7 ⊢
  have hkb4 : w4.heap.size ≤ kb := by have := C6.out.size; omega
  have hk1 : ∀ g ∈ pg1.gs, g < kb ∧ g < w4.heap.size := fun g hg => by
    have := HP1.out.2.2 g hg
    have := C6.out.size
    omega
  have hk2 : ∀ g ∈ pg2.gs, g < kb ∧ w4.heap.size ≤ g := fun g hg => by
    have := HP2.out.2.2.1 g hg
    have := HP2.out.2.2.2.2.1
    omega
  have hp1 : pg1.Ready W7 := pg1.ready _ _ [] HP1.out.2.1 hc7 (by simp)
  have I7 : Hid (IsBook W7 kb kb (.slice none 0 0) []) := ⟨hB7, World.ownsRow_nil _ _ _ _⟩
  have H7 := Lib.hid (And.intro hc7 (And.intro hp1 (And.intro hp7 (And.intro hk1 (And.intro hk2 hs7)))))
  have F1 := Lib.hid (book_flows I7.out (by simp) (by have := H7.out.2.2.2.2.2; omega) (by simp [Value.ownBlock]) (.slice u1 u2 u3) HSH1.out)
  clear hB7 hc7 hp7 hs7 hk1 hk2 hp1 hW7 hkb C6
  refine F1.out.mono ?_
  rintro e w8 ⟨rfl, bv1, hI8, hc8, hbo8⟩
  have hb8 : ∀ g, bv1.ownBlock = some g → kb + 1 ≤ g ∧ g < w8.heap.size := fun g hg => by
    refine ⟨?_, (hI8.own.lt g hg).2⟩
    rcases hbo8 with h | ⟨g', h, h'⟩
    · rw [h] at hg; simp [Value.ownBlock] at hg
    · rw [h] at hg; cases hg
      have := H7.out.2.2.2.2.2
      omega
  have hp1 : pg1.Ready w8 := pg1.ready _ _ _ H7.out.2.1 hc8 (fun g hg => by have := H7.out.2.2.2.1 g hg; simp [Value.ownBlock]; omega)
  have hp2 : pg2.Ready w8 := pg2.ready _ _ _ H7.out.2.2.1 hc8 (fun g hg => by have := H7.out.2.2.2.2.1 g hg; simp [Value.ownBlock]; omega)
  have hc48 : Chg [] w4 w8 := H7.out.1.fresh hc8 (by
    intro x hx
    simp [Value.ownBlock] at hx
    subst hx
    exact .inr hkb4)
  have H8 := Lib.hid (And.intro hI8 (And.intro hc48 (And.intro hp1 (And.intro hp2 (And.intro hb8 hc8.size)))))
  have F2 := Lib.hid (book_flows H8.out.1 (by simp) (by have := H8.out.1.blk.lt; omega) (by intro g hg; have := H8.out.2.2.2.2.1 g hg; omega) (.slice y1 y2 y3) HP2.out.2.2.2.1)
  clear hI8 hc8 hbo8 hb8 hp1 hp2 hc48 F1
  go_wp2_with fail
  refine F2.out.mono ?_
  rintro e w9 ⟨rfl, bv2, hI9, hc9, hbo9⟩
  have AP : Hid (Calls Try.prog 25 #[.pointer (some ⟨kb, 0, none⟩)] w9 fun e w' => e = .returned (.bool true) ∧ Chg [] w2 w') := by
    obtain ⟨a1, a2, a3, a4, a5, a6⟩ := H7.out
    obtain ⟨b1, b2, b3, b4, b5, b6⟩ := H8.out
    have hc49 : Chg [] w4 w9 := b2.fresh hc9 (by
      intro x hx
      simp at hx
      rcases hx with rfl | hx
      · exact .inr hkb4
      · have := b5 x hx
        exact .inr (by omega))
    have r1 : pg1.Ready w9 := pg1.ready _ _ _ b3 hc9 (fun g hg => by
      have := a4 g hg
      simp
      refine ⟨by omega, fun e => ?_⟩
      have := b5 g e; omega)
    have r2 : pg2.Ready w9 := pg2.ready _ _ _ b4 hc9 (fun g hg => by
      have := a5 g hg
      simp
      refine ⟨by omega, fun e => ?_⟩
      have := b5 g e; omega)
    have hB : IsBook w9 kb kb bv2 ([pg1, pg2].map Page.val) := by
      have e1 := HP1.out.1
      have e2 := HP2.out.1
      simpa [e1, e2] using hI9
    have ho : ∀ g, bv2.ownBlock = some g → kb + 1 ≤ g := by
      intro g hg
      rcases hbo9 with h | ⟨g', h, h'⟩
      · rw [h] at hg; exact (b5 g hg).1
      · rw [h] at hg; cases hg
        have := b1.blk.lt
        omega
    refine (book_apart hB (by simp) ?_ ?_ ?_).mono ?_
    · intro p hp g hg
      simp at hp
      rcases hp with rfl | rfl
      · have := a4 g hg
        refine ⟨by omega, fun e => ?_⟩
        have := ho g e; omega
      · have := a5 g hg
        refine ⟨by omega, fun e => ?_⟩
        have := ho g e; omega
    · simp
      intro g hg hg'
      have := a4 g hg
      have := a5 g hg'
      omega
    · intro p hp
      simp at hp
      rcases hp with rfl | rfl
      · exact r1
      · exact r2
    · rintro e w' ⟨he, hc⟩
      refine ⟨he, (C4.out.trans hc49).fresh hc ?_⟩
      intro x hx
      simp at hx
      rcases hx with hx | hx
      · have := HP1.out.2.2 x hx; exact .inr this.1
      · have := a5 x hx
        have := C4.out.size
        exact .inr (by omega)
  clear hI9 hc9 hbo9 H8 F2
  go_wp2_with fail
  refine AP.out.mono ?_
  rintro e wA ⟨rfl, hC⟩
  have CA := Lib.hid (C2.out.trans hC)
  clear hC AP
  go_wp2_with (go_at_call 27; refine (lives7 _).mono ?_; rintro e w' ⟨rfl, hc⟩)
  go_ret
  exact ⟨rfl, CA.out.trans hc⟩

theorem flowsRoute_walk {w : World} {va : Value} {l : List Fl} (hl : RdFl w va l) {s t : Nat} (_ : s < 256) (_ : t < 256) {want : Int} (hw : -9223372036854775808 ≤ want ∧ want ≤ 9223372036854775807) :
    Calls Try.prog 7 #[va, .agg #[.int .u8 s, .int .u8 t, .int .i64 want]] w fun e w' => e = .returned (.bool true) ∧ Chg [] w w' := by
  by_cases h300 : 300 < l.length
  · exact flowsRoute_long hl s t want h300
  · cases hnew : newG l with
    | none => exact flowsRoute_bad hl s t want hw.2 (by omega) hnew
    | some C => exact flowsRoute_on hl s t hw (by omega) hnew
end Go.Proofs.Ytfpdkeokdojejaa
