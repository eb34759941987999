/-
  The law's own example of chapter 7: lives.
-/
import Derived.Test.YtfpdkeokdojejaaRoute2
import Derived.Test.YtfpdkeokdojejaaTwinF
import Derived.Test.YtfpdkeokdojejaaLives5
namespace Go.Proofs.Ytfpdkeokdojejaa
open Go.RowKit Pl

def l7E : List Fl := [⟨1, 2, 3⟩, ⟨2, 4, 2⟩, ⟨1, 3, 2⟩, ⟨3, 4, 9⟩, ⟨2, 3, 5⟩]
def l7C : Caps := set2 (set2 (set2 (set2 (set2 (fun _ _ => 0) 1 2 3) 2 4 2) 1 3 2) 3 4 9) 2 3 5
theorem l7_new : newG l7E = some l7C := by rfl
def l7W : List Fl := [⟨1, 2, 2⟩, ⟨2, 4, 2⟩, ⟨1, 3, 2⟩, ⟨3, 4, 2⟩]
def l7M : List Fl := [⟨1, 2, 2⟩, ⟨2, 4, 2⟩, ⟨1, 3, 2⟩, ⟨3, 4, 2⟩, ⟨1, 2, 1⟩, ⟨2, 3, 1⟩, ⟨3, 4, 1⟩]
theorem l7_a : (route 1 4 (4 : Int).toNat l7C 4).1 = l7W ∧ (route 1 4 (4 : Int).toNat l7C 4).2.1 = 4 := by decide +kernel
theorem l7_b : (route 1 4 (9 : Int).toNat l7C 9).1 = l7M ∧ (route 1 4 (9 : Int).toNat l7C 9).2.1 = 5 := by decide +kernel
theorem l7_c : (route 4 1 (1 : Int).toNat l7C 1).1 = [] ∧ (route 4 1 (1 : Int).toNat l7C 1).2.1 = 0 := by decide +kernel
theorem l7_m : mostF l7C 1 4 = 5 := by unfold mostF; decide +kernel

/-- A row of the call's own reads as its list. -/
theorem rd_owns {w : World} {base : Nat} {v : Value} {l : List Fl} {n : Nat} (h : w.ownsRow base 35 3 v n (flsCells l)) : RdFl w v l := by
  obtain ⟨hl, ⟨rfl, h0⟩ | ⟨g, cap, cs, rfl, hb, hg, hn, hm, hs, ht⟩⟩ := h
  · rw [flsCells_length, h0] at hl
    have : l = [] := List.eq_nil_of_length_eq_zero (by omega)
    subst this
    exact .inl ⟨rfl, none, 0, rfl, fun _ => rfl⟩
  · rw [flsCells_length] at hl
    obtain rfl : n = l.length := by omega
    refine RdFl.of_blk (t := 35) hg hn fun k hkl => ?_
    rw [← ht, List.getElem?_take, if_pos (by omega), Nat.zero_add]
    simp

set_option maxRecDepth 100000 in
set_option maxHeartbeats 4000000 in
theorem lives7 (w : World) : Calls Try.prog 27 #[] w fun e w' => e = .returned (.bool true) ∧ Chg [] w w' := by
  have R0 : RdFl (w.alloc (.cells (flsCells l7E).toArray 35)) (.slice (some ⟨w.heap.size, 0, none⟩) 5 5) l7E := RdFl.of_blk (Blk.new w _ _) (Nat.le_refl _) (fun k _ => by simp)
  have HR := Lib.hid R0
  obtain ⟨i0, q0, q1, q2, q3⟩ := info_parts info_Flow
  have II := Lib.hid (And.intro q0 (And.intro q1 (And.intro q2 q3)))
  clear R0 q0 q1 q2 q3
  go_enter Try.func27, Try.ntmps27
  go_wp2_with fail
  refine (gnew HR.out (by decide)).mono ?_
  intro e w1 hp
  obtain ⟨b, hb, rfl, hG, hC⟩ := NewPost.yes l7_new hp
  have G1 := Lib.hid hG
  have C1 := Lib.hid (((Chg.refl [] w).alloc (.cells (flsCells l7E).toArray 35)).trans hC)
  clear hp hG hC HR hb
  go_wp2_with fail
  refine (froute (.inl ⟨b, rfl, G1.out⟩) 1 4 (want := 4) (by omega)).mono ?_
  rintro e w2 ⟨va, rfl, ha, hC⟩
  rw [l7_a.1] at ha
  rw [l7_a.2]
  have C2 := Lib.hid hC
  have Ra := Lib.hid ha.rd
  clear ha hC
  go_wp2_with fail
  refine (froute (.inl ⟨b, rfl, ⟨G1.out.blk.chg C2.out (by simp), G1.out.good⟩⟩) 1 4 (want := 9) (by omega)).mono ?_
  rintro e w3 ⟨vb, rfl, hb, hC⟩
  rw [l7_b.1] at hb
  rw [l7_b.2]
  have C3 := Lib.hid (C2.out.trans hC)
  have Ra := Lib.hid (Ra.out.chg0 hC)
  have Rb := Lib.hid hb.rd
  clear hb hC C2
  go_wp2_with fail
  refine (froute (.inl ⟨b, rfl, ⟨G1.out.blk.chg C3.out (by simp), G1.out.good⟩⟩) 4 1 (want := 1) (by omega)).mono ?_
  rintro e w4 ⟨vc, rfl, hc, hC⟩
  rw [l7_c.1] at hc
  rw [l7_c.2]
  have C4 := Lib.hid (C3.out.trans hC)
  have Ra := Lib.hid (Ra.out.chg0 hC)
  have Rb := Lib.hid (Rb.out.chg0 hC)
  obtain ⟨ca, cc, rfl⟩ := hc.rd.shape
  clear hc hC C3
  go_wp2_with (at_builtin; refine wpList_append_own _ rfl _ _ 22 rfl (w4.heap.size + 1) 35 i0 _ 3 16 Try.underlying22 II.out.1 II.out.2.1 II.out.2.2.1 II.out.2.2.2 rfl (by decide) _ _ _ rfl (World.ownsRow_nil _ _ _ _) ⟨w4.heap.size, 0, none⟩ 4 4 (flsCells l7W) rfl rfl (cells_new _ (flsCells l7W) _) (flsCells_one _) (le_maxLen (by decide)) (by decide) (by simp) ?_)
  intro v1 w5 ho5 hg5 _
  have X5 : Chg [] (w4.alloc (.cells (flsCells l7W).toArray 35)) w5 := (Chg.refl [] _).grown hg5 (fun k hk => by cases hk)
  have H5 := Lib.hid (And.intro ho5 X5)
  clear ho5 hg5 X5
  go_wp2_with (at_builtin; refine wpList_append_own _ rfl _ _ 22 rfl (w4.heap.size + 1) 35 i0 _ 3 16 Try.underlying22 II.out.1 II.out.2.1 II.out.2.2.1 II.out.2.2.2 rfl (by decide) _ _ _ rfl (H5.out.1.alloc _) ⟨w5.heap.size, 0, none⟩ 3 3 (flsCells [⟨1, 2, 1⟩, ⟨2, 3, 1⟩, ⟨3, 4, 1⟩]) rfl rfl (cells_new _ (flsCells [⟨1, 2, 1⟩, ⟨2, 3, 1⟩, ⟨3, 4, 1⟩]) _) (flsCells_one _) (le_maxLen (by decide)) (by decide) (by have := H5.out.2.size; simp at this ⊢; omega) ?_)
  intro v2 w6 ho6 hg6 _
  have hl6 := H5.out.1.lt
  have X6 : Chg [] (w4.alloc (.cells (flsCells l7W).toArray 35)) w6 := (H5.out.2.alloc _).grown hg6 (fun k hk => .inr (by have := (hl6 k hk).1; simp; omega))
  have C6 : Chg [] w4 w6 := ((Chg.refl [] w4).alloc _).trans X6
  have Rw : Hid (RdFl w6 (.slice (some ⟨w4.heap.size, 0, none⟩) 4 4) l7W) := (RdFl.of_blk (l := l7W) (Blk.new w4 _ _) (Nat.le_refl _) (fun k _ => by simp)).chg0 X6
  have Rm : Hid (RdFl w6 v2 l7M) := rd_owns (l := l7M) ho6
  have Ra := Lib.hid (Ra.out.chg0 C6)
  have Rb := Lib.hid (Rb.out.chg0 C6)
  have C7 := Lib.hid (C4.out.trans C6)
  obtain ⟨xa, xc, rfl⟩ := Rm.out.shape
  clear ho6 hg6 X6 C6 hl6
  go_wp2_with fail
  refine (sameFlows Ra.out Rw.out (by decide)).mono ?_
  rw [decide_eq_true (rfl : l7W = l7W)]
  rintro e w7 ⟨rfl, hC⟩
  have Rm := Lib.hid (Rm.out.chg0 hC)
  have Rb := Lib.hid (Rb.out.chg0 hC)
  have C8 := Lib.hid (C7.out.trans hC)
  clear hC C7 Ra Rw
  go_wp2_with fail
  refine (sameFlows Rb.out Rm.out (by decide)).mono ?_
  rw [decide_eq_true (rfl : l7M = l7M)]
  rintro e w8 ⟨rfl, hC⟩
  have C9 := Lib.hid (C8.out.trans hC)
  clear hC C8 Rb Rm
  go_wp2_with fail
  refine (fmost (.inl ⟨b, rfl, ⟨G1.out.blk.chg C9.out (by simp), G1.out.good⟩⟩) 1 4).mono ?_
  rw [l7_m]
  rintro e w9 ⟨rfl, hC⟩
  have CA := Lib.hid (C9.out.trans hC)
  go_wp2
  go_ret
  exact ⟨rfl, C1.out.trans CA.out⟩
end Go.Proofs.Ytfpdkeokdojejaa
