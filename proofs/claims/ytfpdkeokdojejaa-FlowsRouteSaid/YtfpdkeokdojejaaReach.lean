/-
  The document's package 6: reach.
-/
import Derived.Test.YtfpdkeokdojejaaPlStep
import Derived.Test.YtfpdkeokdojejaaRef05
import Derived.Test.YtfpdkeokdojejaaHops
namespace Go.Proofs.Ytfpdkeokdojejaa
open Go.RowKit Pl
attribute [local irreducible] hops

def boolsA (b : Nat → Bool) : Array Value := ((List.range 17).map fun i => Value.bool (b i)).toArray
theorem boolsA_size (d : Nat → Bool) : (boolsA d).size = 17 := by simp [boolsA]
theorem boolsA_get (d : Nat → Bool) {i : Nat} (h : i < 17) : (boolsA d)[i]? = some (.bool (d i)) := by simp [boolsA, List.getElem?_map, List.getElem?_range h]
theorem boolsA_set (d : Nat → Bool) {i : Nat} (n : Bool) : (boolsA d).setIfInBounds i (.bool n) = boolsA (upd d i n) := by
  apply Array.ext_getElem?
  intro k
  rw [Array.getElem?_setIfInBounds]
  by_cases hk : k < 17
  · rw [boolsA_get _ hk, boolsA_get _ hk, boolsA_size]
    by_cases e : i = k
    · subst e; simp [hk, upd]
    · rw [if_neg e]; simp [upd, Ne.symm e]
  · rw [Array.getElem?_eq_none (by rw [boolsA_size]; omega), Array.getElem?_eq_none (by rw [boolsA_size]; omega)]
    split
    · rename_i e; subst e; rw [if_neg (by rw [boolsA_size]; exact hk)]
    · rfl
theorem boolsA_one (d : Nat → Bool) : ∀ u ∈ (boolsA d).toList, u.oneCell' = true := by
  intro u hu
  simp [boolsA] at hu
  obtain ⟨k, _, rfl⟩ := hu
  rfl
theorem zero_bools : (Try.prog.info? 77).bind (fun i => i.zero.map Value.cells) = some (boolsA fun _ => false) := by kernel_rfl
theorem size_bools : (Try.prog.info? 77).map (·.size) = some 17 := by kernel_rfl

set_option maxRecDepth 100000 in
set_option maxHeartbeats 2000000 in
theorem rreach {w : World} {mb : Nat} {v : Value} {C : Caps} (h : IsM w mb v C) {f n : Nat} (hf : f ≤ 16) (hn : n ≤ 16) {p q : Int} (hp : p = f) (hq : q = n) :
    Calls Try.prog 59 #[.pointer (some ⟨mb, 0, none⟩), .int .u8 p, .int .i64 q] w fun e w' => e = .returned (.agg (boolsA (reachB C f n))) ∧ Chg [] w w' := by
  subst hp hq
  obtain ⟨ao, cap, rfl⟩ := h.row.shape
  have hlt := h.blk.lt
  have HM := Lib.hid h
  have hlen := edgesOf_len C
  have hf1 : (0 : Int) ≤ (f : Int) := by omega
  have hf2 : (f : Int) < 17 := by omega
  clear h
  have hA := Blk.new (w.alloc (.cells (boolsA fun _ => false) 77)) 77 (boolsA fun _ => false)
  rw [World.size_alloc] at hA
  have hB := (Blk.new w 77 (boolsA fun _ => false)).alloc (.cells (boolsA fun _ => false) 77)
  have cf : ((w.alloc (.cells (boolsA fun _ => false) 77)).alloc (.cells (boolsA fun _ => false) 77)).cell? ⟨w.heap.size + 1, f, none⟩ = some (.bool false) := by rw [hA.cell, boolsA_get _ (by omega)]
  have ff : ((w.alloc (.cells (boolsA fun _ => false) 77)).alloc (.cells (boolsA fun _ => false) 77)).frozen? ⟨w.heap.size + 1, f, none⟩ = false := hA.frozen _
  have HS : Hid (Blk ((w.alloc (.cells (boolsA fun _ => false) 77)).alloc (.cells ((boolsA fun _ => false).setIfInBounds f (.bool true)) 77)) (w.heap.size + 1) 77 (boolsA (reachB C f 0)) ∧
      Blk ((w.alloc (.cells (boolsA fun _ => false) 77)).alloc (.cells ((boolsA fun _ => false).setIfInBounds f (.bool true)) 77)) w.heap.size 77 (boolsA fun _ => false) ∧
      Chg [] w ((w.alloc (.cells (boolsA fun _ => false) 77)).alloc (.cells ((boolsA fun _ => false).setIfInBounds f (.bool true)) 77))) := by
    refine ⟨?_, (Blk.new w _ _).alloc _, ((Chg.refl [] w).alloc _).alloc _⟩
    have := Blk.new (w.alloc (.cells (boolsA fun _ => false) 77)) 77 ((boolsA fun _ => false).setIfInBounds f (.bool true))
    rw [World.size_alloc, boolsA_set] at this
    rw [boolsA_set]
    exact this
  clear hA hB
  go_enter Try.func59, Try.ntmps59
  go_wp2_with (refine wpList_alloc_zero rfl 77 rfl _ zero_bools ?_)
  clear cf ff
  go_loopw [8] (fun i wr => ∃ k : Nat, k ≤ n ∧ i = .int .i64 k ∧ Hid (Blk wr (w.heap.size + 1) 77 (boolsA (reachB C f k)) ∧ Blk wr w.heap.size 77 (boolsA fun _ => false) ∧ Chg [] w wr)) (fun i _ => n - (intOf i).toNat)
  case atStart => exact ⟨0, by omega, rfl, HS.out⟩
  case round =>
    obtain ⟨k, hk, rfl, HI⟩ := hrel
    by_cases hlt : k < n
    · have hk1 : (k : Int) < (n : Int) := by omega
      obtain ⟨h1, h2, h3⟩ := HI.out
      have hN := Blk.new wr 77 (boolsA (reachB C f k))
      have hs2 := h1.lt
      have hszN : (wr.alloc (.cells (boolsA fun _ => false) 77)).setRow wr.heap.size (boolsA (reachB C f k)) = wr.alloc (.cells (boolsA (reachB C f k)) 77) := setRow_new _ _ _ _
      have HZ := Lib.hid hszN
      have b1 : wr.heap[w.heap.size + 1]? = some (.cells (boolsA (reachB C f k)) 77 (0, 0)) := h1
      have b2 : (wr.alloc (.cells (boolsA fun _ => false) 77)).heap[wr.heap.size]? = some (.cells (boolsA fun _ => false) 77 (0, 0)) := Blk.new _ _ _
      clear hszN hN
      go_wp2_with (first
        | (refine wpList_load_row rfl 77 (.tmp 7) rfl (w.heap.size + 1) rfl 77 (boolsA (reachB C f k)) (0, 0) _ b1 Try.underlying77 rfl (by rw [boolsA_size]; exact size_bools) ?_)
        | (refine wpList_alloc_zero rfl 77 rfl _ zero_bools ?_)
        | (refine wpList_store_whole rfl 77 (.tmp 9) (.tmp 18) rfl wr.heap.size rfl (boolsA (reachB C f k)) rfl _ _ b2 (by rw [boolsA_size]; exact size_bools) (by rw [boolsA_size, boolsA_size]) (boolsA_one _) ?_))
      rw [HZ.out]
      have HJ : Hid (Blk (wr.alloc (.cells (boolsA (reachB C f k)) 77)) (w.heap.size + 1) 77 (boolsA (stepB ((edgesOf C).take 0) (reachB C f k) (reachB C f k))) ∧ Blk (wr.alloc (.cells (boolsA (reachB C f k)) 77)) w.heap.size 77 (boolsA fun _ => false) ∧
          Blk (wr.alloc (.cells (boolsA (reachB C f k)) 77)) wr.heap.size 77 (boolsA (reachB C f k)) ∧ Chg [] w (wr.alloc (.cells (boolsA (reachB C f k)) 77))) := ⟨h1.alloc _, h2.alloc _, Blk.new _ _ _, h3.alloc _⟩
      obtain ⟨nb, hnb⟩ : ∃ nb, nb = wr.heap.size := ⟨_, rfl⟩
      rw [← hnb] at HJ ⊢
      obtain ⟨W, hW⟩ : ∃ W, W = wr.alloc (.cells (boolsA (reachB C f k)) 77) := ⟨_, rfl⟩
      rw [← hW] at HJ ⊢
      have hnb2 : w.heap.size + 1 < nb := by omega
      clear hW hnb b1 b2 h1 h2 h3 HZ HI hs2
      obtain ⟨was, hwas⟩ : ∃ was, was = reachB C f k := ⟨_, rfl⟩
      have hnx : Hid (reachB C f (k + 1) = stepB (edgesOf C) was was) := by rw [hwas]; rfl
      rw [← hwas] at HJ ⊢
      clear hwas
      go_loopw [10] (fun i wr => ∃ j : Nat, j ≤ (edgesOf C).length ∧ i = .int .i64 j ∧ Hid (Blk wr (w.heap.size + 1) 77 (boolsA (stepB ((edgesOf C).take j) was was)) ∧ Blk wr w.heap.size 77 (boolsA fun _ => false) ∧ Blk wr nb 77 (boolsA was) ∧ Chg [] w wr)) (fun i _ => (edgesOf C).length - (intOf i).toNat)
      case atStart => exact ⟨0, by omega, rfl, HJ.out⟩
      case round =>
        obtain ⟨j, hj, rfl, HI⟩ := hrel
        obtain ⟨h1, h2, h3, h4⟩ := HI.out
        have m1 : wr.cell? ⟨mb, 0, none⟩ = some (.slice ao (edgesOf C).length cap) := (HM.out.chg0 h4).blk.cell 0
        by_cases hjl : j < (edgesOf C).length
        · have hj1 : (j : Int) < ((edgesOf C).length : Int) := by omega
          rcases (HM.out.chg0 h4).row with ⟨h0, _⟩ | ⟨g, off, cap', he, hcap, hcells⟩
          · rw [h0] at hjl; exact absurd hjl (by simp)
          injection he with he1 he2 he3
          subst he1 he3
          obtain ⟨c0, c1, c2⟩ := hcells j hjl
          have hx := mem_edgesOf.1 (List.getElem_mem hjl)
          have hat : (edgesOf C).take (j + 1) = (edgesOf C).take j ++ [(edgesOf C)[j]] := by rw [List.take_succ_eq_append_getElem hjl]
          have hst : stepB ((edgesOf C).take (j + 1)) was was = if was (edgesOf C)[j].f then upd (stepB ((edgesOf C).take j) was was) (edgesOf C)[j].t true else stepB ((edgesOf C).take j) was was := by rw [hat, stepB_snoc]
          have HST := Lib.hid hst
          generalize (edgesOf C)[j] = x at *
          obtain ⟨xf, xt, xn⟩ := x
          dsimp only at *
          have x1 : (0 : Int) ≤ (xf : Int) := by omega
          have x2 : (xf : Int) < 17 := by omega
          have x3 : (0 : Int) ≤ (xt : Int) := by omega
          have x4 : (xt : Int) < 17 := by omega
          have e1 : wr.cell? ⟨nb, xf, none⟩ = some (.bool (was xf)) := by rw [h3.cell, boolsA_get _ (by omega)]
          have e2 : wr.cell? ⟨w.heap.size + 1, xt, none⟩ = some (.bool (stepB ((edgesOf C).take j) was was xt)) := by rw [h1.cell, boolsA_get _ (by omega)]
          have e3 : wr.frozen? ⟨w.heap.size + 1, xt, none⟩ = false := h1.frozen _
          cases hwf : was xf with
          | false =>
            rw [hwf] at e1
            have HK : Hid (Blk wr (w.heap.size + 1) 77 (boolsA (stepB ((edgesOf C).take (j + 1)) was was))) := by
              show Blk _ _ _ _
              rw [HST.out, hwf]; exact h1
            clear hat hst hwf h1 h2 h3 h4 hcells hcap hx
            go_wp2
            go_roundw
            case rel => exact ⟨j + 1, by omega, by go_num, HK.out, HI.out.2.1, HI.out.2.2.1, HI.out.2.2.2⟩
            case measure => simp [intOf]; omega
          | true =>
            rw [hwf] at e1
            have HK : Hid (Blk (wr.setCell ⟨w.heap.size + 1, xt, none⟩ (.bool true)) (w.heap.size + 1) 77 (boolsA (stepB ((edgesOf C).take (j + 1)) was was)) ∧ Blk (wr.setCell ⟨w.heap.size + 1, xt, none⟩ (.bool true)) w.heap.size 77 (boolsA fun _ => false) ∧ Blk (wr.setCell ⟨w.heap.size + 1, xt, none⟩ (.bool true)) nb 77 (boolsA was) ∧ Chg [] w (wr.setCell ⟨w.heap.size + 1, xt, none⟩ (.bool true))) := by
              refine ⟨?_, h2.far (by dsimp only; omega) _, h3.far (by dsimp only; omega) _, h4.setCell (.inr (by dsimp only; omega)) _⟩
              rw [HST.out, hwf]
              have := h1.set xt (.bool true)
              rw [boolsA_set] at this
              exact this
            clear hat hst hwf h1 h2 h3 h4 hcells hcap hx
            go_wp2
            go_roundw
            case rel => exact ⟨j + 1, by omega, by go_num, HK.out⟩
            case measure => simp [intOf]; omega
        · obtain rfl : j = (edgesOf C).length := by omega
          have HK : Hid (Blk wr (w.heap.size + 1) 77 (boolsA (reachB C f (k + 1))) ∧ Blk wr w.heap.size 77 (boolsA fun _ => false) ∧ Chg [] w wr) := by
            rw [List.take_of_length_le (Nat.le_refl _)] at h1
            exact ⟨by rw [hnx.out]; exact h1, h2, h4⟩
          clear h1 h2 h3 h4 HI hj hjl
          go_wp2
          go_roundw
          case rel => exact ⟨k + 1, by omega, by go_num, HK.out⟩
          case measure => simp [intOf]; omega
    · obtain rfl : k = n := by omega
      obtain ⟨h1, h2, h3⟩ := HI.out
      have b1 : wr.heap[w.heap.size + 1]? = some (.cells (boolsA (reachB C f k)) 77 (0, 0)) := h1
      have b2 : wr.heap[w.heap.size]? = some (.cells (boolsA fun _ => false) 77 (0, 0)) := h2
      have HR : Hid (Blk (wr.setRow w.heap.size (boolsA (reachB C f k))) w.heap.size 77 (boolsA (reachB C f k)) ∧ Chg [] w (wr.setRow w.heap.size (boolsA (reachB C f k)))) := ⟨h2.row _, h3.setRow (.inr (Nat.le_refl _)) _⟩
      clear h1 h2 h3 HI hk hlt
      go_wp2_with (first
        | (refine wpList_load_row rfl 77 (.tmp 7) rfl (w.heap.size + 1) rfl 77 (boolsA (reachB C f k)) (0, 0) _ b1 Try.underlying77 rfl (by rw [boolsA_size]; exact size_bools) ?_)
        | (refine wpList_store_whole rfl 77 (.tmp 6) (.tmp 47) rfl w.heap.size rfl (boolsA (reachB C f k)) rfl _ _ b2 (by rw [boolsA_size]; exact size_bools) (by rw [boolsA_size, boolsA_size]) (boolsA_one _) ?_))
      refine bodyPost_ret (results_cell_row rfl _ _ w.heap.size 77 (boolsA (reachB C f k)) (0, 0) _ rfl HR.out.1 Try.underlying77 rfl (by rw [boolsA_size]; exact size_bools)) rfl ?_
      exact ⟨rfl, HR.out.2⟩
end Go.Proofs.Ytfpdkeokdojejaa
