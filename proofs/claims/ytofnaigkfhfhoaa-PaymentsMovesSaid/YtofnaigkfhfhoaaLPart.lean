/-
  The package ledgers: Parties.
-/
import Derived.Test.YtofnaigkfhfhoaaLForg
import Derived.Test.YtofnaigkfhfhoaaEdges
namespace Go.Proofs.Ytofnaigkfhfhoaa
open Go.RowKit Go.Maps Pl

/-- The parties below n, rising. -/
def ptsOf (S : Nat → Bool) (n : Nat) : List Nat := (List.range n).filter fun p => S p
def ptCells (l : List Nat) : List Value := l.map fun (p : Nat) => .int .u8 (p : Int)
theorem ptsOf_succ (S : Nat → Bool) (n : Nat) : ptsOf S (n + 1) = ptsOf S n ++ if S n then [n] else [] := by
  simp only [ptsOf, List.range_succ, List.filter_append, List.filter_cons, List.filter_nil]
theorem ptsOf_len (S : Nat → Bool) (n : Nat) : (ptsOf S n).length ≤ n := by
  have := List.length_filter_le (fun p => S p) (List.range n)
  simpa [ptsOf] using this

def isA (S : Nat → Bool) : List Value := (List.range 17).map fun i => .bool (S i)
theorem isA_get (S : Nat → Bool) {i : Nat} (h : i < 17) : (isA S).toArray[i]? = some (.bool (S i)) := by simp [isA, List.getElem?_map, List.getElem?_range h]
theorem isA_size (S : Nat → Bool) : (isA S).toArray.size = 17 := by simp [isA]
theorem is_of_led (S : Nat → Bool) (mb : Nat) : (ledC S mb).toArray.extract 0 (0 + 17) = (isA S).toArray := by
  have h : (ledC S mb) = isA S ++ [.map (some mb)] := rfl
  rw [h]
  apply Array.ext_getElem?
  intro k
  by_cases hk : k < 17
  · rw [isA_get S hk, Array.getElem?_extract, if_pos (by simp [isA]; omega)]
    simp [isA, List.getElem?_append, hk]
  · rw [Array.getElem?_eq_none (by simp; omega), Array.getElem?_eq_none (by rw [isA_size]; omega)]
theorem size_is : (Try.prog.info? 26).map (·.size) = some 17 := by kernel_rfl
theorem info_Party : (Try.prog.info? 22).map (fun i => (i.zero, i.size, i.bytes)) = some (some (.int .u8 0), 1, 1) := by kernel_rfl

theorem clip_pts (a : Option Addr) (n cap : Nat) (h : n ≤ cap) (w : World) :
    Calls Try.prog 102 #[.slice a n cap] w fun e w' => e = .returned (.slice a n n) ∧ w = w' := by
  go_enter Try.func102, Try.ntmps102
  go_wp2
  go_ret
  exact ⟨rfl, rfl⟩
theorem clip_ownP {w : World} {base n : Nat} {v : Value} {xs : List Value} (h : w.ownsRow base 22 1 v n xs) :
    Calls Try.prog 102 #[v] w fun e w' => (∃ u, e = .returned u ∧ OwnSl w base 22 1 u n xs) ∧ w = w' := by
  obtain ⟨hl, ⟨rfl, rfl⟩ | ⟨g, cap, cs, rfl, hb, hg, hn, hm, hs, ht⟩⟩ := h
  · exact (clip_pts none 0 0 (Nat.le_refl _) w).mono fun e w' ⟨he, hw⟩ => ⟨⟨_, he, hl, .inl ⟨rfl, rfl⟩⟩, hw⟩
  · exact (clip_pts _ n cap hn w).mono fun e w' ⟨he, hw⟩ => ⟨⟨_, he, hl, .inr ⟨g, cs, rfl, hb, hg, by rw [hs]; exact Nat.mul_le_mul_right 1 hn, ht⟩⟩, hw⟩

set_option maxRecDepth 100000 in
set_option maxHeartbeats 4000000 in
theorem lparties {w : World} {lb mb : Nat} {S : Nat → Bool} {L : List Ln} (h : IsL w lb mb S L) :
    Calls Try.prog 56 #[.pointer (some ⟨lb, 0, none⟩)] w fun e w' =>
      (∃ v, e = .returned v ∧ OwnSl w' w.heap.size 22 1 v (ptsOf S 17).length (ptCells (ptsOf S 17))) ∧ Chg [] w w' := by
  have H1 := Lib.hid (lthere_yes h.cell)
  have hB := h.blk
  have hsz : (ledC S mb).toArray.size = 18 := by simp [ledC]
  have HSZ := Lib.hid hsz
  clear hsz
  obtain ⟨i0, hi, hz0, hz1, hz2⟩ := info_parts info_Party
  have II := Lib.hid (And.intro hi (And.intro hz0 (And.intro hz1 hz2)))
  clear hi hz0 hz1 hz2 h
  go_enter Try.func56, Try.ntmps56
  go_wp2_with fail
  refine H1.out.mono ?_; rintro e w' ⟨rfl, rfl⟩
  go_wp2_with (refine wpList_load_part rfl 26 (.tmp 11) rfl lb 0 17 rfl 29 (ledC S mb).toArray (0, 0) _ hB Try.underlying26 rfl size_is (by rw [HSZ.out]; omega) _ (is_of_led S mb) ?_)
  go_loopw [3, 13] (fun v i wr => ∃ k : Nat, k ≤ 17 ∧ i = .int .i64 k ∧ wr.ownsRow w.heap.size 22 1 v (ptsOf S k).length (ptCells (ptsOf S k)) ∧ Chg [] w wr) (fun _ i _ => 17 - (intOf i).toNat)
  case atStart => exact ⟨0, by omega, rfl, World.ownsRow_nil _ _ _ _, Chg.refl _ _⟩
  case round =>
    obtain ⟨k, hk, rfl, hown, hchg⟩ := hrel
    by_cases hlt : k < 17
    · cases hs : S k with
      | true =>
        have hix : ∀ W, (Instr.index 26 (.agg (isA S).toArray) (.int .i64 (k : Int))).run Try.prog W = .ok (.bool true) W := fun W =>
          run_index_cell (P := Try.prog) (isA S).toArray k .i64 Try.underlying26 Try.underlying4 rfl (by kernel_rfl) hlt _ (by rw [isA_get S hlt, hs]) W
        have hbl := ptsOf_len S k
        have e1 : ptsOf S (k + 1) = ptsOf S k ++ [k] := by rw [ptsOf_succ, hs]; rfl
        have E1 := Lib.hid e1
        have hwr : IntKind.u8.wrap (k : Int) = k := by simp (disch := omega) only [IntWalk.u8_in]
        clear e1
        go_wp2_with (at_builtin; refine wpList_append_own _ rfl _ _ 66 rfl w.heap.size 22 i0 _ 1 1 Try.underlying66 II.out.1 II.out.2.1 II.out.2.2.1 II.out.2.2.2 rfl (by decide) _ _ _ rfl (hown.alloc _) ⟨wr.heap.size, 0, none⟩ 1 1 [.int .u8 (k : Int)] rfl rfl (cells_new _ [.int .u8 (k : Int)] _) (by simp [Value.oneCell']) (le_maxLen (by simp; omega)) (by simp; omega) (by have := hchg.size; simp; omega) ?_)
        intro v' w1 hown' hgrow _
        have hlt1 := hown.lt
        have hc2 := (hchg.alloc (.cells #[.int .u8 (k : Int)] 22)).grown hgrow (fun q hq => .inr (hlt1 q hq).1)
        have R : w1.ownsRow w.heap.size 22 1 v' (ptsOf S (k + 1)).length (ptCells (ptsOf S (k + 1))) := by
          rw [E1.out, List.length_append]
          simpa [ptCells] using hown'
        clear hown hown' hgrow hchg hlt1 hbl E1 hwr
        go_wp2
        go_roundw
        case rel => exact ⟨k + 1, by omega, by go_num, R, hc2⟩
        case measure => simp [intOf]; omega
      | false =>
        have hix : ∀ W, (Instr.index 26 (.agg (isA S).toArray) (.int .i64 (k : Int))).run Try.prog W = .ok (.bool false) W := fun W =>
          run_index_cell (P := Try.prog) (isA S).toArray k .i64 Try.underlying26 Try.underlying4 rfl (by kernel_rfl) hlt _ (by rw [isA_get S hlt, hs]) W
        have e1 : ptsOf S (k + 1) = ptsOf S k := by rw [ptsOf_succ, hs]; simp
        rw [← e1] at hown
        clear e1
        go_wp2
        go_roundw
        case rel => exact ⟨k + 1, by omega, by go_num, hown, hchg⟩
        case measure => simp [intOf]; omega
    · obtain rfl : k = 17 := by omega
      have H2 := Lib.hid (clip_ownP hown)
      have HC := Lib.hid hchg
      clear hown hchg hB
      go_wp2_with fail
      refine H2.out.mono ?_; rintro e w' ⟨⟨u, rfl, hu⟩, rfl⟩
      have HU := Lib.hid hu
      clear hu
      go_wp2
      go_ret
      exact ⟨⟨_, rfl, HU.out⟩, HC.out⟩
end Go.Proofs.Ytofnaigkfhfhoaa
