/-
  Lists of parties: are they the same (package countinghouselaw01)?
-/
import Derived.Test.YtofnaigkfhfhoaaLPos
import Derived.Deep.QuietTactic
import Derived.BigQuiet
import Derived.LoopTactic
namespace Go.Proofs.Ytofnaigkfhfhoaa
open Go.RowKit Pl

/-- A party's cell. -/
def ptCell (p : Nat) : List Value := [.int .u8 p]
abbrev RdPt (w : World) (v : Value) (l : List Nat) : Prop := RdK ptCell 1 w v l

set_option maxRecDepth 100000 in
set_option maxHeartbeats 4000000 in
theorem sameP_cells {w : World} {g off cap g' off' cap' : Nat} {l m : List Nat} (hlen : l.length = m.length) (hm : l.length ≤ 2000000)
    (hc : ∀ W, Chg [] w W → ∀ k (h : k < l.length), W.cell? ⟨g, off + k, none⟩ = some (.int .u8 l[k]))
    (hc' : ∀ W, Chg [] w W → ∀ k (h : k < m.length), W.cell? ⟨g', off' + k, none⟩ = some (.int .u8 m[k])) :
    Calls Try.prog 103 #[.slice (some ⟨g, off, none⟩) l.length cap, .slice (some ⟨g', off', none⟩) l.length cap'] w fun e w' => e = .returned (.bool (decide (l = m))) ∧ Chg [] w w' := by
  have HC := Lib.hid hc
  have HC' := Lib.hid hc'
  clear hc hc'
  go_enter Try.func103, Try.ntmps103
  go_wp2
  go_loopw [5] (fun i wr => ∃ k : Nat, k ≤ l.length ∧ i = .int .i64 k ∧ Chg [] w wr ∧ Hid (l.take k = m.take k)) (fun i _ => l.length - (intOf i).toNat)
  case atStart => exact ⟨0, Nat.zero_le _, rfl, Chg.refl _ _, rfl⟩
  case round =>
    obtain ⟨k, hk, rfl, hchg, hT⟩ := hrel
    by_cases hlt : k < l.length
    · have hlt' : k < m.length := by omega
      have hc := HC.out wr hchg k hlt
      have hc' := HC'.out wr hchg k hlt'
      have hd1 : l.take (k + 1) = l.take k ++ [l[k]] := List.take_succ_eq_append_getElem hlt
      have hd2 : m.take (k + 1) = m.take k ++ [m[k]] := List.take_succ_eq_append_getElem hlt'
      have hne : l[k] ≠ m[k] → l ≠ m := by rintro h rfl; exact h rfl
      generalize l[k] = x at hc hd1 hne
      generalize m[k] = y at hc' hd2 hne
      skip
      skip
      have HD := Lib.hid (And.intro hd1 (And.intro hd2 hne))
      clear hd1 hd2 hne
      by_cases hxy : x = y
      · subst hxy
        skip
        go_wp2
        go_quiet (fail)
        go_wp2
        go_roundw
        case rel => exact ⟨k + 1, by omega, by go_num, hchg.drewN _, by have h1 := HD.out.1; have h2 := HD.out.2.1; have h3 := hT.out; show _ = _; rw [h1, h2, h3]⟩
        case measure => simp [intOf]; omega
      · have hq : ((x : Int) != (y : Int)) = true := by simp; omega
        have hres : Hid (decide (l = m) = false) := decide_eq_false (HD.out.2.2 hxy)
        clear hxy
        go_wp2
        go_quiet (fail)
        go_wp2
        go_ret
        exact ⟨by rw [hres.out]; rfl, hchg.drewN _⟩
    · obtain rfl : k = l.length := by omega
      have hres : Hid (decide (l = m) = true) := decide_eq_true (by have := hT.out; rw [List.take_length, hlen, List.take_length] at this; exact this)
      clear hT hlen
      go_wp2
      go_ret
      exact ⟨by rw [hres.out]; rfl, hchg⟩

theorem sameP_none (ao ao' : Option Addr) (cap cap' : Nat) (w : World) :
    Calls Try.prog 103 #[.slice ao 0 cap, .slice ao' 0 cap'] w fun e w' => e = .returned (.bool true) ∧ Chg [] w w' := by
  go_enter Try.func103, Try.ntmps103
  go_wp2
  refine wp_loop_rounds 1 ?_
  rw [rounds_succ]
  go_wp2
  go_ret
  exact ⟨rfl, Chg.refl _ _⟩

theorem sameP_unlike (ao ao' : Option Addr) (n n' cap cap' : Nat) (h : n ≠ n') (w : World) :
    Calls Try.prog 103 #[.slice ao n cap, .slice ao' n' cap'] w fun e w' => e = .returned (.bool false) ∧ Chg [] w w' := by
  have hd : ((n : Int) != n') = true := by rw [bne_iff_ne]; omega
  go_enter Try.func103, Try.ntmps103
  go_wp2
  go_ret
  exact ⟨rfl, Chg.refl _ _⟩

theorem sameP_at {w : World} {u v : Value} {l m : List Nat} (h : RdK ptCell 1 w u l) (h' : RdK ptCell 1 w v m) (hm : l.length ≤ 2000000) :
    Calls Try.prog 103 #[u, v] w fun e w' => e = .returned (.bool (decide (l = m))) ∧ Chg [] w w' := by
  by_cases hlen : l.length = m.length
  · rcases h with ⟨rfl, ao, cap, rfl, _⟩ | ⟨g, off, cap, rfl, _, hc⟩
    · have : m = [] := List.eq_nil_of_length_eq_zero hlen.symm
      subst this
      obtain ⟨ao', cap', rfl⟩ := h'.shape
      exact sameP_none _ _ _ _ _
    · rcases h' with ⟨rfl, ao, cap', rfl, _⟩ | ⟨g', off', cap', rfl, _, hc'⟩
      · have : l = [] := List.eq_nil_of_length_eq_zero hlen
        subst this
        exact sameP_none _ _ _ _ _
      · rw [← hlen]
        refine sameP_cells hlen hm (fun W c k hk => ?_) (fun W c k hk => ?_)
        · have e : ∀ j u, (ptCell l[k])[j]? = some u → W.cell? ⟨g, off + k * 1 + j, none⟩ = some u := fun j u hu => by
            have h1 := hc k hk j u hu
            exact (c.cell (p := ⟨g, off + k * 1 + j, none⟩) (block_lt_of_cell h1) (by simp)).trans h1
          exact (by simpa using e 0 _ rfl)
        · have e : ∀ j u, (ptCell m[k])[j]? = some u → W.cell? ⟨g', off' + k * 1 + j, none⟩ = some u := fun j u hu => by
            have h1 := hc' k hk j u hu
            exact (c.cell (p := ⟨g', off' + k * 1 + j, none⟩) (block_lt_of_cell h1) (by simp)).trans h1
          exact (by simpa using e 0 _ rfl)
  · obtain ⟨ao, cap, rfl⟩ := h.shape
    obtain ⟨ao', cap', rfl⟩ := h'.shape
    have hne : l ≠ m := by rintro rfl; exact hlen rfl
    rw [decide_eq_false hne]
    exact sameP_unlike _ _ _ _ _ _ hlen _

theorem sameParties_c {w : World} {u v : Value} {l m : List Nat} (h : RdK ptCell 1 w u l) (h' : RdK ptCell 1 w v m) (hm : l.length ≤ 2000000) :
    Calls Try.prog 62 #[u, v] w fun e w' => e = .returned (.bool (decide (l = m))) ∧ Chg [] w w' := by
  have HS := Lib.hid (sameP_at h h' hm)
  clear h h'
  generalize decide (l = m) = b at HS ⊢
  go_enter Try.func62, Try.ntmps62
  go_wp2_with fail
  refine HS.out.mono ?_
  rintro e w' ⟨rfl, hc⟩
  have HC := Lib.hid hc
  clear hc
  go_wp2
  go_ret
  exact ⟨rfl, HC.out⟩
end Go.Proofs.Ytofnaigkfhfhoaa
