/-
  Lists of lines: are they the same (package countinghouselaw01)?
-/
import Derived.Test.YtofnaigkfhfhoaaLPos
import Derived.Deep.QuietTactic
import Derived.BigQuiet
import Derived.LoopTactic
namespace Go.Proofs.Ytofnaigkfhfhoaa
open Go.RowKit Pl

theorem etaL (x y : Ln) : x = y ↔ (x.cr : Int) = y.cr ∧ (x.db : Int) = y.db ∧ (x.cu : Int) = y.cu ∧ x.lim = y.lim ∧ x.deb = y.deb := by
  obtain ⟨a0, a1, a2, a3, a4⟩ := x
  obtain ⟨b0, b1, b2, b3, b4⟩ := y
  simp only [Ln.mk.injEq]
  omega
theorem run_neqL (x y : Ln) (w : World) : (binOp .neq 62 (.agg #[.int .u8 x.cr, .int .u8 x.db, .int .u8 x.cu, .int .i64 x.lim, .int .i64 x.deb]) (.agg #[.int .u8 y.cr, .int .u8 y.db, .int .u8 y.cu, .int .i64 y.lim, .int .i64 y.deb])).run Try.prog w = .ok (.bool (decide (x ≠ y))) w := by
  have e : decide (x ≠ y) = !(((x.cr : Int) == y.cr) && (((x.db : Int) == y.db) && (((x.cu : Int) == y.cu) && ((x.lim == y.lim) && (x.deb == y.deb))))) := by
    rw [Bool.eq_iff_iff]
    have := etaL x y
    simp only [decide_eq_true_eq, ne_eq, this, Bool.not_eq_true', Bool.and_eq_false_iff, beq_eq_false_iff_ne]
    omega
  rw [e]
  go_simp
  by_cases h0 : (x.cr : Int) = y.cr <;> by_cases h1 : (x.db : Int) = y.db <;> by_cases h2 : (x.cu : Int) = y.cu <;> by_cases h3 : x.lim = y.lim <;> by_cases h4 : x.deb = y.deb <;> simp [h0, h1, h2, h3, h4]

set_option maxRecDepth 100000 in
set_option maxHeartbeats 4000000 in
theorem sameL_cells {w : World} {g off cap g' off' cap' : Nat} {l m : List Ln} (hlen : l.length = m.length) (hm : l.length ≤ 2000000)
    (hc : ∀ W, Chg [] w W → ∀ k (h : k < l.length), W.cell? ⟨g, off + k * 5, none⟩ = some (.int .u8 l[k].cr) ∧ W.cell? ⟨g, off + k * 5 + 1, none⟩ = some (.int .u8 l[k].db) ∧ W.cell? ⟨g, off + k * 5 + 2, none⟩ = some (.int .u8 l[k].cu) ∧ W.cell? ⟨g, off + k * 5 + 3, none⟩ = some (.int .i64 l[k].lim) ∧ W.cell? ⟨g, off + k * 5 + 4, none⟩ = some (.int .i64 l[k].deb))
    (hc' : ∀ W, Chg [] w W → ∀ k (h : k < m.length), W.cell? ⟨g', off' + k * 5, none⟩ = some (.int .u8 m[k].cr) ∧ W.cell? ⟨g', off' + k * 5 + 1, none⟩ = some (.int .u8 m[k].db) ∧ W.cell? ⟨g', off' + k * 5 + 2, none⟩ = some (.int .u8 m[k].cu) ∧ W.cell? ⟨g', off' + k * 5 + 3, none⟩ = some (.int .i64 m[k].lim) ∧ W.cell? ⟨g', off' + k * 5 + 4, none⟩ = some (.int .i64 m[k].deb)) :
    Calls Try.prog 82 #[.slice (some ⟨g, off, none⟩) l.length cap, .slice (some ⟨g', off', none⟩) l.length cap'] w fun e w' => e = .returned (.bool (decide (l = m))) ∧ Chg [] w w' := by
  have HC := Lib.hid hc
  have HC' := Lib.hid hc'
  clear hc hc'
  go_enter Try.func82, Try.ntmps82
  go_wp2
  go_loopw [5] (fun i wr => ∃ k : Nat, k ≤ l.length ∧ i = .int .i64 k ∧ Chg [] w wr ∧ Hid (l.take k = m.take k)) (fun i _ => l.length - (intOf i).toNat)
  case atStart => exact ⟨0, Nat.zero_le _, rfl, Chg.refl _ _, rfl⟩
  case round =>
    obtain ⟨k, hk, rfl, hchg, hT⟩ := hrel
    by_cases hlt : k < l.length
    · have hlt' : k < m.length := by omega
      have hc := HC.out wr hchg k hlt
      have hc' := HC'.out wr hchg k hlt'
      have hd1 : l.take (k + 1) = l.take k ++ [l[k]] := List.take_succ_eq_append_getElem hlt
      have hd2 : m.take (k + 1) = m.take k ++ [m[k]] := List.take_succ_eq_append_getElem hlt'
      have hne : l[k] ≠ m[k] → l ≠ m := by rintro h rfl; exact h rfl
      generalize l[k] = x at hc hd1 hne
      generalize m[k] = y at hc' hd2 hne
      obtain ⟨q0, q1, q2, q3, q4⟩ := hc
      obtain ⟨r0, r1, r2, r3, r4⟩ := hc'
      have HD := Lib.hid (And.intro hd1 (And.intro hd2 hne))
      clear hd1 hd2 hne
      by_cases hxy : x = y
      · subst hxy
        have hq := fun W => run_neqL x x W
        simp only [ne_eq, not_true_eq_false, decide_false] at hq
        go_wp2
        go_quiet (fail)
        go_wp2
        go_roundw
        case rel => exact ⟨k + 1, by omega, by go_num, hchg.drewN _, by have h1 := HD.out.1; have h2 := HD.out.2.1; have h3 := hT.out; show _ = _; rw [h1, h2, h3]⟩
        case measure => simp [intOf]; omega
      · have hq := fun W => run_neqL x y W
        have hdd : decide (x ≠ y) = true := by simpa using hxy
        simp only [hdd] at hq
        clear hdd
        have hres : Hid (decide (l = m) = false) := decide_eq_false (HD.out.2.2 hxy)
        clear hxy
        go_wp2
        go_quiet (fail)
        go_wp2
        go_ret
        exact ⟨by rw [hres.out]; rfl, hchg.drewN _⟩
    · obtain rfl : k = l.length := by omega
      have hres : Hid (decide (l = m) = true) := decide_eq_true (by have := hT.out; rw [List.take_length, hlen, List.take_length] at this; exact this)
      clear hT hlen
      go_wp2
      go_ret
      exact ⟨by rw [hres.out]; rfl, hchg⟩

theorem sameL_none (ao ao' : Option Addr) (cap cap' : Nat) (w : World) :
    Calls Try.prog 82 #[.slice ao 0 cap, .slice ao' 0 cap'] w fun e w' => e = .returned (.bool true) ∧ Chg [] w w' := by
  go_enter Try.func82, Try.ntmps82
  go_wp2
  refine wp_loop_rounds 1 ?_
  rw [rounds_succ]
  go_wp2
  go_ret
  exact ⟨rfl, Chg.refl _ _⟩

theorem sameL_unlike (ao ao' : Option Addr) (n n' cap cap' : Nat) (h : n ≠ n') (w : World) :
    Calls Try.prog 82 #[.slice ao n cap, .slice ao' n' cap'] w fun e w' => e = .returned (.bool false) ∧ Chg [] w w' := by
  have hd : ((n : Int) != n') = true := by rw [bne_iff_ne]; omega
  go_enter Try.func82, Try.ntmps82
  go_wp2
  go_ret
  exact ⟨rfl, Chg.refl _ _⟩

theorem sameL_at {w : World} {u v : Value} {l m : List Ln} (h : RdK lnCells 5 w u l) (h' : RdK lnCells 5 w v m) (hm : l.length ≤ 2000000) :
    Calls Try.prog 82 #[u, v] w fun e w' => e = .returned (.bool (decide (l = m))) ∧ Chg [] w w' := by
  by_cases hlen : l.length = m.length
  · rcases h with ⟨rfl, ao, cap, rfl, _⟩ | ⟨g, off, cap, rfl, _, hc⟩
    · have : m = [] := List.eq_nil_of_length_eq_zero hlen.symm
      subst this
      obtain ⟨ao', cap', rfl⟩ := h'.shape
      exact sameL_none _ _ _ _ _
    · rcases h' with ⟨rfl, ao, cap', rfl, _⟩ | ⟨g', off', cap', rfl, _, hc'⟩
      · have : l = [] := List.eq_nil_of_length_eq_zero hlen
        subst this
        exact sameL_none _ _ _ _ _
      · rw [← hlen]
        refine sameL_cells hlen hm (fun W c k hk => ?_) (fun W c k hk => ?_)
        · have e : ∀ j u, (lnCells l[k])[j]? = some u → W.cell? ⟨g, off + k * 5 + j, none⟩ = some u := fun j u hu => by
            have h1 := hc k hk j u hu
            exact (c.cell (p := ⟨g, off + k * 5 + j, none⟩) (block_lt_of_cell h1) (by simp)).trans h1
          exact ⟨e 0 _ rfl, e 1 _ rfl, e 2 _ rfl, e 3 _ rfl, e 4 _ rfl⟩
        · have e : ∀ j u, (lnCells m[k])[j]? = some u → W.cell? ⟨g', off' + k * 5 + j, none⟩ = some u := fun j u hu => by
            have h1 := hc' k hk j u hu
            exact (c.cell (p := ⟨g', off' + k * 5 + j, none⟩) (block_lt_of_cell h1) (by simp)).trans h1
          exact ⟨e 0 _ rfl, e 1 _ rfl, e 2 _ rfl, e 3 _ rfl, e 4 _ rfl⟩
  · obtain ⟨ao, cap, rfl⟩ := h.shape
    obtain ⟨ao', cap', rfl⟩ := h'.shape
    have hne : l ≠ m := by rintro rfl; exact hlen rfl
    rw [decide_eq_false hne]
    exact sameL_unlike _ _ _ _ _ _ hlen _

theorem sameLines_c {w : World} {u v : Value} {l m : List Ln} (h : RdK lnCells 5 w u l) (h' : RdK lnCells 5 w v m) (hm : l.length ≤ 2000000) :
    Calls Try.prog 26 #[u, v] w fun e w' => e = .returned (.bool (decide (l = m))) ∧ Chg [] w w' := by
  have HS := Lib.hid (sameL_at h h' hm)
  clear h h'
  generalize decide (l = m) = b at HS ⊢
  go_enter Try.func26, Try.ntmps26
  go_wp2_with fail
  refine HS.out.mono ?_
  rintro e w' ⟨rfl, hc⟩
  have HC := Lib.hid hc
  clear hc
  go_wp2
  go_ret
  exact ⟨rfl, HC.out⟩
end Go.Proofs.Ytofnaigkfhfhoaa
