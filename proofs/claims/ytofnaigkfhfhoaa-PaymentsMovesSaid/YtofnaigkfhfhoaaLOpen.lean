/-
  The package ledgers: may, New, Open.
-/
import Derived.Test.YtofnaigkfhfhoaaLPush
namespace Go.Proofs.Ytofnaigkfhfhoaa
open Go.RowKit Go.Maps Pl
attribute [local go_sem ↓] Go.wp_at_zero Go.wp_at_succ

theorem lmay_yes (p : Int) (w : World) (h0 : 1 ≤ p) (h1 : p ≤ 16) : Calls Try.prog 100 #[.int .u8 p] w fun e w' => e = .returned (.bool true) ∧ w = w' := by
  go_enter Try.func100, Try.ntmps100
  go_wp2
  go_ret
  have : decide (p ≤ 16) = true := by simpa using h1
  exact ⟨by rw [← this]; rfl, rfl⟩

theorem lmay_no (p : Int) (w : World) (h0 : p < 1 ∨ 16 < p) : Calls Try.prog 100 #[.int .u8 p] w fun e w' => e = .returned (.bool false) ∧ w = w' := by
  rcases h0 with h | h
  · go_enter Try.func100, Try.ntmps100
    go_wp2
    go_ret
    exact ⟨rfl, rfl⟩
  · go_enter Try.func100, Try.ntmps100
    have h1 : 1 ≤ p := by omega
    go_wp2
    go_ret
    have : decide (p ≤ 16) = false := by simpa using h
    exact ⟨by rw [← this]; rfl, rfl⟩
theorem lmay (p : Nat) (w : World) : Calls Try.prog 100 #[.int .u8 p] w fun e w' => e = .returned (.bool (decide (1 ≤ p ∧ p ≤ 16))) ∧ w = w' := by
  by_cases h : 1 ≤ p ∧ p ≤ 16
  · rw [decide_eq_true h]; exact lmay_yes _ _ (by omega) (by omega)
  · rw [decide_eq_false h]; exact lmay_no _ _ (by omega)

/-- May there be a line between these? -/
def endsOk (c d u : Nat) : Bool := decide ((1 ≤ c ∧ c ≤ 16) ∧ (1 ≤ d ∧ d ≤ 16) ∧ c ≠ d ∧ 1 ≤ u ∧ u ≤ 8)

set_option maxHeartbeats 1000000 in
theorem lends (c d u : Nat) (w : World) : Calls Try.prog 90 #[.agg #[.int .u8 c, .int .u8 d, .int .u8 u]] w fun e w' => e = .returned (.bool (endsOk c d u)) ∧ Chg [] w w' := by
  by_cases h1 : 1 ≤ c ∧ c ≤ 16
  · have H1 := Lib.hid (fun W => lmay_yes (c : Int) W (by omega) (by omega))
    by_cases h2 : 1 ≤ d ∧ d ≤ 16
    · have H2 := Lib.hid (fun W => lmay_yes (d : Int) W (by omega) (by omega))
      by_cases h3 : c = d
      · rw [show endsOk c d u = false from decide_eq_false (by omega)]
        subst h3
        go_enter Try.func90, Try.ntmps90
        go_wp2_with fail
        refine (H1.out _).mono ?_; rintro e w' ⟨rfl, rfl⟩
        go_wp2_with fail
        refine (H2.out _).mono ?_; rintro e w' ⟨rfl, rfl⟩
        go_wp2_with fail
        go_ret
        exact ⟨rfl, (Chg.refl _ _).alloc _⟩
      · have hcd : (c : Int) ≠ d := by omega
        by_cases h4 : 1 ≤ u
        · have hu1 : (1 : Int) ≤ u := by omega
          go_enter Try.func90, Try.ntmps90
          go_wp2_with fail
          refine (H1.out _).mono ?_; rintro e w' ⟨rfl, rfl⟩
          go_wp2_with fail
          refine (H2.out _).mono ?_; rintro e w' ⟨rfl, rfl⟩
          go_wp2_with fail
          go_ret
          refine ⟨?_, (Chg.refl _ _).alloc _⟩
          show Ending.returned (.bool (((c : Int) != d) && decide ((u : Int) ≤ 8))) = _
          congr 2
          unfold endsOk
          rw [Bool.eq_iff_iff]
          simp
          omega
        · rw [show endsOk c d u = false from decide_eq_false (by omega)]
          have hu1 : (u : Int) < 1 := by omega
          go_enter Try.func90, Try.ntmps90
          go_wp2_with fail
          refine (H1.out _).mono ?_; rintro e w' ⟨rfl, rfl⟩
          go_wp2_with fail
          refine (H2.out _).mono ?_; rintro e w' ⟨rfl, rfl⟩
          go_wp2_with fail
          go_ret
          exact ⟨rfl, (Chg.refl _ _).alloc _⟩
    · have H2 := Lib.hid (fun W => lmay_no (d : Int) W (by omega))
      rw [show endsOk c d u = false from decide_eq_false (by omega)]
      go_enter Try.func90, Try.ntmps90
      go_wp2_with fail
      refine (H1.out _).mono ?_; rintro e w' ⟨rfl, rfl⟩
      go_wp2_with fail
      refine (H2.out _).mono ?_; rintro e w' ⟨rfl, rfl⟩
      go_wp2_with fail
      go_ret
      exact ⟨rfl, (Chg.refl _ _).alloc _⟩
  · have H1 := Lib.hid (fun W => lmay_no (c : Int) W (by omega))
    rw [show endsOk c d u = false from decide_eq_false (by omega)]
    go_enter Try.func90, Try.ntmps90
    go_wp2_with fail
    refine (H1.out _).mono ?_; rintro e w' ⟨rfl, rfl⟩
    go_wp2_with fail
    go_ret
    exact ⟨rfl, (Chg.refl _ _).alloc _⟩

/-- What opening a party answers; the parties behind it. -/
def lopenE (S : Nat → Bool) (p : Nat) : Int := if 1 ≤ p ∧ p ≤ 16 then if S p then 8 else 0 else 1
def lopenS (S : Nat → Bool) (p : Nat) : Nat → Bool := if lopenE S p = 0 then upd S p true else S
theorem GoodL.open1 {S : Nat → Bool} {L : List Ln} (h : GoodL S L) {p : Nat} (hp : 1 ≤ p ∧ p ≤ 16) : GoodL (upd S p true) L :=
  ⟨h.ends, fun x hx => by
    obtain ⟨h1, h2⟩ := h.open_ x hx
    unfold upd
    constructor <;> split <;> simp_all, h.owed, h.few, fun q hq => by
    unfold upd at hq
    split at hq
    · rw [mem_P16]; omega
    · exact h.pts q hq⟩

set_option maxHeartbeats 1000000 in
theorem lopen {w : World} {lb mb : Nat} {S : Nat → Bool} {L : List Ln} (h : IsL w lb mb S L) {p : Nat} (hp : p < 256) :
    Calls Try.prog 59 #[.pointer (some ⟨lb, 0, none⟩), .int .u8 p] w fun e w' => e = .returned (.int .i64 (lopenE S p)) ∧ IsL w' lb mb (lopenS S p) L ∧ Chg [lb] w w' := by
  have HT := Lib.hid (lthere_yes h.cell)
  have HI := Lib.hid h
  by_cases h1 : 1 ≤ p ∧ p ≤ 16
  · have H1 := Lib.hid (fun W => lmay_yes (p : Int) W (by omega) (by omega))
    have hc : w.cell? ⟨lb, p, none⟩ = some (.bool (S p)) := h.party (by omega)
    have hz : w.frozen? ⟨lb, p, none⟩ = false := h.blk.frozen _
    cases hs : S p with
    | true =>
      have hE : lopenE S p = 8 := by unfold lopenE; rw [if_pos h1, if_pos hs]
      have hS : lopenS S p = S := by unfold lopenS; rw [hE, if_neg (by omega)]
      rw [hE, hS]
      rw [hs] at hc
      have hq : (p : Int) < 17 := by omega
      clear hE hS h hs
      go_enter Try.func59, Try.ntmps59
      go_wp2_with fail
      refine HT.out.mono ?_; rintro e w' ⟨rfl, rfl⟩
      go_wp2_with fail
      refine (H1.out _).mono ?_; rintro e w' ⟨rfl, rfl⟩
      go_wp2_with fail
      go_ret
      exact ⟨rfl, HI.out, Chg.refl _ _⟩
    | false =>
      have hE : lopenE S p = 0 := by unfold lopenE; rw [if_pos h1, if_neg (by rw [hs]; simp)]
      have hS : lopenS S p = upd S p true := by unfold lopenS; rw [hE, if_pos rfl]
      rw [hE, hS]
      rw [hs] at hc
      have hq : (p : Int) < 17 := by omega
      clear hE hS h hs
      go_enter Try.func59, Try.ntmps59
      go_wp2_with fail
      refine HT.out.mono ?_; rintro e w' ⟨rfl, rfl⟩
      go_wp2_with fail
      refine (H1.out _).mono ?_; rintro e w' ⟨rfl, rfl⟩
      go_wp2_with fail
      go_ret
      refine ⟨rfl, ⟨?_, HI.out.map.far HI.out.ne.symm _, HI.out.good.open1 h1⟩, Chg.setCell (Chg.refl _ _) (.inl (by simp)) _⟩
      have := HI.out.blk.set p (.bool true)
      rw [ledC_set _ _ (by omega)] at this
      exact this
  · have H1 := Lib.hid (fun W => lmay_no (p : Int) W (by omega))
    have hE : lopenE S p = 1 := by unfold lopenE; rw [if_neg h1]
    have hS : lopenS S p = S := by unfold lopenS; rw [hE, if_neg (by omega)]
    rw [hE, hS]
    go_enter Try.func59, Try.ntmps59
    go_wp2_with fail
    refine HT.out.mono ?_; rintro e w' ⟨rfl, rfl⟩
    go_wp2_with fail
    refine (H1.out _).mono ?_; rintro e w' ⟨rfl, rfl⟩
    go_wp2_with fail
    go_ret
    exact ⟨rfl, HI.out, Chg.refl _ _⟩

set_option maxHeartbeats 1000000 in
theorem lnew (w : World) : Calls Try.prog 45 #[] w fun e w' => ∃ lb mb, w.heap.size ≤ lb ∧ w.heap.size ≤ mb ∧ e = .returned (.pointer (some ⟨lb, 0, none⟩)) ∧ IsL w' lb mb (fun _ => false) [] ∧ Chg [] w w' := by
  have hmm := @run_makeMap Try.prog
  have hM := MapL.new w
  have hC : Chg [] w (w.alloc (.map #[] 0)) := (Chg.refl _ _).alloc _
  have hz : (w.alloc (.map #[] 0)).heap.size = w.heap.size + 1 := by simp
  obtain ⟨W, hW⟩ : ∃ W, W = w.alloc (.map #[] 0) := ⟨_, rfl⟩
  have HB := Lib.hid (Blk.new W 29 (ledC (fun _ => false) w.heap.size).toArray)
  have HM := Lib.hid hM
  have HC := Lib.hid hC
  have HZ := Lib.hid hz
  clear hM hC hz
  go_enter Try.func45, Try.ntmps45
  go_wp2
  go_ret
  rw [← hW] at HM HC HZ ⊢
  have hz := HZ.out
  refine ⟨W.heap.size, w.heap.size, by omega, by omega, by rw [hz]; rfl, ⟨HB.out, HM.out.alloc _, ⟨by simp, by simp, by simp, by simp, by simp⟩⟩, HC.out.alloc _⟩
end Go.Proofs.Ytofnaigkfhfhoaa
