/-
  The package payments: party, absent, bad, strange, checks, Most.
-/
import Derived.Test.YtofnaigkfhfhoaaRoute2
import Derived.Test.YtofnaigkfhfhoaaLOf
import Derived.Test.YtofnaigkfhfhoaaLCopy
import Derived.Test.YtofnaigkfhfhoaaVoidM
namespace Go.Proofs.Ytofnaigkfhfhoaa
open Go.RowKit Go.Maps Pl
attribute [local go_sem ↓] Go.wp_at_zero Go.wp_at_succ

theorem pparty_yes (p : Int) (w : World) (h0 : 1 ≤ p) (h1 : p ≤ 16) : Calls Try.prog 132 #[.int .u8 p] w fun e w' => e = .returned (.bool true) ∧ w = w' := by
  go_enter Try.func132, Try.ntmps132
  go_wp2
  go_ret
  have : decide (p ≤ 16) = true := by simpa using h1
  exact ⟨by rw [← this]; rfl, rfl⟩
theorem pparty_no (p : Int) (w : World) (h0 : p < 1 ∨ 16 < p) : Calls Try.prog 132 #[.int .u8 p] w fun e w' => e = .returned (.bool false) ∧ w = w' := by
  rcases h0 with h | h
  · go_enter Try.func132, Try.ntmps132
    go_wp2
    go_ret
    exact ⟨rfl, rfl⟩
  · go_enter Try.func132, Try.ntmps132
    have h1 : 1 ≤ p := by omega
    go_wp2
    go_ret
    have : decide (p ≤ 16) = false := by simpa using h
    exact ⟨by rw [← this]; rfl, rfl⟩

/-- A payment that is asked for, as a value. -/
def payV (v : Value) (f t u : Nat) (n : Int) : Value := .agg #[v, .int .u8 f, .int .u8 t, .int .u8 u, .int .i64 n]
/-- May it be asked for at all? -/
def badP (f t u : Nat) (n : Int) : Prop := ¬ ((1 ≤ f ∧ f ≤ 16) ∧ (1 ≤ t ∧ t ≤ 16) ∧ f ≠ t ∧ 1 ≤ u ∧ u ≤ 8 ∧ 1 ≤ n ∧ n ≤ 1099511627776)
instance (f t u : Nat) (n : Int) : Decidable (badP f t u n) := by unfold badP; infer_instance

set_option maxRecDepth 100000 in
set_option maxHeartbeats 4000000 in
theorem pbad {v : Value} {f t u : Nat} {n : Int} (w : World) : Calls Try.prog 109 #[payV v f t u n] w fun e w' => e = .returned (.bool (decide (badP f t u n))) ∧ Chg [] w w' := by
  unfold payV
  by_cases h1 : 1 ≤ f ∧ f ≤ 16
  rotate_left
  · rw [show decide (badP f t u n) = true from decide_eq_true (by unfold badP; omega)]
    go_enter Try.func109, Try.ntmps109
    go_wp2_with fail
    refine (pparty_no _ _ (by omega)).mono ?_; rintro e w' ⟨rfl, rfl⟩
    go_wp2
    go_ret
    exact ⟨rfl, (Chg.refl _ _).alloc _⟩
  by_cases h2 : 1 ≤ t ∧ t ≤ 16
  rotate_left
  · rw [show decide (badP f t u n) = true from decide_eq_true (by unfold badP; omega)]
    go_enter Try.func109, Try.ntmps109
    go_wp2_with fail
    refine (pparty_yes _ _ (by omega) (by omega)).mono ?_; rintro e w' ⟨rfl, rfl⟩
    go_wp2_with fail
    refine (pparty_no _ _ (by omega)).mono ?_; rintro e w' ⟨rfl, rfl⟩
    go_wp2
    go_ret
    exact ⟨rfl, (Chg.refl _ _).alloc _⟩
  by_cases h3 : f = t
  · rw [show decide (badP f t u n) = true from decide_eq_true (by unfold badP; omega)]
    subst h3
    go_enter Try.func109, Try.ntmps109
    go_wp2_with fail
    refine (pparty_yes _ _ (by omega) (by omega)).mono ?_; rintro e w' ⟨rfl, rfl⟩
    go_wp2_with fail
    refine (pparty_yes _ _ (by omega) (by omega)).mono ?_; rintro e w' ⟨rfl, rfl⟩
    go_wp2
    go_ret
    exact ⟨rfl, (Chg.refl _ _).alloc _⟩
  · have k3 : (f : Int) ≠ t := by omega
    have e3 : decide (badP f t u n) = ((((((f : Int) == (t : Int)) || decide ((u : Int) < 1)) || decide ((8 : Int) < u)) || decide (n < 1)) || decide (1099511627776 < n)) := by
      rw [Bool.eq_iff_iff]
      simp [badP]
      omega
    go_enter Try.func109, Try.ntmps109
    go_wp2_with fail
    refine (pparty_yes _ _ (by omega) (by omega)).mono ?_; rintro e w' ⟨rfl, rfl⟩
    go_wp2_with fail
    refine (pparty_yes _ _ (by omega) (by omega)).mono ?_; rintro e w' ⟨rfl, rfl⟩
    go_wp2
    all_goals
      go_ret
      refine ⟨?_, (Chg.refl _ _).alloc _⟩
      first
        | rfl
        | (rw [show decide (badP f t u n) = true from decide_eq_true (by unfold badP; omega)]; rfl)
        | (rw [e3]; rfl)

set_option maxRecDepth 100000 in
set_option maxHeartbeats 1000000 in
theorem pabsent {w : World} {lb mb : Nat} {S : Nat → Bool} {L : List Ln} (h : IsL w lb mb S L) (f t u : Nat) (n : Int) :
    Calls Try.prog 108 #[payV (.pointer (some ⟨lb, 0, none⟩)) f t u n] w fun e w' => e = .returned (.bool false) ∧ Chg [] w w' := by
  unfold payV
  have HC := Lib.hid (fun W (k : Chg [] w W) => lcopy (h.chg0 k))
  have HA := Lib.hid ((Chg.refl [] w).alloc (.cells #[.pointer (some ⟨lb, 0, none⟩), .int .u8 f, .int .u8 t, .int .u8 u, .int .i64 n] 105))
  clear h
  go_enter Try.func108, Try.ntmps108
  go_wp2_with fail
  refine (HC.out _ HA.out).mono ?_; rintro e w' ⟨lb', mb', rfl, _, _, _, hch⟩
  have HZ := Lib.hid hch
  clear hch
  go_wp2
  go_ret
  exact ⟨rfl, HA.out.trans HZ.out⟩
theorem pabsent_void {w : World} {v : Value} (h : VoidLed w v) (f t u : Nat) (n : Int) :
    Calls Try.prog 108 #[payV v f t u n] w fun e w' => e = .returned (.bool true) ∧ Chg [] w w' := by
  unfold payV
  have HA := Lib.hid ((Chg.refl [] w).alloc (.cells #[v, .int .u8 f, .int .u8 t, .int .u8 u, .int .i64 n] 105))
  have HC := Lib.hid (lcopy_void (h.chg HA.out (by simp)))
  clear h
  go_enter Try.func108, Try.ntmps108
  go_wp2_with fail
  refine HC.out.mono ?_; rintro e w' ⟨rfl, hch⟩
  have HZ := Lib.hid hch
  clear hch
  go_wp2
  go_ret
  exact ⟨rfl, HA.out.trans HZ.out⟩

set_option maxRecDepth 100000 in
set_option maxHeartbeats 1000000 in
theorem pstrange {w : World} {lb mb : Nat} {S : Nat → Bool} {L : List Ln} (h : IsL w lb mb S L) {f t : Nat} (hf : f < 256) (ht : t < 256) (u : Nat) (n : Int) :
    Calls Try.prog 110 #[payV (.pointer (some ⟨lb, 0, none⟩)) f t u n] w fun e w' => e = .returned (.bool (!(S f && S t))) ∧ Chg [] w w' := by
  unfold payV
  have HH := Lib.hid (fun W (k : Chg [] w W) (p : Nat) (hp : p < 256) => lhas (h.chg0 k) hp)
  have HA := Lib.hid ((Chg.refl [] w).alloc (.cells #[.pointer (some ⟨lb, 0, none⟩), .int .u8 f, .int .u8 t, .int .u8 u, .int .i64 n] 105))
  have hB := Blk.new w 105 #[.pointer (some ⟨lb, 0, none⟩), .int .u8 f, .int .u8 t, .int .u8 u, .int .i64 n]
  have KS : Hid (∀ W, Chg [] (w.alloc (.cells #[.pointer (some ⟨lb, 0, none⟩), .int .u8 f, .int .u8 t, .int .u8 u, .int .i64 n] 105)) W → W.cell? ⟨w.heap.size, 0, none⟩ = some (.pointer (some ⟨lb, 0, none⟩)) ∧ W.cell? ⟨w.heap.size, 2, none⟩ = some (.int .u8 t)) := Lib.hid fun W k =>
    ⟨(hB.chg k (by simp)).cell 0, (hB.chg k (by simp)).cell 2⟩
  clear h hB
  go_enter Try.func110, Try.ntmps110
  go_wp2_with fail
  refine (HH.out _ HA.out f hf).mono ?_; rintro e w' ⟨rfl, hch⟩
  have HZ := Lib.hid hch
  clear hch
  obtain ⟨x1, x2⟩ := KS.out _ HZ.out
  cases hS : S f with
  | false =>
    go_wp2
    go_ret
    exact ⟨by rw [hS]; rfl, HA.out.trans HZ.out⟩
  | true =>
    go_wp2_with fail
    refine (HH.out _ (HA.out.trans HZ.out) t ht).mono ?_; rintro e w2 ⟨rfl, hch⟩
    have HZ2 := Lib.hid ((HA.out.trans HZ.out).trans hch)
    clear hch x1 x2
    go_wp2
    go_ret
    exact ⟨by rw [hS]; rfl, HZ2.out⟩

/-- Most. -/
theorem pmost {w : World} {lb mb : Nat} {S : Nat → Bool} {L : List Ln} (h : IsL w lb mb S L) (f t : Nat) {u : Nat} (hu : u < 256) :
    Calls Try.prog 17 #[.pointer (some ⟨lb, 0, none⟩), .int .u8 f, .int .u8 t, .int .u8 u] w fun e w' => e = .returned (.int .i64 (mostF (capsL S L u) f t)) ∧ Chg [] w w' := by
  have HG := Lib.hid (gof h hu)
  clear h
  go_enter Try.func17, Try.ntmps17
  go_wp2_with fail
  refine HG.out.mono ?_; rintro e w' ⟨b, _, rfl, hg, hch⟩
  have HM := Lib.hid (fmost (.inl ⟨b, rfl, hg⟩) f t)
  have HZ := Lib.hid hch
  clear hch hg
  go_wp2_with fail
  refine HM.out.mono ?_; rintro e w2 ⟨rfl, hch⟩
  have HZ2 := Lib.hid (HZ.out.trans hch)
  clear hch
  go_wp2
  go_ret
  exact ⟨rfl, HZ2.out⟩
theorem mostF_zero (s t : Nat) : mostF (fun _ _ => 0) s t = 0 := by
  unfold mostF
  rw [route_none (C := fun _ _ => 0) s t _ _ (short_zero s t)]
theorem pmost_void {w : World} {v : Value} (h : VoidLed w v) (f t : Nat) (u : Int) :
    Calls Try.prog 17 #[v, .int .u8 f, .int .u8 t, .int .u8 u] w fun e w' => e = .returned (.int .i64 0) ∧ Chg [] w w' := by
  have HG := Lib.hid (gof_void h u)
  clear h
  go_enter Try.func17, Try.ntmps17
  go_wp2_with fail
  refine HG.out.mono ?_; rintro e w' ⟨b, _, rfl, hg, hch⟩
  have HM := Lib.hid (fmost (.inl ⟨b, rfl, hg⟩) f t)
  rw [mostF_zero] at HM
  have HZ := Lib.hid hch
  clear hch hg
  go_wp2_with fail
  refine HM.out.mono ?_; rintro e w2 ⟨rfl, hch⟩
  have HZ2 := Lib.hid (HZ.out.trans hch)
  clear hch
  go_wp2
  go_ret
  exact ⟨rfl, HZ2.out⟩

/-- The three checks: their functions, and their errors. -/
def chkCells : List Value := [.func (.func 108) #[] #[], .int .i64 2, .func (.func 109) #[] #[], .int .i64 1, .func (.func 110) #[] #[], .int .i64 7]
theorem pchecks (w : World) : Calls Try.prog 68 #[] w fun e w' => e = .returned (.slice (some ⟨w.heap.size, 0, none⟩) 3 3) ∧ (∃ tt, Blk w' w.heap.size tt chkCells.toArray) ∧ Chg [] w w' := by
  go_enter Try.func68, Try.ntmps68
  go_wp2
  go_ret
  exact ⟨rfl, ⟨_, Blk.new _ _ _⟩, (Chg.refl _ _).alloc _⟩
end Go.Proofs.Ytofnaigkfhfhoaa
