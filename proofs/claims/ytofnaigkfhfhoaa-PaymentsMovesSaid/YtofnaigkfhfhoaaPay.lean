/-
  The package payments: party, absent, bad, strange, checks, Most.
  The package payments: Pay.
-/
import Derived.Test.YtofnaigkfhfhoaaRoute2
import Derived.Test.YtofnaigkfhfhoaaLOf
import Derived.Test.YtofnaigkfhfhoaaLCopy
import Derived.Test.YtofnaigkfhfhoaaVoidM
import Derived.Test.YtofnaigkfhfhoaaPlFlow2
import Derived.Test.YtofnaigkfhfhoaaNewB
import Derived.Deep.QuietTactic
import Derived.BigQuiet
import Derived.Laws.EntriesVeiled
namespace Go.Proofs.Ytofnaigkfhfhoaa
open Go.RowKit Go.Maps Pl
attribute [local go_sem ↓] Go.wp_at_zero Go.wp_at_succ

theorem pparty_yes (p : Int) (w : World) (h0 : 1 ≤ p) (h1 : p ≤ 16) : Calls Try.prog 132 #[.int .u8 p] w fun e w' => e = .returned (.bool true) ∧ w = w' := by
  go_enter Try.func132, Try.ntmps132
  go_wp2
  go_ret
  have : decide (p ≤ 16) = true := by simpa using h1
  exact ⟨by rw [← this]; rfl, rfl⟩
theorem pparty_no (p : Int) (w : World) (h0 : p < 1 ∨ 16 < p) : Calls Try.prog 132 #[.int .u8 p] w fun e w' => e = .returned (.bool false) ∧ w = w' := by
  rcases h0 with h | h
  · go_enter Try.func132, Try.ntmps132
    go_wp2
    go_ret
    exact ⟨rfl, rfl⟩
  · go_enter Try.func132, Try.ntmps132
    have h1 : 1 ≤ p := by omega
    go_wp2
    go_ret
    have : decide (p ≤ 16) = false := by simpa using h
    exact ⟨by rw [← this]; rfl, rfl⟩

/-- A payment that is asked for, as a value. -/
def payV (v : Value) (f t u : Nat) (n : Int) : Value := .agg #[v, .int .u8 f, .int .u8 t, .int .u8 u, .int .i64 n]
/-- May it be asked for at all? -/
def badP (f t u : Nat) (n : Int) : Prop := ¬ ((1 ≤ f ∧ f ≤ 16) ∧ (1 ≤ t ∧ t ≤ 16) ∧ f ≠ t ∧ 1 ≤ u ∧ u ≤ 8 ∧ 1 ≤ n ∧ n ≤ 1099511627776)
instance (f t u : Nat) (n : Int) : Decidable (badP f t u n) := by unfold badP; infer_instance

set_option maxRecDepth 100000 in
set_option maxHeartbeats 4000000 in
theorem pbad {v : Value} {f t u : Nat} {n : Int} (w : World) : Calls Try.prog 109 #[payV v f t u n] w fun e w' => e = .returned (.bool (decide (badP f t u n))) ∧ Chg [] w w' := by
  unfold payV
  by_cases h1 : 1 ≤ f ∧ f ≤ 16
  rotate_left
  · rw [show decide (badP f t u n) = true from decide_eq_true (by unfold badP; omega)]
    go_enter Try.func109, Try.ntmps109
    go_wp2_with fail
    refine (pparty_no _ _ (by omega)).mono ?_; rintro e w' ⟨rfl, rfl⟩
    go_wp2
    go_ret
    exact ⟨rfl, (Chg.refl _ _).alloc _⟩
  by_cases h2 : 1 ≤ t ∧ t ≤ 16
  rotate_left
  · rw [show decide (badP f t u n) = true from decide_eq_true (by unfold badP; omega)]
    go_enter Try.func109, Try.ntmps109
    go_wp2_with fail
    refine (pparty_yes _ _ (by omega) (by omega)).mono ?_; rintro e w' ⟨rfl, rfl⟩
    go_wp2_with fail
    refine (pparty_no _ _ (by omega)).mono ?_; rintro e w' ⟨rfl, rfl⟩
    go_wp2
    go_ret
    exact ⟨rfl, (Chg.refl _ _).alloc _⟩
  by_cases h3 : f = t
  · rw [show decide (badP f t u n) = true from decide_eq_true (by unfold badP; omega)]
    subst h3
    go_enter Try.func109, Try.ntmps109
    go_wp2_with fail
    refine (pparty_yes _ _ (by omega) (by omega)).mono ?_; rintro e w' ⟨rfl, rfl⟩
    go_wp2_with fail
    refine (pparty_yes _ _ (by omega) (by omega)).mono ?_; rintro e w' ⟨rfl, rfl⟩
    go_wp2
    go_ret
    exact ⟨rfl, (Chg.refl _ _).alloc _⟩
  · have k3 : (f : Int) ≠ t := by omega
    have e3 : decide (badP f t u n) = ((((((f : Int) == (t : Int)) || decide ((u : Int) < 1)) || decide ((8 : Int) < u)) || decide (n < 1)) || decide (1099511627776 < n)) := by
      rw [Bool.eq_iff_iff]
      simp [badP]
      omega
    go_enter Try.func109, Try.ntmps109
    go_wp2_with fail
    refine (pparty_yes _ _ (by omega) (by omega)).mono ?_; rintro e w' ⟨rfl, rfl⟩
    go_wp2_with fail
    refine (pparty_yes _ _ (by omega) (by omega)).mono ?_; rintro e w' ⟨rfl, rfl⟩
    go_wp2
    all_goals
      go_ret
      refine ⟨?_, (Chg.refl _ _).alloc _⟩
      first
        | rfl
        | (rw [show decide (badP f t u n) = true from decide_eq_true (by unfold badP; omega)]; rfl)
        | (rw [e3]; rfl)

set_option maxRecDepth 100000 in
set_option maxHeartbeats 1000000 in
theorem pabsent {w : World} {lb mb : Nat} {S : Nat → Bool} {L : List Ln} (h : IsL w lb mb S L) (f t u : Nat) (n : Int) :
    Calls Try.prog 108 #[payV (.pointer (some ⟨lb, 0, none⟩)) f t u n] w fun e w' => e = .returned (.bool false) ∧ Chg [] w w' := by
  unfold payV
  have HC := Lib.hid (fun W (k : Chg [] w W) => lcopy (h.chg0 k))
  have HA := Lib.hid ((Chg.refl [] w).alloc (.cells #[.pointer (some ⟨lb, 0, none⟩), .int .u8 f, .int .u8 t, .int .u8 u, .int .i64 n] 105))
  clear h
  go_enter Try.func108, Try.ntmps108
  go_wp2_with fail
  refine (HC.out _ HA.out).mono ?_; rintro e w' ⟨lb', mb', rfl, _, _, _, hch⟩
  have HZ := Lib.hid hch
  clear hch
  go_wp2
  go_ret
  exact ⟨rfl, HA.out.trans HZ.out⟩
theorem pabsent_void {w : World} {v : Value} (h : VoidLed w v) (f t u : Nat) (n : Int) :
    Calls Try.prog 108 #[payV v f t u n] w fun e w' => e = .returned (.bool true) ∧ Chg [] w w' := by
  unfold payV
  have HA := Lib.hid ((Chg.refl [] w).alloc (.cells #[v, .int .u8 f, .int .u8 t, .int .u8 u, .int .i64 n] 105))
  have HC := Lib.hid (lcopy_void (h.chg HA.out (by simp)))
  clear h
  go_enter Try.func108, Try.ntmps108
  go_wp2_with fail
  refine HC.out.mono ?_; rintro e w' ⟨rfl, hch⟩
  have HZ := Lib.hid hch
  clear hch
  go_wp2
  go_ret
  exact ⟨rfl, HA.out.trans HZ.out⟩

set_option maxRecDepth 100000 in
set_option maxHeartbeats 1000000 in
theorem pstrange {w : World} {lb mb : Nat} {S : Nat → Bool} {L : List Ln} (h : IsL w lb mb S L) {f t : Nat} (hf : f < 256) (ht : t < 256) (u : Nat) (n : Int) :
    Calls Try.prog 110 #[payV (.pointer (some ⟨lb, 0, none⟩)) f t u n] w fun e w' => e = .returned (.bool (!(S f && S t))) ∧ Chg [] w w' := by
  unfold payV
  have HH := Lib.hid (fun W (k : Chg [] w W) (p : Nat) (hp : p < 256) => lhas (h.chg0 k) hp)
  have HA := Lib.hid ((Chg.refl [] w).alloc (.cells #[.pointer (some ⟨lb, 0, none⟩), .int .u8 f, .int .u8 t, .int .u8 u, .int .i64 n] 105))
  have hB := Blk.new w 105 #[.pointer (some ⟨lb, 0, none⟩), .int .u8 f, .int .u8 t, .int .u8 u, .int .i64 n]
  have KS : Hid (∀ W, Chg [] (w.alloc (.cells #[.pointer (some ⟨lb, 0, none⟩), .int .u8 f, .int .u8 t, .int .u8 u, .int .i64 n] 105)) W → W.cell? ⟨w.heap.size, 0, none⟩ = some (.pointer (some ⟨lb, 0, none⟩)) ∧ W.cell? ⟨w.heap.size, 2, none⟩ = some (.int .u8 t)) := Lib.hid fun W k =>
    ⟨(hB.chg k (by simp)).cell 0, (hB.chg k (by simp)).cell 2⟩
  clear h hB
  go_enter Try.func110, Try.ntmps110
  go_wp2_with fail
  refine (HH.out _ HA.out f hf).mono ?_; rintro e w' ⟨rfl, hch⟩
  have HZ := Lib.hid hch
  clear hch
  obtain ⟨x1, x2⟩ := KS.out _ HZ.out
  cases hS : S f with
  | false =>
    go_wp2
    go_ret
    exact ⟨by rw [hS]; rfl, HA.out.trans HZ.out⟩
  | true =>
    go_wp2_with fail
    refine (HH.out _ (HA.out.trans HZ.out) t ht).mono ?_; rintro e w2 ⟨rfl, hch⟩
    have HZ2 := Lib.hid ((HA.out.trans HZ.out).trans hch)
    clear hch x1 x2
    go_wp2
    go_ret
    exact ⟨by rw [hS]; rfl, HZ2.out⟩

/-- Most. -/
theorem pmost {w : World} {lb mb : Nat} {S : Nat → Bool} {L : List Ln} (h : IsL w lb mb S L) (f t : Nat) {u : Nat} (hu : u < 256) :
    Calls Try.prog 17 #[.pointer (some ⟨lb, 0, none⟩), .int .u8 f, .int .u8 t, .int .u8 u] w fun e w' => e = .returned (.int .i64 (mostF (capsL S L u) f t)) ∧ Chg [] w w' := by
  have HG := Lib.hid (gof h hu)
  clear h
  go_enter Try.func17, Try.ntmps17
  go_wp2_with fail
  refine HG.out.mono ?_; rintro e w' ⟨b, _, rfl, hg, hch⟩
  have HM := Lib.hid (fmost (.inl ⟨b, rfl, hg⟩) f t)
  have HZ := Lib.hid hch
  clear hch hg
  go_wp2_with fail
  refine HM.out.mono ?_; rintro e w2 ⟨rfl, hch⟩
  have HZ2 := Lib.hid (HZ.out.trans hch)
  clear hch
  go_wp2
  go_ret
  exact ⟨rfl, HZ2.out⟩
theorem mostF_zero (s t : Nat) : mostF (fun _ _ => 0) s t = 0 := by
  unfold mostF
  rw [route_none (C := fun _ _ => 0) s t _ _ (short_zero s t)]
theorem pmost_void {w : World} {v : Value} (h : VoidLed w v) (f t : Nat) (u : Int) :
    Calls Try.prog 17 #[v, .int .u8 f, .int .u8 t, .int .u8 u] w fun e w' => e = .returned (.int .i64 0) ∧ Chg [] w w' := by
  have HG := Lib.hid (gof_void h u)
  clear h
  go_enter Try.func17, Try.ntmps17
  go_wp2_with fail
  refine HG.out.mono ?_; rintro e w' ⟨b, _, rfl, hg, hch⟩
  have HM := Lib.hid (fmost (.inl ⟨b, rfl, hg⟩) f t)
  rw [mostF_zero] at HM
  have HZ := Lib.hid hch
  clear hch hg
  go_wp2_with fail
  refine HM.out.mono ?_; rintro e w2 ⟨rfl, hch⟩
  have HZ2 := Lib.hid (HZ.out.trans hch)
  clear hch
  go_wp2
  go_ret
  exact ⟨rfl, HZ2.out⟩

/-- The three checks: their functions, and their errors. -/
def chkCells : List Value := [.func (.func 108) #[] #[], .int .i64 2, .func (.func 109) #[] #[], .int .i64 1, .func (.func 110) #[] #[], .int .i64 7]
theorem pchecks (w : World) : Calls Try.prog 68 #[] w fun e w' => e = .returned (.slice (some ⟨w.heap.size, 0, none⟩) 3 3) ∧ (∃ tt, Blk w' w.heap.size tt chkCells.toArray) ∧ Chg [] w w' := by
  go_enter Try.func68, Try.ntmps68
  go_wp2
  go_ret
  exact ⟨rfl, ⟨_, Blk.new _ _ _⟩, (Chg.refl _ _).alloc _⟩
end Go.Proofs.Ytofnaigkfhfhoaa
namespace Go.Proofs.Ytofnaigkfhfhoaa
open Go.RowKit Go.Maps Pl
attribute [local go_sem ↓] Go.wp_at_zero Go.wp_at_succ

/-- What lies in memory while the checks are gone through. -/
theorem chk_cells {w w' : World} {tt : TypeId} {g : Nat} (h : Blk w g tt chkCells.toArray) (k : Chg [] w w') :
    w'.cell? ⟨g, 0, none⟩ = some (.func (.func 108) #[] #[]) ∧ w'.cell? ⟨g, 1, none⟩ = some (.int .i64 2) ∧
    w'.cell? ⟨g, 2, none⟩ = some (.func (.func 109) #[] #[]) ∧ w'.cell? ⟨g, 3, none⟩ = some (.int .i64 1) ∧
    w'.cell? ⟨g, 4, none⟩ = some (.func (.func 110) #[] #[]) ∧ w'.cell? ⟨g, 5, none⟩ = some (.int .i64 7) := by
  have h2 := h.chg k (by simp)
  exact ⟨h2.cell 0, h2.cell 1, h2.cell 2, h2.cell 3, h2.cell 4, h2.cell 5⟩

set_option maxRecDepth 100000 in
set_option maxHeartbeats 2000000 in
theorem lpay_void {w : World} {v : Value} (h : VoidLed w v) (f t u : Nat) (n : Int) :
    Calls Try.prog 16 #[v, .int .u8 f, .int .u8 t, .int .u8 u, .int .i64 n] w fun e w' => e = .returned (.tuple #[.int .i64 0, .int .i64 2]) ∧ Chg [] w w' := by
  obtain ⟨ao, rfl⟩ : ∃ ao, v = .pointer ao := by
    rcases h with rfl | ⟨b, rfl, _⟩ <;> exact ⟨_, rfl⟩
  have HV := Lib.hid (fun W (k : Chg [] w W) => pabsent_void (h.chg k (by simp)) f t u n)
  have hP := Blk.new w 105 #[.pointer ao, .int .u8 f, .int .u8 t, .int .u8 u, .int .i64 n]
  have HA := Lib.hid ((Chg.refl [] w).alloc (.cells #[.pointer ao, .int .u8 f, .int .u8 t, .int .u8 u, .int .i64 n] 105))
  obtain ⟨W0, hW0⟩ : ∃ W0, W0 = w.alloc (.cells #[.pointer ao, .int .u8 f, .int .u8 t, .int .u8 u, .int .i64 n] 105) := ⟨_, rfl⟩
  rw [← hW0] at hP HA
  have HP : Hid (∀ W, Chg [] W0 W → W.cell? ⟨w.heap.size, 0, none⟩ = some (.pointer ao) ∧ W.cell? ⟨w.heap.size, 1, none⟩ = some (.int .u8 f) ∧ W.cell? ⟨w.heap.size, 2, none⟩ = some (.int .u8 t) ∧ W.cell? ⟨w.heap.size, 3, none⟩ = some (.int .u8 u) ∧ W.cell? ⟨w.heap.size, 4, none⟩ = some (.int .i64 n)) := Lib.hid fun W k =>
    ⟨(hP.chg k (by simp)).cell 0, (hP.chg k (by simp)).cell 1, (hP.chg k (by simp)).cell 2, (hP.chg k (by simp)).cell 3, (hP.chg k (by simp)).cell 4⟩
  clear h hP
  unfold payV at HV
  go_enter Try.func16, Try.ntmps16
  go_wp2_with fail
  rw [← hW0]
  clear hW0
  refine (pchecks _).mono ?_; rintro e w1 ⟨rfl, ⟨tt, hb⟩, hc⟩
  have HC := Lib.hid hc
  have HB := Lib.hid hb
  clear hc hb
  obtain ⟨g, hg⟩ : ∃ g, g = W0.heap.size := ⟨_, rfl⟩
  rw [← hg] at HB ⊢
  clear hg
  go_wp2
  refine wp_loop_rounds 1 ?_
  rw [rounds_succ]
  obtain ⟨x0, x1, _⟩ := chk_cells HB.out (Chg.refl _ _)
  obtain ⟨y0, y1, y2, y3, y4⟩ := HP.out _ HC.out
  have z1 : w.heap.size < w1.heap.size := block_lt_of_cell y0
  have z2 : g < w1.heap.size := block_lt_of_cell x0
  go_wp2_with fail
  have HD := Lib.hid ((HA.out.trans HC.out).alloc (.cells #[.func (.func 108) #[] #[], .int .i64 2] 110))
  have hbx := Blk.new w1 110 #[.func (.func 108) #[] #[], .int .i64 2]
  have HX : Hid (∀ W, Chg [] (w1.alloc (.cells #[.func (.func 108) #[] #[], .int .i64 2] 110)) W → W.cell? ⟨w1.heap.size, 1, none⟩ = some (.int .i64 2)) := Lib.hid fun W k => (hbx.chg k (by simp)).cell 1
  clear hbx x0 x1 y0 y1 y2 y3 y4
  refine (HV.out _ HD.out).mono ?_; rintro e w2 ⟨rfl, hc⟩
  have HE := Lib.hid hc
  clear hc
  have x5 := HX.out _ HE.out
  go_wp2_with fail
  go_quiet (fail)
  go_wp2
  go_ret2
  exact ⟨rfl, (HD.out.trans HE.out).drewN _⟩

theorem own_fls {w : World} {base : Nat} {t : TypeId} {v : Value} {ps : List Fl} (h : OwnSl w base t 3 v ps.length (flsCells ps)) :
    ∃ ao cap, v = .slice ao ps.length cap ∧ ∀ k (hk : k < ps.length), ∃ g, ao = some ⟨g, 0, none⟩ ∧ base ≤ g ∧
      w.cell? ⟨g, k * 3, none⟩ = some (.int .u8 ps[k].f) ∧ w.cell? ⟨g, k * 3 + 1, none⟩ = some (.int .u8 ps[k].t) ∧ w.cell? ⟨g, k * 3 + 2, none⟩ = some (.int .i64 ps[k].n) := by
  obtain ⟨hl, ⟨rfl, h0⟩ | ⟨g, cs, rfl, hb, hk, hs, ht⟩⟩ := h
  · exact ⟨none, 0, by rw [h0], fun k hk => by omega⟩
  · refine ⟨_, _, rfl, fun k hkl => ⟨g, rfl, hb, ?_⟩⟩
    have e : ∀ j u, (flsCells ps)[j]? = some u → j < ps.length * 3 → w.cell? ⟨g, j, none⟩ = some u := fun j u hu hj => by
      have hk' : Blk w g _ cs := hk
      rw [← ht, List.getElem?_take, if_pos hj] at hu
      rw [hk'.cell]
      simpa using hu
    obtain ⟨h1, h2, h3⟩ := flsCells_get ps k hkl
    exact ⟨e _ _ h1 (by omega), e _ _ h2 (by omega), e _ _ h3 (by omega)⟩

/-- What Pay answers. -/
def payG (S : Nat → Bool) (L : List Ln) (f t u : Nat) (n : Int) : Int := (route f t n.toNat (capsL S L u) n).2.1
def payR (S : Nat → Bool) (L : List Ln) (f t u : Nat) (n : Int) : List Fl := (route f t n.toNat (capsL S L u) n).1
def payE (S : Nat → Bool) (L : List Ln) (f t u : Nat) (n : Int) : Int := if badP f t u n then 1 else if (S f && S t) = false then 7 else if payG S L f t u n < n then 11 else 0
def pushLs (L : List Ln) (u : Nat) (ps : List Fl) : List Ln := ps.foldl (fun L x => lpushL L x.f x.t u x.n) L
def payN (S : Nat → Bool) (L : List Ln) (f t u : Nat) (n : Int) : Int := if payE S L f t u n = 0 then ((payR S L f t u n).length : Int) else 0
def payL (S : Nat → Bool) (L : List Ln) (f t u : Nat) (n : Int) : List Ln := if payE S L f t u n = 0 then pushLs L u (payR S L f t u n) else L
theorem pushLs_take (L : List Ln) (u : Nat) {ps : List Fl} {k : Nat} (h : k < ps.length) : pushLs L u (ps.take (k + 1)) = lpushL (pushLs L u (ps.take k)) ps[k].f ps[k].t u ps[k].n := by
  unfold pushLs
  rw [List.take_succ_eq_append_getElem h, List.foldl_append]
  rfl
theorem not_bad {f t u : Nat} {n : Int} (h : ¬ badP f t u n) : (1 ≤ f ∧ f ≤ 16) ∧ (1 ≤ t ∧ t ≤ 16) ∧ f ≠ t ∧ 1 ≤ u ∧ u ≤ 8 ∧ 1 ≤ n ∧ n ≤ 1099511627776 := Classical.byContradiction h
theorem pay_valid {S : Nat → Bool} {L : List Ln} {u : Nat} {f t : Nat} {n : Int} (hn : 1 ≤ n) : Valid (capsL S L u) (payR S L f t u n) :=
  (routed f t n.toNat (capsL S L u) n (by omega)).valid

set_option maxRecDepth 100000 in
set_option maxHeartbeats 8000000 in
theorem lpay {w : World} {lb mb : Nat} {S : Nat → Bool} {L : List Ln} (h : IsL w lb mb S L) {f t u : Nat} (hf : f < 256) (ht : t < 256) (hu : u < 256) {n : Int} (hn : n ≤ 9223372036854775807) :
    Calls Try.prog 16 #[.pointer (some ⟨lb, 0, none⟩), .int .u8 f, .int .u8 t, .int .u8 u, .int .i64 n] w fun e w' => e = .returned (.tuple #[.int .i64 (payN S L f t u n), .int .i64 (payE S L f t u n)]) ∧ IsL w' lb mb S (payL S L f t u n) ∧ Chg [mb] w w' := by
  have HI := Lib.hid h
  have H1 := Lib.hid (fun W (k : Chg [] w W) => pabsent (h.chg0 k) f t u n)
  have H2 := Lib.hid (fun W => pbad (v := .pointer (some ⟨lb, 0, none⟩)) (f := f) (t := t) (u := u) (n := n) W)
  have H3 := Lib.hid (fun W (k : Chg [] w W) => pstrange (h.chg0 k) hf ht u n)
  have H4 := Lib.hid (fun W (k : Chg [] w W) => gof (h.chg0 k) hu)
  have HMB : Hid (mb < w.heap.size) := Lib.hid (by
    obtain ⟨D, ⟨es, clock, hb, _⟩, _⟩ := h.map.owns
    exact (Array.getElem?_eq_some_iff.1 hb).1)
  have HG := Lib.hid (capsL_good h.good h.map.small u)
  have hP := Blk.new w 105 #[.pointer (some ⟨lb, 0, none⟩), .int .u8 f, .int .u8 t, .int .u8 u, .int .i64 n]
  have HA := Lib.hid ((Chg.refl [] w).alloc (.cells #[.pointer (some ⟨lb, 0, none⟩), .int .u8 f, .int .u8 t, .int .u8 u, .int .i64 n] 105))
  obtain ⟨W0, hW0⟩ : ∃ W0, W0 = w.alloc (.cells #[.pointer (some ⟨lb, 0, none⟩), .int .u8 f, .int .u8 t, .int .u8 u, .int .i64 n] 105) := ⟨_, rfl⟩
  rw [← hW0] at hP HA
  have HP : Hid (∀ W, Chg [] W0 W → W.cell? ⟨w.heap.size, 0, none⟩ = some (.pointer (some ⟨lb, 0, none⟩)) ∧ W.cell? ⟨w.heap.size, 1, none⟩ = some (.int .u8 f) ∧ W.cell? ⟨w.heap.size, 2, none⟩ = some (.int .u8 t) ∧ W.cell? ⟨w.heap.size, 3, none⟩ = some (.int .u8 u) ∧ W.cell? ⟨w.heap.size, 4, none⟩ = some (.int .i64 n)) := Lib.hid fun W k =>
    ⟨(hP.chg k (by simp)).cell 0, (hP.chg k (by simp)).cell 1, (hP.chg k (by simp)).cell 2, (hP.chg k (by simp)).cell 3, (hP.chg k (by simp)).cell 4⟩
  clear h hP
  unfold payV at H1 H2 H3
  go_enter Try.func16, Try.ntmps16
  go_wp2_with fail
  rw [← hW0]
  clear hW0
  refine (pchecks _).mono ?_; rintro e w1 ⟨rfl, ⟨tt, hb⟩, hc⟩
  have HC := Lib.hid (HA.out.trans hc)
  have KF : Hid (∀ W, Chg [] w1 W → (W.cell? ⟨w.heap.size, 0, none⟩ = some (.pointer (some ⟨lb, 0, none⟩)) ∧ W.cell? ⟨w.heap.size, 1, none⟩ = some (.int .u8 f) ∧ W.cell? ⟨w.heap.size, 2, none⟩ = some (.int .u8 t) ∧ W.cell? ⟨w.heap.size, 3, none⟩ = some (.int .u8 u) ∧ W.cell? ⟨w.heap.size, 4, none⟩ = some (.int .i64 n)) ∧ w.heap.size < W.heap.size) := Lib.hid fun W k => ⟨HP.out W (hc.trans k), block_lt_of_cell (HP.out W (hc.trans k)).1⟩
  obtain ⟨g, hg⟩ : ∃ g, g = W0.heap.size := ⟨_, rfl⟩
  rw [← hg] at hb ⊢
  clear hg
  have KB := Lib.hid (fun W (k : Chg [] w1 W) => And.intro (chk_cells hb k) (block_lt_of_cell (chk_cells hb k).1))
  clear hc hb HA
  go_wp2
  refine wp_loop_rounds 4 ?_
  rw [rounds_succ]
  obtain ⟨⟨x0, x1, x2, x3, x4, x5⟩, z2⟩ := KB.out w1 (Chg.refl _ _)
  obtain ⟨⟨y0, y1, y2, y3, y4⟩, z1⟩ := KF.out w1 (Chg.refl _ _)
  go_wp2_with fail
  have HD := Lib.hid ((Chg.refl [] w1).alloc (.cells #[.func (.func 108) #[] #[], .int .i64 2] 110))
  clear x0 x1 x2 x3 x4 x5 y0 y1 y2 y3 y4 z1 z2
  refine (H1.out _ (HC.out.trans HD.out)).mono ?_; rintro e w2 ⟨rfl, hc⟩
  have HK := Lib.hid (HD.out.trans hc)
  clear hc HD
  go_wp2
  rw [rounds_succ]
  obtain ⟨⟨x0, x1, x2, x3, x4, x5⟩, z2⟩ := KB.out w2 HK.out
  obtain ⟨⟨y0, y1, y2, y3, y4⟩, z1⟩ := KF.out w2 HK.out
  go_wp2_with fail
  have HD := Lib.hid (HK.out.alloc (.cells #[.func (.func 109) #[] #[], .int .i64 1] 110))
  have hbx := Blk.new w2 110 #[.func (.func 109) #[] #[], .int .i64 1]
  have HX : Hid (∀ W, Chg [] (w2.alloc (.cells #[.func (.func 109) #[] #[], .int .i64 1] 110)) W → W.cell? ⟨w2.heap.size, 1, none⟩ = some (.int .i64 1)) := Lib.hid fun W k => (hbx.chg k (by simp)).cell 1
  clear x0 x1 x2 x3 x4 x5 y0 y1 y2 y3 y4 z1 z2 hbx
  refine (H2.out _).mono ?_; rintro e w3 ⟨rfl, hc⟩
  have x1 := HX.out _ hc
  have HK3 := Lib.hid (HD.out.trans hc)
  clear hc HD HX
  by_cases hbad : badP f t u n
  · have hE : payE S L f t u n = 1 := by unfold payE; rw [if_pos hbad]
    have HL : Hid (payL S L f t u n = L ∧ payN S L f t u n = 0) := Lib.hid (by unfold payL payN; rw [hE]; exact ⟨rfl, rfl⟩)
    rw [decide_eq_true hbad]
    go_wp2_with fail
    go_quiet (fail)
    go_wp2
    go_ret2
    exact ⟨by rw [hE, HL.out.2]; rfl, by rw [HL.out.1]; exact HI.out.chg0 ((HC.out.trans HK3.out).drewN _), ((HC.out.trans HK3.out).drewN _).mono (by simp)⟩
  have HB := Lib.hid (not_bad hbad)
  rw [decide_eq_false hbad]
  clear x1
  go_wp2
  rw [rounds_succ]
  obtain ⟨⟨x0, x1, x2, x3, x4, x5⟩, z2⟩ := KB.out w3 HK3.out
  obtain ⟨⟨y0, y1, y2, y3, y4⟩, z1⟩ := KF.out w3 HK3.out
  go_wp2_with fail
  have HD := Lib.hid (HK3.out.alloc (.cells #[.func (.func 110) #[] #[], .int .i64 7] 110))
  have hbx := Blk.new w3 110 #[.func (.func 110) #[] #[], .int .i64 7]
  have HX : Hid (∀ W, Chg [] (w3.alloc (.cells #[.func (.func 110) #[] #[], .int .i64 7] 110)) W → W.cell? ⟨w3.heap.size, 1, none⟩ = some (.int .i64 7)) := Lib.hid fun W k => (hbx.chg k (by simp)).cell 1
  clear x0 x1 x2 x3 x4 x5 y0 y1 y2 y3 y4 z1 z2 hbx
  refine (H3.out _ (HC.out.trans HD.out)).mono ?_; rintro e w4 ⟨rfl, hc⟩
  have x1 := HX.out _ hc
  have HK4 := Lib.hid (HD.out.trans hc)
  clear hc HD HX
  cases hst : (S f && S t) with
  | false =>
    have hE : payE S L f t u n = 7 := by unfold payE; rw [if_neg hbad, if_pos hst]
    have HL : Hid (payL S L f t u n = L ∧ payN S L f t u n = 0) := Lib.hid (by unfold payL payN; rw [hE]; exact ⟨rfl, rfl⟩)
    clear hst hbad
    go_wp2_with fail
    go_quiet (fail)
    go_wp2
    go_ret2
    exact ⟨by rw [hE, HL.out.2]; rfl, by rw [HL.out.1]; exact HI.out.chg0 ((HC.out.trans HK4.out).drewN _), ((HC.out.trans HK4.out).drewN _).mono (by simp)⟩
  | true =>
  have HE : Hid (payE S L f t u n = if payG S L f t u n < n then 11 else 0) := Lib.hid (by unfold payE; rw [if_neg hbad, if_neg (by rw [hst]; decide)])
  clear x1 hst hbad
  go_wp2
  rw [rounds_succ]
  go_wp2_with fail
  refine (H4.out _ (HC.out.trans HK4.out)).mono ?_; rintro e w5 ⟨b, _, rfl, hg, hc⟩
  have HR := Lib.hid (froute (.inl ⟨b, rfl, hg⟩) f t hn)
  have HC5 := Lib.hid ((HC.out.trans HK4.out).trans hc)
  clear hg hc
  go_wp2_with fail
  refine HR.out.mono ?_; rintro e w6 ⟨v, rfl, hown, hc⟩
  have HC6 := Lib.hid (HC5.out.trans hc)
  have hsz5 : w.heap.size ≤ w5.heap.size := HC5.out.size
  clear hc
  obtain ⟨ao, cap, rfl, hcell⟩ := own_fls hown
  have HF := Lib.hid hcell
  have HLEN := Lib.hid (route_len HG.out f t (w := n))
  have HV := Lib.hid (pay_valid (S := S) (L := L) (u := u) (f := f) (t := t) HB.out.2.2.2.2.2.1)
  clear hown hcell HR H1 H2 H3 H4 HP KF KB HK HK3 HK4 HC HC5
  obtain ⟨ps, hps⟩ : ∃ ps, ps = (route f t n.toNat (capsL S L u) n).1 := ⟨_, rfl⟩
  have HPS : Hid (payR S L f t u n = ps) := Lib.hid hps.symm
  have HV2 := Lib.hid (HPS.out ▸ HV.out)
  obtain ⟨got, hgot⟩ : ∃ got, got = (route f t n.toNat (capsL S L u) n).2.1 := ⟨_, rfl⟩
  have HGT : Hid (payG S L f t u n = got) := Lib.hid hgot.symm
  rw [← hps] at HF HLEN ⊢
  rw [← hgot]
  clear hps hgot HV
  by_cases hlt : got < n
  · have hE : payE S L f t u n = 11 := by rw [HE.out, HGT.out, if_pos hlt]
    have HL : Hid (payL S L f t u n = L ∧ payN S L f t u n = 0) := Lib.hid (by unfold payL payN; rw [hE]; exact ⟨rfl, rfl⟩)
    go_wp2_with fail
    go_ret2
    exact ⟨by rw [hE, HL.out.2]; rfl, by rw [HL.out.1]; exact HI.out.chg0 HC6.out, HC6.out.mono (by simp)⟩
  have hE : payE S L f t u n = 0 := by rw [HE.out, HGT.out, if_neg hlt]
  have HL : Hid (payL S L f t u n = pushLs L u ps ∧ payN S L f t u n = (ps.length : Int)) := Lib.hid (by unfold payL payN; rw [hE, if_pos rfl, if_pos rfl, HPS.out]; exact ⟨rfl, rfl⟩)
  have hlen := HLEN.out
  go_wp2
  go_loopw [18, 53] (fun _ i wr => ∃ k : Nat, k ≤ ps.length ∧ i = .int .i64 k ∧ Hid (IsL wr lb mb S (pushLs L u (ps.take k)) ∧ Chg [mb] w6 wr)) (fun _ i _ => ps.length - (intOf i).toNat)
  case atStart => exact ⟨0, by omega, rfl, Lib.hid ⟨HI.out.chg0 HC6.out, Chg.refl _ _⟩⟩
  case round =>
    obtain ⟨k, hk, rfl, HK⟩ := hrel
    by_cases hkl : k < ps.length
    · obtain ⟨gb, hgb, hgb2, c0, c1, c2⟩ := HF.out k hkl
      subst hgb
      have hne : gb ∉ [mb] := by
        have := HMB.out
        simp; omega
      have hgl := block_lt_of_cell c0
      rw [← HK.out.2.cell (p := ⟨gb, k * 3, none⟩) hgl hne] at c0
      rw [← HK.out.2.cell (p := ⟨gb, k * 3 + 1, none⟩) hgl hne] at c1
      rw [← HK.out.2.cell (p := ⟨gb, k * 3 + 2, none⟩) hgl hne] at c2
      have hok := HV2.out.oks ps[k] (List.getElem_mem hkl)
      unfold Fl.ok at hok
      rw [mem_P16, mem_P16] at hok
      have HS := Lib.hid (pushLs_take L u hkl)
      have HP := Lib.hid (fun W (k' : Chg [] wr W) => lpush (HK.out.1.chg0 k') (f := ps[k].f) (t := ps[k].t) (u := u) (n := ps[k].n) (by omega) (by omega) hu)
      rw [← HS.out] at HP
      clear HS hok
      generalize ps[k] = x at *
      obtain ⟨xf, xt, xn⟩ := x
      dsimp only at c0 c1 c2 HP
      go_wp2_with fail
      refine (HP.out _ ((Chg.refl _ _).alloc _)).mono ?_; rintro e w8 ⟨rfl, hI, hc⟩
      have HK8 := Lib.hid (And.intro hI ((HK.out.2.alloc _).trans hc))
      clear hI hc
      go_wp2
      go_roundw
      case rel => exact ⟨k + 1, by omega, by go_num, HK8⟩
      case measure => simp [intOf]; omega
    · obtain rfl : k = ps.length := by omega
      go_wp2
      go_ret2
      exact ⟨by rw [hE, HL.out.2]; rfl, by rw [HL.out.1]; have := HK.out.1; rwa [List.take_length] at this, (HC6.out.mono (by simp)).trans HK.out.2⟩
end Go.Proofs.Ytofnaigkfhfhoaa
