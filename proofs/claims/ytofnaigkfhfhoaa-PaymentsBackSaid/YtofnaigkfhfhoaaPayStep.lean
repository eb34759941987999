/-
  Moved and Sound (package countinghouselaw09), of a ledger and its copy.
-/
import Derived.Test.YtofnaigkfhfhoaaTwoL
import Derived.Test.YtofnaigkfhfhoaaPlPay
import Derived.Deep.QuietTactic
import Derived.BigQuiet
namespace Go.Proofs.Ytofnaigkfhfhoaa
open Go.RowKit Go.Maps Pl
attribute [local go_sem ↓] Go.wp_at_zero Go.wp_at_succ

theorem pos_bd {S : Nat → Bool} {L : List Ln} (h : GoodL S L) (p v : Nat) : -70368744177664 ≤ posOf L p v ∧ posOf L p v ≤ 70368744177664 := by
  have := sum_take_bd h (posF p v) (posF_bd h p v) L.length
  rwa [List.take_length] at this

section
variable {a w : World} {lb mb cb nb : Nat} {S S' : Nat → Bool} {L L' : List Ln}
set_option maxRecDepth 100000 in
set_option maxHeartbeats 2000000 in
theorem moved_c (h : TL a w lb mb cb nb S L S' L') (p c : Nat) {b : Int} (hb : -1099511627776 ≤ b ∧ b ≤ 1099511627776) (hE : posOf L p c = posOf L' p c + b) :
    Calls Try.prog 31 #[.pointer (some ⟨lb, 0, none⟩), .pointer (some ⟨cb, 0, none⟩), .int .u8 p, .int .u8 c, .int .i64 b] w fun e w' => e = .returned (.bool true) ∧ Chg [] w w' := by
  have H1 := Lib.hid (lposition h.l p c)
  have H2 := Lib.hid (fun W (k : Chg [] w W) => lposition (h.c.chg0 k) p c)
  have hb2 := pos_bd h.c.good p c
  rw [hE] at H1
  generalize posOf L' p c = q at *
  clear h hE
  go_enter Try.func31, Try.ntmps31
  go_wp2_with fail
  refine H1.out.mono ?_; rintro e w1 ⟨rfl, hc⟩
  have HC := Lib.hid hc
  clear hc
  go_wp2_with fail
  refine (H2.out _ HC.out).mono ?_; rintro e w2 ⟨rfl, hc⟩
  have HC2 := Lib.hid (HC.out.trans hc)
  clear hc
  go_wp2
  go_ret
  exact ⟨rfl, HC2.out⟩

theorem own_open {w : World} {base : Nat} {t : TypeId} {v : Value} {l : List Ln} (h : w.ownsRow base t 5 v l.length (lnsCells l)) :
    ∃ ao cap, v = .slice ao l.length cap ∧ (0 < l.length → ∃ g cs, ao = some ⟨g, 0, none⟩ ∧ base ≤ g ∧ Blk w g t cs ∧ ∀ i (hi : i < l.length) j u, (lnCells l[i])[j]? = some u → cs[i * 5 + j]? = some u) := by
  obtain ⟨hl, ⟨rfl, h0⟩ | ⟨g, cap, cs, rfl, hb, hg, hn, hm, hs, ht⟩⟩ := h
  · exact ⟨none, 0, by rw [h0], fun h => by omega⟩
  · refine ⟨_, _, rfl, fun _ => ⟨g, cs, rfl, hb, hg, fun i hi j u hu => ?_⟩⟩
    have hj : j < 5 := by
      have := (List.getElem?_eq_some_iff.1 hu).1
      rwa [lnCells_len] at this
    have hlt : i * 5 + j < l.length * 5 := by omega
    have e := flat_get lnCells_len l i hi j hj
    have e' : (lnsCells l)[i * 5 + j]? = some u := e.trans hu
    rw [← ht, List.getElem?_take_of_lt hlt] at e'
    simpa using e'

/-- A row of lines, from the k-th on. -/
def RowFrom (W : World) (g : Nat) (t : TypeId) (k : Nat) (l : List Ln) : Prop := ∃ cs, Blk W g t cs ∧ ∀ i, k ≤ i → ∀ (hi : i < l.length) j u, (lnCells l[i])[j]? = some u → cs[i * 5 + j]? = some u
theorem RowFrom.isLn {W : World} {g k : Nat} {t : TypeId} {l : List Ln} (h : RowFrom W g t k l) (hk : k < l.length) :
    (W.cell? ⟨g, k * 5, none⟩ = some (.int .u8 l[k].cr) ∧ W.cell? ⟨g, k * 5 + 1, none⟩ = some (.int .u8 l[k].db) ∧ W.cell? ⟨g, k * 5 + 2, none⟩ = some (.int .u8 l[k].cu) ∧ W.cell? ⟨g, k * 5 + 3, none⟩ = some (.int .i64 l[k].lim) ∧ W.cell? ⟨g, k * 5 + 4, none⟩ = some (.int .i64 l[k].deb)) ∧ W.frozen? ⟨g, k * 5 + 4, none⟩ = false := by
  obtain ⟨cs, hb, hc⟩ := h
  refine ⟨⟨?_, ?_, ?_, ?_, ?_⟩, hb.frozen _⟩
  all_goals rw [hb.cell]
  · exact hc k (Nat.le_refl _) hk 0 _ rfl
  · exact hc k (Nat.le_refl _) hk 1 _ rfl
  · exact hc k (Nat.le_refl _) hk 2 _ rfl
  · exact hc k (Nat.le_refl _) hk 3 _ rfl
  · exact hc k (Nat.le_refl _) hk 4 _ rfl
theorem RowFrom.set {W : World} {g k : Nat} {t : TypeId} {l : List Ln} (h : RowFrom W g t k l) (v : Value) : RowFrom (W.setCell ⟨g, k * 5 + 4, none⟩ v) g t (k + 1) l := by
  obtain ⟨cs, hb, hc⟩ := h
  refine ⟨_, hb.set _ v, fun i hi hl j u hu => ?_⟩
  rw [Array.getElem?_setIfInBounds_ne (by omega)]
  exact hc i (by omega) hl j u hu
theorem RowFrom.far {W : World} {g k : Nat} {t : TypeId} {l : List Ln} (h : RowFrom W g t k l) {a : Addr} (hne : g ≠ a.block) (v : Value) : RowFrom (W.setCell a v) g t k l := by
  obtain ⟨cs, hb, hc⟩ := h
  exact ⟨cs, hb.far hne v, hc⟩
theorem RowFrom.drewN {W : World} {g k : Nat} {t : TypeId} {l : List Ln} (h : RowFrom W g t k l) (n : Nat) : RowFrom (W.drewN n) g t k l := by
  obtain ⟨cs, hb, hc⟩ := h
  exact ⟨cs, hb.drewN n, hc⟩

set_option maxRecDepth 100000 in
set_option maxHeartbeats 4000000 in
theorem sound_c (h : TL a w lb mb cb nb S L S' L') (hk : L.map keyL = L'.map keyL) :
    Calls Try.prog 30 #[.pointer (some ⟨lb, 0, none⟩), .pointer (some ⟨cb, 0, none⟩)] w fun e w' => e = .returned (.bool true) ∧ Chg [] w w' := by
  have hlen : L'.length = L.length := by have := congrArg List.length hk; simpa using this.symm
  have hfew := h.l.good.few
  have HK : Hid (∀ k (h1 : k < L.length) (h2 : k < L'.length), keyL L[k] = keyL L'[k]) := Lib.hid fun k h1 h2 => by
    have := congrArg (fun l => l[k]?) hk
    simp only [List.getElem?_map, List.getElem?_eq_getElem h1, List.getElem?_eq_getElem h2, Option.map_some, Option.some.injEq] at this
    exact this
  have HO := Lib.hid h.l.good.owed
  have H1 := Lib.hid (llines h.l)
  have H2 := Lib.hid (fun W (k : Chg [] w W) => llines (h.c.chg0 k))
  clear h hk
  go_enter Try.func30, Try.ntmps30
  go_wp2_with fail
  refine H1.out.mono ?_; rintro e w1 ⟨⟨v1, rfl, ho1⟩, hc⟩
  have HC := Lib.hid hc
  have HO1 := Lib.hid (own_open ho1)
  clear hc ho1
  go_wp2_with fail
  refine (H2.out _ HC.out).mono ?_; rintro e w2 ⟨⟨v2, rfl, ho2⟩, hc⟩
  have HC2 := Lib.hid hc
  have HO2 := Lib.hid (own_open ho2)
  clear hc ho2
  obtain ⟨ao1, cap1, rfl, h1⟩ := HO1.out
  obtain ⟨ao2, cap2, rfl, h2⟩ := HO2.out
  rw [hlen]
  clear HO1 HO2
  by_cases hn : L.length = 0
  · rw [hn]
    clear h1 h2 HK HO
    go_wp2
    refine wp_loop_rounds 1 ?_
    rw [rounds_succ]
    go_wp2
    go_ret
    exact ⟨rfl, HC.out.trans HC2.out⟩
  obtain ⟨g1, c1, rfl, b1, k1, r1⟩ := h1 (by omega)
  obtain ⟨g2, c2, rfl, b2, k2, r2⟩ := h2 (by omega)
  have hgg : g1 ≠ g2 := by have := k1.lt; omega
  have HB1 : Hid (w.heap.size ≤ g1) := Lib.hid b1
  have HB2 : Hid (w.heap.size ≤ g2) := Lib.hid (Nat.le_trans HC.out.size b2)
  have HR : Hid (RowFrom w2 g1 62 0 L ∧ RowFrom w2 g2 62 0 L') := Lib.hid ⟨⟨c1, k1.chg HC2.out (by simp), fun i _ hi j u hu => r1 i hi j u hu⟩, ⟨c2, k2, fun i _ hi j u hu => r2 i (by omega) j u hu⟩⟩
  have HCC := Lib.hid (HC.out.trans HC2.out)
  clear h1 h2 r1 r2 k1 k2 b1 b2 HC HC2 hn
  go_wp2
  go_loopw [7] (fun i wr => ∃ k : Nat, k ≤ L.length ∧ i = .int .i64 k ∧ Hid (RowFrom wr g1 62 k L ∧ RowFrom wr g2 62 k L' ∧ Chg [] w wr)) (fun i _ => L.length - (intOf i).toNat)
  case atStart => exact ⟨0, by omega, rfl, Lib.hid ⟨HR.out.1, HR.out.2, HCC.out⟩⟩
  case round =>
    obtain ⟨k, hk, rfl, HI⟩ := hrel
    by_cases hlt : k < L.length
    · have hlt2 : k < L'.length := by omega
      obtain ⟨⟨p0, p1, p2, p3, p4⟩, f1⟩ := HI.out.1.isLn hlt
      obtain ⟨⟨q0, q1, q2, q3, q4⟩, f2⟩ := HI.out.2.1.isLn hlt2
      have hkey := HK.out k hlt hlt2
      have ho := HO.out L[k] (List.getElem_mem hlt)
      have HN : Hid (∀ nq : Nat, RowFrom (((wr.drewN nq).setCell ⟨g1, k * 5 + 4, none⟩ (.int .i64 0)).setCell ⟨g2, k * 5 + 4, none⟩ (.int .i64 0)) g1 62 (k + 1) L ∧ RowFrom (((wr.drewN nq).setCell ⟨g1, k * 5 + 4, none⟩ (.int .i64 0)).setCell ⟨g2, k * 5 + 4, none⟩ (.int .i64 0)) g2 62 (k + 1) L' ∧ Chg [] w (((wr.drewN nq).setCell ⟨g1, k * 5 + 4, none⟩ (.int .i64 0)).setCell ⟨g2, k * 5 + 4, none⟩ (.int .i64 0))) :=
        Lib.hid fun nq => ⟨((HI.out.1.drewN nq).set _).far hgg _, ((HI.out.2.1.drewN nq).far (a := ⟨g1, k * 5 + 4, none⟩) (Ne.symm hgg) _).set _, ((HI.out.2.2.drewN nq).setCell (p := ⟨g1, k * 5 + 4, none⟩) (.inr HB1.out) _).setCell (p := ⟨g2, k * 5 + 4, none⟩) (.inr HB2.out) _⟩
      generalize L[k] = x at p0 p1 p2 p3 p4 hkey ho
      generalize L'[k] = y at q0 q1 q2 q3 q4 hkey
      obtain ⟨xc, xd, xu, xl, xn⟩ := x
      obtain ⟨yc, yd, yu, yl, yn⟩ := y
      simp only [keyL, Prod.mk.injEq] at hkey
      obtain ⟨rfl, rfl, rfl, rfl⟩ := hkey
      dsimp only at p0 p1 p2 p3 p4 q0 q1 q2 q3 q4 ho
      have t1 : decide (xn < 0) = false := decide_eq_false (by omega)
      have t2 : decide (xl < xn) = false := decide_eq_false (by omega)
      have hq := fun W => run_neqL ⟨xc, xd, xu, xl, 0⟩ ⟨xc, xd, xu, xl, 0⟩ W
      simp only [ne_eq, not_true_eq_false, decide_false] at hq
      go_wp2_with fail
      go_quiet (fail)
      replace HN := Lib.hid (HN.out nq)
      go_wp2_with fail
      go_quiet (fail)
      go_wp2
      go_roundw
      case rel => exact ⟨k + 1, by omega, by go_num, Lib.hid ⟨HN.out.1.drewN _, HN.out.2.1.drewN _, HN.out.2.2.drewN _⟩⟩
      case measure => simp [intOf]; omega
    · obtain rfl : k = L.length := by omega
      go_wp2
      go_ret
      exact ⟨rfl, HI.out.2.2⟩
end
end Go.Proofs.Ytofnaigkfhfhoaa
