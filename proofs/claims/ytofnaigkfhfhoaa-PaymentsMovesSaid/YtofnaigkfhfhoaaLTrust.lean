/-
  The package ledgers: Trust.
-/
import Derived.Test.YtofnaigkfhfhoaaLOpen
namespace Go.Proofs.Ytofnaigkfhfhoaa
open Go.RowKit Go.Maps Pl
attribute [local go_sem ↓] Go.wp_at_zero Go.wp_at_succ
attribute [local go_sem] owed_lim owed_deb

/-- What a limit's setting answers; the lines behind it. -/
def ltrustE (S : Nat → Bool) (L : List Ln) (c d u : Nat) (n : Int) : Int :=
  if endsOk c d u = false ∨ n < 0 ∨ 1099511627776 < n then 1
  else if S c = false ∨ S d = false then 7
  else if n < (owedAt L (rk c d u)).2 then 14
  else if (findR L (rk c d u)).isSome = false ∧ 0 < n ∧ 64 ≤ L.length then 9
  else 0
def ltrustL (S : Nat → Bool) (L : List Ln) (c d u : Nat) (n : Int) : List Ln :=
  if ltrustE S L c d u n = 0 then if n = 0 then delR L (rk c d u) else setL L ⟨c, d, u, n, (owedAt L (rk c d u)).2⟩ else L

section
variable {w : World} {lb mb : Nat} {S : Nat → Bool} {L : List Ln} {c d u : Nat} {n : Int}

theorem ltrust_ends (h : IsL w lb mb S L) (hok : endsOk c d u = false) :
    Calls Try.prog 60 #[.pointer (some ⟨lb, 0, none⟩), .int .u8 c, .int .u8 d, .int .u8 u, .int .i64 n] w fun e w' => e = .returned (.int .i64 1) ∧ Chg [] w w' := by
  have HT := Lib.hid (fun W (k : Chg [] w W) => lthere_yes (h.chg0 k).cell)
  clear h
  go_enter Try.func60, Try.ntmps60
  go_wp2_with fail
  refine (HT.out _ (by (repeat first | exact Chg.refl _ _ | apply Chg.alloc))).mono ?_; rintro e w' ⟨rfl, rfl⟩
  go_wp2_with fail
  refine (lends _ _ _ _).mono ?_; rintro e w2 ⟨rfl, hc2⟩
  rw [hok]
  go_wp2_with fail
  go_ret
  exact ⟨rfl, (Chg.alloc (Chg.refl _ _) _).trans hc2⟩

theorem ltrust_arg (h : IsL w lb mb S L) (hok : endsOk c d u = true) (hn : n < 0 ∨ 1099511627776 < n) :
    Calls Try.prog 60 #[.pointer (some ⟨lb, 0, none⟩), .int .u8 c, .int .u8 d, .int .u8 u, .int .i64 n] w fun e w' => e = .returned (.int .i64 1) ∧ Chg [] w w' := by
  have HT := Lib.hid (fun W (k : Chg [] w W) => lthere_yes (h.chg0 k).cell)
  clear h
  rcases hn with hn | hn
  · go_enter Try.func60, Try.ntmps60
    go_wp2_with fail
    refine (HT.out _ (by (repeat first | exact Chg.refl _ _ | apply Chg.alloc))).mono ?_; rintro e w' ⟨rfl, rfl⟩
    go_wp2_with fail
    refine (lends _ _ _ _).mono ?_; rintro e w2 ⟨rfl, hc2⟩
    rw [hok]
    go_wp2_with fail
    go_ret
    exact ⟨rfl, (Chg.alloc (Chg.refl _ _) _).trans hc2⟩
  · have hn0 : 0 ≤ n := by omega
    go_enter Try.func60, Try.ntmps60
    go_wp2_with fail
    refine (HT.out _ (by (repeat first | exact Chg.refl _ _ | apply Chg.alloc))).mono ?_; rintro e w' ⟨rfl, rfl⟩
    go_wp2_with fail
    refine (lends _ _ _ _).mono ?_; rintro e w2 ⟨rfl, hc2⟩
    rw [hok]
    go_wp2_with fail
    go_ret
    exact ⟨rfl, (Chg.alloc (Chg.refl _ _) _).trans hc2⟩

theorem endsOk_of (h : endsOk c d u = true) : (1 ≤ c ∧ c ≤ 16) ∧ (1 ≤ d ∧ d ≤ 16) ∧ c ≠ d ∧ 1 ≤ u ∧ u ≤ 8 := of_decide_eq_true h

set_option maxHeartbeats 1000000 in
theorem ltrust_none (h : IsL w lb mb S L) (hok : endsOk c d u = true) (h0 : 0 ≤ n) (hn : n ≤ 1099511627776) (hs : S c = false ∨ S d = false) :
    Calls Try.prog 60 #[.pointer (some ⟨lb, 0, none⟩), .int .u8 c, .int .u8 d, .int .u8 u, .int .i64 n] w fun e w' => e = .returned (.int .i64 7) ∧ Chg [] w w' := by
  have HT := Lib.hid (fun W (k : Chg [] w W) => lthere_yes (h.chg0 k).cell)
  obtain ⟨k1, k2, k3, k4⟩ := endsOk_of hok
  have HP := Lib.hid (fun W (k : Chg [] w W) => And.intro ((h.chg0 k).party (p := c) (by omega)) ((h.chg0 k).party (p := d) (by omega)))
  have hc : (c : Int) < 17 := by omega
  have hd : (d : Int) < 17 := by omega
  clear h k1 k2 k3 k4
  cases hsc : S c with
  | false =>
    rw [hsc] at HP
    go_enter Try.func60, Try.ntmps60
    go_wp2_with fail
    refine (HT.out _ (by (repeat first | exact Chg.refl _ _ | apply Chg.alloc))).mono ?_; rintro e w' ⟨rfl, rfl⟩
    go_wp2_with fail
    refine (lends _ _ _ _).mono ?_; rintro e w2 ⟨rfl, hc2⟩
    rw [hok]
    obtain ⟨hp1, hp2⟩ := HP.out _ ((Chg.alloc (Chg.refl _ _) _).trans hc2)
    have HC := Lib.hid ((Chg.alloc (Chg.refl [] w) (.cells #[.int .u8 c, .int .u8 d, .int .u8 u] 118)).trans hc2)
    go_wp2_with fail
    go_ret
    exact ⟨rfl, HC.out⟩
  | true =>
    have hsd : S d = false := by simpa [hsc] using hs
    rw [hsc, hsd] at HP
    go_enter Try.func60, Try.ntmps60
    go_wp2_with fail
    refine (HT.out _ (by (repeat first | exact Chg.refl _ _ | apply Chg.alloc))).mono ?_; rintro e w' ⟨rfl, rfl⟩
    go_wp2_with fail
    refine (lends _ _ _ _).mono ?_; rintro e w2 ⟨rfl, hc2⟩
    rw [hok]
    obtain ⟨hp1, hp2⟩ := HP.out _ ((Chg.alloc (Chg.refl _ _) _).trans hc2)
    have HC := Lib.hid ((Chg.alloc (Chg.refl [] w) (.cells #[.int .u8 c, .int .u8 d, .int .u8 u] 118)).trans hc2)
    go_wp2_with fail
    go_ret
    exact ⟨rfl, HC.out⟩

set_option maxHeartbeats 2000000 in
set_option maxRecDepth 100000 in
theorem ltrust_main (h : IsL w lb mb S L) (hok : endsOk c d u = true) (h0 : 0 ≤ n) (hn : n ≤ 1099511627776) (hsc : S c = true) (hsd : S d = true) :
    Calls Try.prog 60 #[.pointer (some ⟨lb, 0, none⟩), .int .u8 c, .int .u8 d, .int .u8 u, .int .i64 n] w fun e w' => e = .returned (.int .i64 (ltrustE S L c d u n)) ∧ MapL w' mb (ltrustL S L c d u n) ∧ Chg [mb] w w' := by
  have HT := Lib.hid (fun W (k : Chg [] w W) => lthere_yes (h.chg0 k).cell)
  obtain ⟨k1, k2, k3, k4, k5⟩ := endsOk_of hok
  have HP := Lib.hid (fun W (k : Chg [] w W) => And.intro ((h.chg0 k).party (p := c) (by omega)) ((h.chg0 k).party (p := d) (by omega)))
  rw [hsc, hsd] at HP
  have hc : (c : Int) < 17 := by omega
  have hd : (d : Int) < 17 := by omega
  have HI := Lib.hid h
  have HS := Lib.hid (And.intro (show c < 256 by omega) (And.intro (show d < 256 by omega) (show u < 256 by omega)))
  obtain ⟨b1, b2, b3, b4⟩ := h.good.at (rk c d u)
  have LK : Hid (∀ W, Chg [] w W → (Instr.lookup 27 (.map (some mb)) (endsV c d u) true).run Try.prog W = .ok (.tuple #[owedV (owedAt L (rk c d u)).1 (owedAt L (rk c d u)).2, .bool (findR L (rk c d u)).isSome]) W) := fun W hW => (h.map.chg hW (by simp)).look_ok (by omega) (by omega) (by omega)
  have HEQ : Hid (ltrustE S L c d u n = if n < (owedAt L (rk c d u)).2 then 14 else if (findR L (rk c d u)).isSome = false ∧ 0 < n ∧ 64 ≤ L.length then 9 else 0) := Lib.hid (by
    unfold ltrustE
    rw [if_neg (by simp [hok]; omega), if_neg (by simp [hsc, hsd])])
  have HLQ : Hid (ltrustL S L c d u n = if ltrustE S L c d u n = 0 then if n = 0 then delR L (rk c d u) else setL L ⟨c, d, u, n, (owedAt L (rk c d u)).2⟩ else L) := Lib.hid rfl
  generalize (owedAt L (rk c d u)).1 = l1 at *
  generalize (owedAt L (rk c d u)).2 = d1 at *
  generalize (findR L (rk c d u)).isSome = is at *
  clear h k1 k2 k3 k4 k5 hsc hsd
  go_enter Try.func60, Try.ntmps60
  go_wp2_with fail
  refine (HT.out _ (by (repeat first | exact Chg.refl _ _ | apply Chg.alloc))).mono ?_; rintro e w' ⟨rfl, rfl⟩
  go_wp2_with fail
  refine (lends _ _ _ _).mono ?_; rintro e w2 ⟨rfl, hc2⟩
  rw [hok]
  obtain ⟨hp1, hp2⟩ := HP.out _ ((Chg.alloc (Chg.refl _ _) _).trans hc2)
  have hE := (Blk.new w 118 #[.int .u8 c, .int .u8 d, .int .u8 u]).chg hc2 (by simp)
  have hW2 := (Chg.alloc (Chg.refl [] w) (.cells #[.int .u8 c, .int .u8 d, .int .u8 u] 118)).trans hc2
  obtain ⟨eb, heb⟩ : ∃ eb, eb = w.heap.size := ⟨_, rfl⟩
  have hem : mb < eb := by have := HI.out.map.lt; omega
  have hel : eb < w2.heap.size := by have := hc2.size; simp at this; omega
  rw [← heb] at hE
  rw [← heb]
  clear heb hc2
  have KS : Hid (∀ W, Chg [] w2 W → W.cell? ⟨lb, 17, none⟩ = some (.map (some mb)) ∧ W.cell? ⟨eb, 0, none⟩ = some (.int .u8 c) ∧ W.cell? ⟨eb, 1, none⟩ = some (.int .u8 d) ∧ W.cell? ⟨eb, 2, none⟩ = some (.int .u8 u) ∧ (Instr.lookup 27 (.map (some mb)) (endsV c d u) true).run Try.prog W = .ok (.tuple #[.agg #[.int .i64 l1, .int .i64 d1], .bool is]) W) := fun W hW => ⟨(HI.out.chg0 (hW2.trans hW)).cell, (hE.chg hW (by simp)).cell 0, (hE.chg hW (by simp)).cell 1, (hE.chg hW (by simp)).cell 2, LK.out _ (hW2.trans hW)⟩
  have HE := Lib.hid hE
  have HW2 := Lib.hid hW2
  clear hE hW2
  go_wp2_with fail
  refine wp_region_held_drew (S := (fun w' : World => w'.cell? ⟨lb, 17, none⟩ = some (.map (some mb)) ∧ w'.cell? ⟨eb, 0, none⟩ = some (.int .u8 c) ∧ w'.cell? ⟨eb, 1, none⟩ = some (.int .u8 d) ∧ w'.cell? ⟨eb, 2, none⟩ = some (.int .u8 u) ∧ (Instr.lookup 27 (.map (some mb)) (endsV c d u) true).run Try.prog w' = .ok (.tuple #[.agg #[.int .i64 l1, .int .i64 d1], .bool is]) w')) (by kernel_rfl) ?_ (fun hHeld => ?_)
  · exact KS.out _ (by (repeat first | exact Chg.refl _ _ | apply Chg.drew | apply Chg.alloc | (refine Chg.setCell ?_ (.inr (by simp; try omega)) _)))
  refine wpAnyH_take (i := 0) (v := ?v528_0_0) rfl (by kernel_rfl) (by kernel_rfl) (by kernel_rfl) (fun _ _ _ h => h) (Or.inl ⟨by rfl, ?hy528_0_0⟩) (by assumption) ?_
  case hy528_0_0 => (intro w hSw; (try dsimp only at hSw); go_simp; try (with_reducible rfl))
  (try simp only [Act.put, List.getElem_toArray, List.getElem_cons_zero, List.setIfInBounds_toArray, List.set_cons_zero, List.set_cons_succ])
  refine wpAnyH_take (i := 1) (v := ?v528_0_1) rfl (by kernel_rfl) (by kernel_rfl) (by kernel_rfl) (fun _ _ _ h => h) (Or.inl ⟨by rfl, ?hy528_0_1⟩) (by assumption) ?_
  case hy528_0_1 => (intro w hSw; (try dsimp only at hSw); go_simp; try (with_reducible rfl))
  (try simp only [Act.put, List.getElem_toArray, List.getElem_cons_zero, List.getElem_cons_succ, List.setIfInBounds_toArray, List.set_cons_zero, List.set_cons_succ])
  refine wpAnyH_take (i := 2) (v := ?v528_0_2) rfl (by kernel_rfl) (by kernel_rfl) (by kernel_rfl) (fun _ _ _ h => h) (Or.inl ⟨by rfl, ?hy528_0_2⟩) (by assumption) ?_
  case hy528_0_2 => (intro w hSw; (try dsimp only at hSw); go_simp; try (with_reducible rfl))
  (try simp only [Act.put, List.getElem_toArray, List.getElem_cons_zero, List.getElem_cons_succ, List.setIfInBounds_toArray, List.set_cons_zero, List.set_cons_succ])
  refine wpAnyH_take (i := 3) (v := ?v528_0_3) rfl (by kernel_rfl) (by kernel_rfl) (by kernel_rfl) (fun _ _ _ h => h) (Or.inl ⟨by rfl, ?hy528_0_3⟩) (by assumption) ?_
  case hy528_0_3 => (intro w hSw; (try dsimp only at hSw); go_simp; try (with_reducible rfl))
  (try simp only [Act.put, List.getElem_toArray, List.getElem_cons_zero, List.getElem_cons_succ, List.setIfInBounds_toArray, List.set_cons_zero, List.set_cons_succ])
  refine wpAnyH_take (i := 4) (v := ?v528_0_4) rfl (by kernel_rfl) (by kernel_rfl) (by kernel_rfl) (fun _ _ _ h => h) (Or.inl ⟨by rfl, ?hy528_0_4⟩) (by assumption) ?_
  case hy528_0_4 => (intro w hSw; (try dsimp only at hSw); go_simp; try (with_reducible rfl))
  (try simp only [Act.put, List.getElem_toArray, List.getElem_cons_zero, List.getElem_cons_succ, List.setIfInBounds_toArray, List.set_cons_zero, List.set_cons_succ])
  refine wpAnyH_take (i := 5) (v := ?v528_0_5) rfl (by kernel_rfl) (by kernel_rfl) (by kernel_rfl) (fun _ _ _ h => h) (Or.inl ⟨by rfl, ?hy528_0_5⟩) (by assumption) ?_
  case hy528_0_5 => (intro w hSw; (try dsimp only at hSw); go_simp; try (with_reducible rfl))
  (try simp only [Act.put, List.getElem_toArray, List.getElem_cons_zero, List.getElem_cons_succ, List.setIfInBounds_toArray, List.set_cons_zero, List.set_cons_succ])
  refine wpAnyH_take (i := 6) (v := ?v528_0_6) rfl (by kernel_rfl) (by kernel_rfl) (by kernel_rfl) (fun _ _ _ h => h) (Or.inl ⟨by rfl, ?hy528_0_6⟩) (by assumption) ?_
  case hy528_0_6 => (intro w hSw; (try dsimp only at hSw); go_simp; try (with_reducible rfl))
  (try simp only [Act.put, List.getElem_toArray, List.getElem_cons_zero, List.getElem_cons_succ, List.setIfInBounds_toArray, List.set_cons_zero, List.set_cons_succ])
  refine wpAnyH_take (i := 7) (v := ?v528_0_7) rfl (by kernel_rfl) (by kernel_rfl) (by kernel_rfl) (fun _ _ _ h => h) (Or.inl ⟨by rfl, ?hy528_0_7⟩) (by assumption) ?_
  case hy528_0_7 => (intro w hSw; (try dsimp only at hSw); go_simp; try (with_reducible rfl))
  (try simp only [Act.put, List.getElem_toArray, List.getElem_cons_zero, List.getElem_cons_succ, List.setIfInBounds_toArray, List.set_cons_zero, List.set_cons_succ])
  refine wpAnyH_take (i := 8) (v := ?v528_0_8) rfl (by kernel_rfl) (by kernel_rfl) (by kernel_rfl) (fun _ _ _ h => h) (Or.inl ⟨by rfl, ?hy528_0_8⟩) (by assumption) ?_
  case hy528_0_8 => (intro w hSw; (try dsimp only at hSw); go_simp; try (with_reducible rfl))
  (try simp only [Act.put, List.getElem_toArray, List.getElem_cons_zero, List.getElem_cons_succ, List.setIfInBounds_toArray, List.set_cons_zero, List.set_cons_succ])
  refine wpAnyH_ready (rs := [9]) (by kernel_rfl) (by simp) (AllReadyH.cons rfl (fun K hK => ?_) AllReadyH.nil)
  go_simp
  refine hK.out _ _ ?_ (fun hHeld => ?_)
  · exact KS.out _ (by (repeat first | exact Chg.refl _ _ | apply Chg.drew | apply Chg.alloc | (refine Chg.setCell ?_ (.inr (by simp; try omega)) _)))
  clear hK K
  (try simp only [Act.put, List.getElem_toArray, List.getElem_cons_zero, List.getElem_cons_succ, List.setIfInBounds_toArray, List.set_cons_zero, List.set_cons_succ])
  refine wpAnyH_ready (rs := [10]) (by kernel_rfl) (by simp) (AllReadyH.cons rfl (fun K hK => ?_) AllReadyH.nil)
  go_simp
  refine hK.out _ _ ?_ (fun hHeld => ?_)
  · exact KS.out _ (by (repeat first | exact Chg.refl _ _ | apply Chg.drew | apply Chg.alloc | (refine Chg.setCell ?_ (.inr (by simp; try omega)) _)))
  clear hK K
  (try simp only [Act.put, List.getElem_toArray, List.getElem_cons_zero, List.getElem_cons_succ, List.setIfInBounds_toArray, List.set_cons_zero, List.set_cons_succ])
  refine wpAnyH_take (i := 11) (v := ?v528_0_11) rfl (by kernel_rfl) (by kernel_rfl) (by kernel_rfl) (fun _ _ _ h => h) (Or.inl ⟨by rfl, ?hy528_0_11⟩) (by assumption) ?_
  case hy528_0_11 => (intro w hSw; (try dsimp only at hSw); go_simp; try (with_reducible rfl))
  (try simp only [Act.put, List.getElem_toArray, List.getElem_cons_zero, List.getElem_cons_succ, List.setIfInBounds_toArray, List.set_cons_zero, List.set_cons_succ])
  refine wpAnyH_done (by kernel_rfl) ?_ _
  obtain ⟨xb, hxb⟩ : ∃ xb, xb = w2.heap.size := ⟨_, rfl⟩
  have hX := (Blk.new w2 120 #[.int .i64 l1, .int .i64 d1]).drew
  have hc3 : Chg [] w2 (w2.alloc (.cells #[.int .i64 l1, .int .i64 d1] 120)).drew := ((Chg.refl _ _).alloc _).drew
  obtain ⟨W3, hW3⟩ : ∃ W3, W3 = (w2.alloc (.cells #[.int .i64 l1, .int .i64 d1] 120)).drew := ⟨_, rfl⟩
  rw [← hxb, ← hW3] at hX
  rw [← hW3] at hc3
  rw [← hW3, ← hxb]
  have hmx : mb < xb := by omega
  clear hW3 hxb
  have HL := Lib.hid (HI.out.chg0 (HW2.out.trans hc3))
  have HE3 := Lib.hid (HE.out.chg hc3 (by simp))
  have HC := Lib.hid (HW2.out.trans hc3)
  have hx1 := hX.cell 1
  have HX := Lib.hid hX
  have hlen := HL.out.map.len 3
  clear hX hc3 hHeld HW2 HE KS
  by_cases hlt : n < d1
  · rw [if_pos hlt] at HEQ
    rw [HEQ.out, if_neg (by omega)] at HLQ
    go_wp2_with fail
    go_ret
    exact ⟨by rw [HEQ.out]; rfl, by rw [HLQ.out]; exact HL.out.map, HC.out.mono (by simp)⟩
  rw [if_neg hlt] at HEQ
  by_cases hz : n = 0
  · have HE0 : Hid (ltrustE S L c d u n = 0) := Lib.hid (by rw [HEQ.out, if_neg (by omega)])
    have HLD : Hid (ltrustL S L c d u n = delR L (rk c d u)) := Lib.hid (by rw [HLQ.out, HE0.out, if_pos rfl, if_pos hz])
    clear HEQ HLQ
    subst hz
    have hd0 : (0 : Int) ≤ d1 := b3
    have hd1 : d1 ≤ 0 := by omega
    cases is
    · skip
      obtain ⟨h1, h2, h3⟩ := HS.out
      obtain ⟨W4, hr4, hm4, ht4⟩ := HL.out.map.drew.drop h1 h2 h3 0
      have KT : Hid (Chg [mb] W3 W4) := Lib.hid ((Chg.refl _ _).drew.trans (turned_chg ht4))
      have HM4 := Lib.hid hm4
      have KS4 : Hid (∀ W, Chg [mb] W3 W → W.cell? ⟨lb, 17, none⟩ = some (.map (some mb)) ∧ W.cell? ⟨eb, 0, none⟩ = some (.int .u8 c) ∧ W.cell? ⟨eb, 1, none⟩ = some (.int .u8 d) ∧ W.cell? ⟨eb, 2, none⟩ = some (.int .u8 u) ∧ W.cell? ⟨xb, 0, none⟩ = some (.int .i64 l1) ∧ W.cell? ⟨xb, 1, none⟩ = some (.int .i64 d1)) := Lib.hid fun W hW => by
        have q1 := HL.out.blk.chg hW (by simpa using HL.out.ne)
        have q2 := HE3.out.chg hW (by simp; omega)
        have q3 := HX.out.chg hW (by simp; omega)
        exact ⟨by rw [q1.cell, ledC_map], q2.cell 0, q2.cell 1, q2.cell 2, q3.cell 0, q3.cell 1⟩
      have KD := KS4.out _ (Chg.refl _ W3).drew
      clear h1 h2 h3 hm4 ht4
      go_wp2_with fail
      refine wp_region_held_drew (S := (fun w' : World => w'.cell? ⟨lb, 17, none⟩ = some (.map (some mb)) ∧ w'.cell? ⟨eb, 0, none⟩ = some (.int .u8 c) ∧ w'.cell? ⟨eb, 1, none⟩ = some (.int .u8 d) ∧ w'.cell? ⟨eb, 2, none⟩ = some (.int .u8 u) ∧ w'.cell? ⟨xb, 0, none⟩ = some (.int .i64 l1) ∧ w'.cell? ⟨xb, 1, none⟩ = some (.int .i64 d1))) (by kernel_rfl) ?_ (fun hHeld => ?_)
      · exact KD
      refine wpAnyH_take (i := 0) (v := ?v52151_0_0) rfl (by kernel_rfl) (by kernel_rfl) (by kernel_rfl) (fun _ _ _ h => h) (Or.inl ⟨by rfl, ?hy52151_0_0⟩) (by assumption) ?_
      case hy52151_0_0 => (intro w hSw; (try dsimp only at hSw); go_simp; try (with_reducible rfl))
      (try simp only [Act.put, List.getElem_toArray, List.getElem_cons_zero, List.setIfInBounds_toArray, List.set_cons_zero, List.set_cons_succ])
      refine wpAnyH_take (i := 1) (v := ?v52151_0_1) rfl (by kernel_rfl) (by kernel_rfl) (by kernel_rfl) (fun _ _ _ h => h) (Or.inl ⟨by rfl, ?hy52151_0_1⟩) (by assumption) ?_
      case hy52151_0_1 => (intro w hSw; (try dsimp only at hSw); go_simp; try (with_reducible rfl))
      (try simp only [Act.put, List.getElem_toArray, List.getElem_cons_zero, List.getElem_cons_succ, List.setIfInBounds_toArray, List.set_cons_zero, List.set_cons_succ])
      refine wpAnyH_take (i := 2) (v := ?v52151_0_2) rfl (by kernel_rfl) (by kernel_rfl) (by kernel_rfl) (fun _ _ _ h => h) (Or.inl ⟨by rfl, ?hy52151_0_2⟩) (by assumption) ?_
      case hy52151_0_2 => (intro w hSw; (try dsimp only at hSw); go_simp; try (with_reducible rfl))
      (try simp only [Act.put, List.getElem_toArray, List.getElem_cons_zero, List.getElem_cons_succ, List.setIfInBounds_toArray, List.set_cons_zero, List.set_cons_succ])
      refine wpAnyH_take (i := 3) (v := ?v52151_0_3) rfl (by kernel_rfl) (by kernel_rfl) (by kernel_rfl) (fun _ _ _ h => h) (Or.inl ⟨by rfl, ?hy52151_0_3⟩) (by assumption) ?_
      case hy52151_0_3 => (intro w hSw; (try dsimp only at hSw); go_simp; try (with_reducible rfl))
      (try simp only [Act.put, List.getElem_toArray, List.getElem_cons_zero, List.getElem_cons_succ, List.setIfInBounds_toArray, List.set_cons_zero, List.set_cons_succ])
      refine wpAnyH_take (i := 4) (v := ?v52151_0_4) rfl (by kernel_rfl) (by kernel_rfl) (by kernel_rfl) (fun _ _ _ h => h) (Or.inl ⟨by rfl, ?hy52151_0_4⟩) (by assumption) ?_
      case hy52151_0_4 => (intro w hSw; (try dsimp only at hSw); go_simp; try (with_reducible rfl))
      (try simp only [Act.put, List.getElem_toArray, List.getElem_cons_zero, List.getElem_cons_succ, List.setIfInBounds_toArray, List.set_cons_zero, List.set_cons_succ])
      refine wpAnyH_ready (rs := [5]) (by kernel_rfl) (by simp) (AllReadyH.cons rfl (fun K hK => ?_) AllReadyH.nil)
      go_simp
      refine hK.out _ _ ?_ (fun hHeld => ?_)
      · exact KS4.out _ KT.out
      clear hK K
      (try simp only [Act.put, List.getElem_toArray, List.getElem_cons_zero, List.getElem_cons_succ, List.setIfInBounds_toArray, List.set_cons_zero, List.set_cons_succ])
      refine wpAnyH_done (by kernel_rfl) ?_ _
      go_wp2_with fail
      go_ret
      exact ⟨by rw [HE0.out]; rfl, by rw [HLD.out]; exact HM4.out, (HC.out.mono (by simp)).trans KT.out⟩
    · skip
      obtain ⟨h1, h2, h3⟩ := HS.out
      obtain ⟨W4, hr4, hm4, ht4⟩ := HL.out.map.drew.drop h1 h2 h3 0
      have KT : Hid (Chg [mb] W3 W4) := Lib.hid ((Chg.refl _ _).drew.trans (turned_chg ht4))
      have HM4 := Lib.hid hm4
      have KS4 : Hid (∀ W, Chg [mb] W3 W → W.cell? ⟨lb, 17, none⟩ = some (.map (some mb)) ∧ W.cell? ⟨eb, 0, none⟩ = some (.int .u8 c) ∧ W.cell? ⟨eb, 1, none⟩ = some (.int .u8 d) ∧ W.cell? ⟨eb, 2, none⟩ = some (.int .u8 u) ∧ W.cell? ⟨xb, 0, none⟩ = some (.int .i64 l1) ∧ W.cell? ⟨xb, 1, none⟩ = some (.int .i64 d1)) := Lib.hid fun W hW => by
        have q1 := HL.out.blk.chg hW (by simpa using HL.out.ne)
        have q2 := HE3.out.chg hW (by simp; omega)
        have q3 := HX.out.chg hW (by simp; omega)
        exact ⟨by rw [q1.cell, ledC_map], q2.cell 0, q2.cell 1, q2.cell 2, q3.cell 0, q3.cell 1⟩
      have KD := KS4.out _ (Chg.refl _ W3).drew
      clear h1 h2 h3 hm4 ht4
      go_wp2_with fail
      refine wp_region_held_drew (S := (fun w' : World => w'.cell? ⟨lb, 17, none⟩ = some (.map (some mb)) ∧ w'.cell? ⟨eb, 0, none⟩ = some (.int .u8 c) ∧ w'.cell? ⟨eb, 1, none⟩ = some (.int .u8 d) ∧ w'.cell? ⟨eb, 2, none⟩ = some (.int .u8 u) ∧ w'.cell? ⟨xb, 0, none⟩ = some (.int .i64 l1) ∧ w'.cell? ⟨xb, 1, none⟩ = some (.int .i64 d1))) (by kernel_rfl) ?_ (fun hHeld => ?_)
      · exact KD
      refine wpAnyH_take (i := 0) (v := ?v52152_0_0) rfl (by kernel_rfl) (by kernel_rfl) (by kernel_rfl) (fun _ _ _ h => h) (Or.inl ⟨by rfl, ?hy52152_0_0⟩) (by assumption) ?_
      case hy52152_0_0 => (intro w hSw; (try dsimp only at hSw); go_simp; try (with_reducible rfl))
      (try simp only [Act.put, List.getElem_toArray, List.getElem_cons_zero, List.setIfInBounds_toArray, List.set_cons_zero, List.set_cons_succ])
      refine wpAnyH_take (i := 1) (v := ?v52152_0_1) rfl (by kernel_rfl) (by kernel_rfl) (by kernel_rfl) (fun _ _ _ h => h) (Or.inl ⟨by rfl, ?hy52152_0_1⟩) (by assumption) ?_
      case hy52152_0_1 => (intro w hSw; (try dsimp only at hSw); go_simp; try (with_reducible rfl))
      (try simp only [Act.put, List.getElem_toArray, List.getElem_cons_zero, List.getElem_cons_succ, List.setIfInBounds_toArray, List.set_cons_zero, List.set_cons_succ])
      refine wpAnyH_take (i := 2) (v := ?v52152_0_2) rfl (by kernel_rfl) (by kernel_rfl) (by kernel_rfl) (fun _ _ _ h => h) (Or.inl ⟨by rfl, ?hy52152_0_2⟩) (by assumption) ?_
      case hy52152_0_2 => (intro w hSw; (try dsimp only at hSw); go_simp; try (with_reducible rfl))
      (try simp only [Act.put, List.getElem_toArray, List.getElem_cons_zero, List.getElem_cons_succ, List.setIfInBounds_toArray, List.set_cons_zero, List.set_cons_succ])
      refine wpAnyH_take (i := 3) (v := ?v52152_0_3) rfl (by kernel_rfl) (by kernel_rfl) (by kernel_rfl) (fun _ _ _ h => h) (Or.inl ⟨by rfl, ?hy52152_0_3⟩) (by assumption) ?_
      case hy52152_0_3 => (intro w hSw; (try dsimp only at hSw); go_simp; try (with_reducible rfl))
      (try simp only [Act.put, List.getElem_toArray, List.getElem_cons_zero, List.getElem_cons_succ, List.setIfInBounds_toArray, List.set_cons_zero, List.set_cons_succ])
      refine wpAnyH_take (i := 4) (v := ?v52152_0_4) rfl (by kernel_rfl) (by kernel_rfl) (by kernel_rfl) (fun _ _ _ h => h) (Or.inl ⟨by rfl, ?hy52152_0_4⟩) (by assumption) ?_
      case hy52152_0_4 => (intro w hSw; (try dsimp only at hSw); go_simp; try (with_reducible rfl))
      (try simp only [Act.put, List.getElem_toArray, List.getElem_cons_zero, List.getElem_cons_succ, List.setIfInBounds_toArray, List.set_cons_zero, List.set_cons_succ])
      refine wpAnyH_ready (rs := [5]) (by kernel_rfl) (by simp) (AllReadyH.cons rfl (fun K hK => ?_) AllReadyH.nil)
      go_simp
      refine hK.out _ _ ?_ (fun hHeld => ?_)
      · exact KS4.out _ KT.out
      clear hK K
      (try simp only [Act.put, List.getElem_toArray, List.getElem_cons_zero, List.getElem_cons_succ, List.setIfInBounds_toArray, List.set_cons_zero, List.set_cons_succ])
      refine wpAnyH_done (by kernel_rfl) ?_ _
      go_wp2_with fail
      go_ret
      exact ⟨by rw [HE0.out]; rfl, by rw [HLD.out]; exact HM4.out, (HC.out.mono (by simp)).trans KT.out⟩
  have hnz : (n == 0) = false := by simpa using hz
  have hn0 : 0 < n := by omega
  have hn1 : d1 ≤ n := by omega
  cases is with
  | true =>
    have HE0 : Hid (ltrustE S L c d u n = 0) := Lib.hid (by rw [HEQ.out, if_neg (by simp)])
    have HLD : Hid (ltrustL S L c d u n = setL L ⟨c, d, u, n, d1⟩) := Lib.hid (by rw [HLQ.out, HE0.out, if_pos rfl, if_neg hz])
    clear HEQ HLQ hz hlt
    · skip
      obtain ⟨W4, hr4, hm4, ht4⟩ := HL.out.map.drew.store (x := ⟨c, d, u, n, d1⟩) (by have := HL.out.good.few; omega) HS.out
      have KT : Hid (Chg [mb] W3 W4) := Lib.hid ((Chg.refl _ _).drew.trans (turned_chg ht4))
      have HM4 := Lib.hid hm4
      have KS4 : Hid (∀ W, Chg [mb] W3 W → W.cell? ⟨lb, 17, none⟩ = some (.map (some mb)) ∧ W.cell? ⟨eb, 0, none⟩ = some (.int .u8 c) ∧ W.cell? ⟨eb, 1, none⟩ = some (.int .u8 d) ∧ W.cell? ⟨eb, 2, none⟩ = some (.int .u8 u) ∧ W.cell? ⟨xb, 0, none⟩ = some (.int .i64 l1) ∧ W.cell? ⟨xb, 1, none⟩ = some (.int .i64 d1)) := Lib.hid fun W hW => by
        have q1 := HL.out.blk.chg hW (by simpa using HL.out.ne)
        have q2 := HE3.out.chg hW (by simp; omega)
        have q3 := HX.out.chg hW (by simp; omega)
        exact ⟨by rw [q1.cell, ledC_map], q2.cell 0, q2.cell 1, q2.cell 2, q3.cell 0, q3.cell 1⟩
      have KD := KS4.out _ (Chg.refl _ W3).drew
      clear hm4 ht4
      go_wp2_with fail
      refine wp_region_held_drew (S := (fun w' : World => w'.cell? ⟨lb, 17, none⟩ = some (.map (some mb)) ∧ w'.cell? ⟨eb, 0, none⟩ = some (.int .u8 c) ∧ w'.cell? ⟨eb, 1, none⟩ = some (.int .u8 d) ∧ w'.cell? ⟨eb, 2, none⟩ = some (.int .u8 u) ∧ w'.cell? ⟨xb, 0, none⟩ = some (.int .i64 l1) ∧ w'.cell? ⟨xb, 1, none⟩ = some (.int .i64 d1))) (by kernel_rfl) ?_ (fun hHeld => ?_)
      · exact KD
      refine wpAnyH_take (i := 0) (v := ?v5291_0_0) rfl (by kernel_rfl) (by kernel_rfl) (by kernel_rfl) (fun _ _ _ h => h) (Or.inl ⟨by rfl, ?hy5291_0_0⟩) (by assumption) ?_
      case hy5291_0_0 => (intro w hSw; (try dsimp only at hSw); go_simp; try (with_reducible rfl))
      (try simp only [Act.put, List.getElem_toArray, List.getElem_cons_zero, List.setIfInBounds_toArray, List.set_cons_zero, List.set_cons_succ])
      refine wpAnyH_take (i := 1) (v := ?v5291_0_1) rfl (by kernel_rfl) (by kernel_rfl) (by kernel_rfl) (fun _ _ _ h => h) (Or.inl ⟨by rfl, ?hy5291_0_1⟩) (by assumption) ?_
      case hy5291_0_1 => (intro w hSw; (try dsimp only at hSw); go_simp; try (with_reducible rfl))
      (try simp only [Act.put, List.getElem_toArray, List.getElem_cons_zero, List.getElem_cons_succ, List.setIfInBounds_toArray, List.set_cons_zero, List.set_cons_succ])
      refine wpAnyH_take (i := 2) (v := ?v5291_0_2) rfl (by kernel_rfl) (by kernel_rfl) (by kernel_rfl) (fun _ _ _ h => h) (Or.inl ⟨by rfl, ?hy5291_0_2⟩) (by assumption) ?_
      case hy5291_0_2 => (intro w hSw; (try dsimp only at hSw); go_simp; try (with_reducible rfl))
      (try simp only [Act.put, List.getElem_toArray, List.getElem_cons_zero, List.getElem_cons_succ, List.setIfInBounds_toArray, List.set_cons_zero, List.set_cons_succ])
      refine wpAnyH_take (i := 3) (v := ?v5291_0_3) rfl (by kernel_rfl) (by kernel_rfl) (by kernel_rfl) (fun _ _ _ h => h) (Or.inl ⟨by rfl, ?hy5291_0_3⟩) (by assumption) ?_
      case hy5291_0_3 => (intro w hSw; (try dsimp only at hSw); go_simp; try (with_reducible rfl))
      (try simp only [Act.put, List.getElem_toArray, List.getElem_cons_zero, List.getElem_cons_succ, List.setIfInBounds_toArray, List.set_cons_zero, List.set_cons_succ])
      refine wpAnyH_take (i := 4) (v := ?v5291_0_4) rfl (by kernel_rfl) (by kernel_rfl) (by kernel_rfl) (fun _ _ _ h => h) (Or.inl ⟨by rfl, ?hy5291_0_4⟩) (by assumption) ?_
      case hy5291_0_4 => (intro w hSw; (try dsimp only at hSw); go_simp; try (with_reducible rfl))
      (try simp only [Act.put, List.getElem_toArray, List.getElem_cons_zero, List.getElem_cons_succ, List.setIfInBounds_toArray, List.set_cons_zero, List.set_cons_succ])
      refine wpAnyH_take (i := 5) (v := ?v5291_0_5) rfl (by kernel_rfl) (by kernel_rfl) (by kernel_rfl) (fun _ _ _ h => h) (Or.inl ⟨by rfl, ?hy5291_0_5⟩) (by assumption) ?_
      case hy5291_0_5 => (intro w hSw; (try dsimp only at hSw); go_simp; try (with_reducible rfl))
      (try simp only [Act.put, List.getElem_toArray, List.getElem_cons_zero, List.getElem_cons_succ, List.setIfInBounds_toArray, List.set_cons_zero, List.set_cons_succ])
      refine wpAnyH_take (i := 6) (v := ?v5291_0_6) rfl (by kernel_rfl) (by kernel_rfl) (by kernel_rfl) (fun _ _ _ h => h) (Or.inl ⟨by rfl, ?hy5291_0_6⟩) (by assumption) ?_
      case hy5291_0_6 => (intro w hSw; (try dsimp only at hSw); go_simp; try (with_reducible rfl))
      (try simp only [Act.put, List.getElem_toArray, List.getElem_cons_zero, List.getElem_cons_succ, List.setIfInBounds_toArray, List.set_cons_zero, List.set_cons_succ])
      refine wpAnyH_take (i := 7) (v := ?v5291_0_7) rfl (by kernel_rfl) (by kernel_rfl) (by kernel_rfl) (fun _ _ _ h => h) (Or.inl ⟨by rfl, ?hy5291_0_7⟩) (by assumption) ?_
      case hy5291_0_7 => (intro w hSw; (try dsimp only at hSw); go_simp; try (with_reducible rfl))
      (try simp only [Act.put, List.getElem_toArray, List.getElem_cons_zero, List.getElem_cons_succ, List.setIfInBounds_toArray, List.set_cons_zero, List.set_cons_succ])
      refine wpAnyH_take (i := 8) (v := ?v5291_0_8) rfl (by kernel_rfl) (by kernel_rfl) (by kernel_rfl) (fun _ _ _ h => h) (Or.inl ⟨by rfl, ?hy5291_0_8⟩) (by assumption) ?_
      case hy5291_0_8 => (intro w hSw; (try dsimp only at hSw); go_simp; try (with_reducible rfl))
      (try simp only [Act.put, List.getElem_toArray, List.getElem_cons_zero, List.getElem_cons_succ, List.setIfInBounds_toArray, List.set_cons_zero, List.set_cons_succ])
      refine wpAnyH_ready (rs := [9]) (by kernel_rfl) (by simp) (AllReadyH.cons rfl (fun K hK => ?_) AllReadyH.nil)
      go_simp
      refine hK.out _ _ ?_ (fun hHeld => ?_)
      · exact KS4.out _ KT.out
      clear hK K
      (try simp only [Act.put, List.getElem_toArray, List.getElem_cons_zero, List.getElem_cons_succ, List.setIfInBounds_toArray, List.set_cons_zero, List.set_cons_succ])
      refine wpAnyH_done (by kernel_rfl) ?_ _
      go_wp2_with fail
      go_ret
      exact ⟨by rw [HE0.out]; rfl, by rw [HLD.out]; exact HM4.out, (HC.out.mono (by simp)).trans KT.out⟩
  | false =>
    by_cases hful : 64 ≤ L.length
    · rw [if_pos ⟨rfl, hn0, hful⟩] at HEQ
      rw [HEQ.out, if_neg (by omega)] at HLQ
      have hf1 : (64 : Int) ≤ L.length := by omega
      have hc17 := HL.out.cell
      go_wp2_with fail
      go_ret
      exact ⟨by rw [HEQ.out]; rfl, by rw [HLQ.out]; exact HL.out.map, HC.out.mono (by simp)⟩
    · have HE0 : Hid (ltrustE S L c d u n = 0) := Lib.hid (by rw [HEQ.out, if_neg (by omega)])
      have HLD : Hid (ltrustL S L c d u n = setL L ⟨c, d, u, n, d1⟩) := Lib.hid (by rw [HLQ.out, HE0.out, if_pos rfl, if_neg hz])
      clear HEQ HLQ hz hlt
      have hf1 : (L.length : Int) < 64 := by omega
      have hc17 := HL.out.cell
      obtain ⟨W4, hr4, hm4, ht4⟩ := HL.out.map.drew.store (x := ⟨c, d, u, n, d1⟩) (by have := HL.out.good.few; omega) HS.out
      have KT : Hid (Chg [mb] W3 W4) := Lib.hid ((Chg.refl _ _).drew.trans (turned_chg ht4))
      have HM4 := Lib.hid hm4
      have KS4 : Hid (∀ W, Chg [mb] W3 W → W.cell? ⟨lb, 17, none⟩ = some (.map (some mb)) ∧ W.cell? ⟨eb, 0, none⟩ = some (.int .u8 c) ∧ W.cell? ⟨eb, 1, none⟩ = some (.int .u8 d) ∧ W.cell? ⟨eb, 2, none⟩ = some (.int .u8 u) ∧ W.cell? ⟨xb, 0, none⟩ = some (.int .i64 l1) ∧ W.cell? ⟨xb, 1, none⟩ = some (.int .i64 d1)) := Lib.hid fun W hW => by
        have q1 := HL.out.blk.chg hW (by simpa using HL.out.ne)
        have q2 := HE3.out.chg hW (by simp; omega)
        have q3 := HX.out.chg hW (by simp; omega)
        exact ⟨by rw [q1.cell, ledC_map], q2.cell 0, q2.cell 1, q2.cell 2, q3.cell 0, q3.cell 1⟩
      have KD := KS4.out _ (Chg.refl _ W3).drew
      clear hm4 ht4
      go_wp2_with fail
      refine wp_region_held_drew (S := (fun w' : World => w'.cell? ⟨lb, 17, none⟩ = some (.map (some mb)) ∧ w'.cell? ⟨eb, 0, none⟩ = some (.int .u8 c) ∧ w'.cell? ⟨eb, 1, none⟩ = some (.int .u8 d) ∧ w'.cell? ⟨eb, 2, none⟩ = some (.int .u8 u) ∧ w'.cell? ⟨xb, 0, none⟩ = some (.int .i64 l1) ∧ w'.cell? ⟨xb, 1, none⟩ = some (.int .i64 d1))) (by kernel_rfl) ?_ (fun hHeld => ?_)
      · exact KD
      refine wpAnyH_take (i := 0) (v := ?v5292_0_0) rfl (by kernel_rfl) (by kernel_rfl) (by kernel_rfl) (fun _ _ _ h => h) (Or.inl ⟨by rfl, ?hy5292_0_0⟩) (by assumption) ?_
      case hy5292_0_0 => (intro w hSw; (try dsimp only at hSw); go_simp; try (with_reducible rfl))
      (try simp only [Act.put, List.getElem_toArray, List.getElem_cons_zero, List.setIfInBounds_toArray, List.set_cons_zero, List.set_cons_succ])
      refine wpAnyH_take (i := 1) (v := ?v5292_0_1) rfl (by kernel_rfl) (by kernel_rfl) (by kernel_rfl) (fun _ _ _ h => h) (Or.inl ⟨by rfl, ?hy5292_0_1⟩) (by assumption) ?_
      case hy5292_0_1 => (intro w hSw; (try dsimp only at hSw); go_simp; try (with_reducible rfl))
      (try simp only [Act.put, List.getElem_toArray, List.getElem_cons_zero, List.getElem_cons_succ, List.setIfInBounds_toArray, List.set_cons_zero, List.set_cons_succ])
      refine wpAnyH_take (i := 2) (v := ?v5292_0_2) rfl (by kernel_rfl) (by kernel_rfl) (by kernel_rfl) (fun _ _ _ h => h) (Or.inl ⟨by rfl, ?hy5292_0_2⟩) (by assumption) ?_
      case hy5292_0_2 => (intro w hSw; (try dsimp only at hSw); go_simp; try (with_reducible rfl))
      (try simp only [Act.put, List.getElem_toArray, List.getElem_cons_zero, List.getElem_cons_succ, List.setIfInBounds_toArray, List.set_cons_zero, List.set_cons_succ])
      refine wpAnyH_take (i := 3) (v := ?v5292_0_3) rfl (by kernel_rfl) (by kernel_rfl) (by kernel_rfl) (fun _ _ _ h => h) (Or.inl ⟨by rfl, ?hy5292_0_3⟩) (by assumption) ?_
      case hy5292_0_3 => (intro w hSw; (try dsimp only at hSw); go_simp; try (with_reducible rfl))
      (try simp only [Act.put, List.getElem_toArray, List.getElem_cons_zero, List.getElem_cons_succ, List.setIfInBounds_toArray, List.set_cons_zero, List.set_cons_succ])
      refine wpAnyH_take (i := 4) (v := ?v5292_0_4) rfl (by kernel_rfl) (by kernel_rfl) (by kernel_rfl) (fun _ _ _ h => h) (Or.inl ⟨by rfl, ?hy5292_0_4⟩) (by assumption) ?_
      case hy5292_0_4 => (intro w hSw; (try dsimp only at hSw); go_simp; try (with_reducible rfl))
      (try simp only [Act.put, List.getElem_toArray, List.getElem_cons_zero, List.getElem_cons_succ, List.setIfInBounds_toArray, List.set_cons_zero, List.set_cons_succ])
      refine wpAnyH_take (i := 5) (v := ?v5292_0_5) rfl (by kernel_rfl) (by kernel_rfl) (by kernel_rfl) (fun _ _ _ h => h) (Or.inl ⟨by rfl, ?hy5292_0_5⟩) (by assumption) ?_
      case hy5292_0_5 => (intro w hSw; (try dsimp only at hSw); go_simp; try (with_reducible rfl))
      (try simp only [Act.put, List.getElem_toArray, List.getElem_cons_zero, List.getElem_cons_succ, List.setIfInBounds_toArray, List.set_cons_zero, List.set_cons_succ])
      refine wpAnyH_take (i := 6) (v := ?v5292_0_6) rfl (by kernel_rfl) (by kernel_rfl) (by kernel_rfl) (fun _ _ _ h => h) (Or.inl ⟨by rfl, ?hy5292_0_6⟩) (by assumption) ?_
      case hy5292_0_6 => (intro w hSw; (try dsimp only at hSw); go_simp; try (with_reducible rfl))
      (try simp only [Act.put, List.getElem_toArray, List.getElem_cons_zero, List.getElem_cons_succ, List.setIfInBounds_toArray, List.set_cons_zero, List.set_cons_succ])
      refine wpAnyH_take (i := 7) (v := ?v5292_0_7) rfl (by kernel_rfl) (by kernel_rfl) (by kernel_rfl) (fun _ _ _ h => h) (Or.inl ⟨by rfl, ?hy5292_0_7⟩) (by assumption) ?_
      case hy5292_0_7 => (intro w hSw; (try dsimp only at hSw); go_simp; try (with_reducible rfl))
      (try simp only [Act.put, List.getElem_toArray, List.getElem_cons_zero, List.getElem_cons_succ, List.setIfInBounds_toArray, List.set_cons_zero, List.set_cons_succ])
      refine wpAnyH_take (i := 8) (v := ?v5292_0_8) rfl (by kernel_rfl) (by kernel_rfl) (by kernel_rfl) (fun _ _ _ h => h) (Or.inl ⟨by rfl, ?hy5292_0_8⟩) (by assumption) ?_
      case hy5292_0_8 => (intro w hSw; (try dsimp only at hSw); go_simp; try (with_reducible rfl))
      (try simp only [Act.put, List.getElem_toArray, List.getElem_cons_zero, List.getElem_cons_succ, List.setIfInBounds_toArray, List.set_cons_zero, List.set_cons_succ])
      refine wpAnyH_ready (rs := [9]) (by kernel_rfl) (by simp) (AllReadyH.cons rfl (fun K hK => ?_) AllReadyH.nil)
      go_simp
      refine hK.out _ _ ?_ (fun hHeld => ?_)
      · exact KS4.out _ KT.out
      clear hK K
      (try simp only [Act.put, List.getElem_toArray, List.getElem_cons_zero, List.getElem_cons_succ, List.setIfInBounds_toArray, List.set_cons_zero, List.set_cons_succ])
      refine wpAnyH_done (by kernel_rfl) ?_ _
      go_wp2_with fail
      go_ret
      exact ⟨by rw [HE0.out]; rfl, by rw [HLD.out]; exact HM4.out, (HC.out.mono (by simp)).trans KT.out⟩

theorem GoodL.del (h : GoodL S L) (r : Nat) : GoodL S (delR L r) := by
  have hm : ∀ z ∈ delR L r, z ∈ L := fun z hz => (List.mem_filter.1 hz).1
  exact ⟨fun z hz => h.ends z (hm z hz), fun z hz => h.open_ z (hm z hz), fun z hz => h.owed z (hm z hz), Nat.le_trans (List.length_filter_le _ _) h.few, h.pts⟩
theorem GoodL.trust (h : GoodL S L) (hs : Sorted L) (c d u : Nat) (n : Int) : GoodL S (ltrustL S L c d u n) := by
  unfold ltrustL
  split
  · rename_i hE
    split
    · exact h.del _
    · rename_i hz
      unfold ltrustE at hE
      split at hE
      · omega
      · rename_i h1
        split at hE
        · omega
        · rename_i h2
          split at hE
          · omega
          · rename_i h3
            split at hE
            · omega
            · rename_i h4
              simp only [not_or, Bool.not_eq_false] at h1 h2
              obtain ⟨k1, k2, k3, k4, k5⟩ := endsOk_of h1.1
              obtain ⟨b1, b2, b3, b4⟩ := h.at (rk c d u)
              refine ⟨fun z hz => ?_, fun z hz => ?_, fun z hz => ?_, ?_, h.pts⟩
              · rcases mem_setL hz with rfl | hz
                · exact ⟨mem_P16.2 k1, mem_P16.2 k2, k3, k4, k5⟩
                · exact h.ends z hz
              · rcases mem_setL hz with rfl | hz
                · exact h2
                · exact h.open_ z hz
              · rcases mem_setL hz with rfl | hz
                · dsimp only; omega
                · exact h.owed z hz
              · have hf := h.few
                rw [length_set hs, show (⟨c, d, u, n, (owedAt L (rk c d u)).2⟩ : Ln).rank = rk c d u from rfl]
                split
                · exact hf
                · rename_i hi
                  have : ¬ 64 ≤ L.length := fun h64 => h4 ⟨by simpa using hi, by omega, h64⟩
                  omega
  · exact h

theorem ltrust (h : IsL w lb mb S L) (c d u : Nat) (n : Int) :
    Calls Try.prog 60 #[.pointer (some ⟨lb, 0, none⟩), .int .u8 c, .int .u8 d, .int .u8 u, .int .i64 n] w fun e w' => e = .returned (.int .i64 (ltrustE S L c d u n)) ∧ IsL w' lb mb S (ltrustL S L c d u n) ∧ Chg [mb] w w' := by
  have hlm := h.ne
  by_cases h1 : endsOk c d u = false ∨ n < 0 ∨ 1099511627776 < n
  · have hE : ltrustE S L c d u n = 1 := by unfold ltrustE; rw [if_pos h1]
    have hL : ltrustL S L c d u n = L := by unfold ltrustL; rw [hE, if_neg (by omega)]
    rw [hE, hL]
    rcases Bool.eq_false_or_eq_true (endsOk c d u) with hk | hk
    · refine (ltrust_arg h hk (by simpa [hk] using h1)).mono ?_
      rintro e w' ⟨rfl, hc⟩
      exact ⟨rfl, h.chg0 hc, hc.mono (by simp)⟩
    · refine (ltrust_ends h hk).mono ?_
      rintro e w' ⟨rfl, hc⟩
      exact ⟨rfl, h.chg0 hc, hc.mono (by simp)⟩
  · have hk : endsOk c d u = true := by
      rcases Bool.eq_false_or_eq_true (endsOk c d u) with hk | hk
      · exact hk
      · exact absurd (.inl hk) h1
    by_cases h2 : S c = false ∨ S d = false
    · have hE : ltrustE S L c d u n = 7 := by unfold ltrustE; rw [if_neg h1, if_pos h2]
      have hL : ltrustL S L c d u n = L := by unfold ltrustL; rw [hE, if_neg (by omega)]
      rw [hE, hL]
      refine (ltrust_none h hk (by omega) (by omega) h2).mono ?_
      rintro e w' ⟨rfl, hc⟩
      exact ⟨rfl, h.chg0 hc, hc.mono (by simp)⟩
    · refine (ltrust_main h hk (by omega) (by omega) (by simp at h2; exact h2.1) (by simp at h2; exact h2.2)).mono ?_
      rintro e w' ⟨rfl, hm, hc⟩
      exact ⟨rfl, ⟨h.blk.chg hc (by simpa using hlm), hm, h.good.trust h.map.sorted c d u n⟩, hc⟩
end
end Go.Proofs.Ytofnaigkfhfhoaa
