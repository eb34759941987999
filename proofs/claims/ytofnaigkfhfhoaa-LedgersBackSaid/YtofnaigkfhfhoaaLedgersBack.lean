/-
  The law LedgersBack, walked.
-/
import Derived.Test.YtofnaigkfhfhoaaTwoL
namespace Go.Proofs.Ytofnaigkfhfhoaa
open Go.RowKit Go.Maps Pl
attribute [local go_sem ↓] Go.wp_at_zero Go.wp_at_succ

theorem find_of_owed {L M : List Ln} (hL : ∀ x ∈ L, x.small) (hM : ∀ x ∈ M, x.small) {r : Nat} (h1 : (findR L r).isSome = (findR M r).isSome) (h2 : owedAt L r = owedAt M r) : findR L r = findR M r := by
  unfold owedAt at h2
  cases hl : findR L r with
  | none =>
    rw [hl] at h1
    cases hm : findR M r with
    | none => rfl
    | some y => rw [hm] at h1; cases h1
  | some x =>
    rw [hl] at h1 h2
    cases hm : findR M r with
    | none => rw [hm] at h1; cases h1
    | some y =>
      rw [hm] at h2
      obtain ⟨mx, rx⟩ := find_mem hl
      obtain ⟨my, ry⟩ := find_mem hm
      obtain ⟨e1, e2, e3⟩ := rk_inj (hL x mx).1 (hL x mx).2.1 (hM y my).1 (hM y my).2.1 (rx.trans ry.symm)
      simp only [Prod.mk.injEq] at h2
      obtain ⟨x1, x2, x3, x4, x5⟩ := x
      obtain ⟨y1, y2, y3, y4, y5⟩ := y
      simp only at e1 e2 e3 h2
      obtain ⟨h4, h5⟩ := h2
      subst e1 e2 e3 h4 h5
      rfl
theorem sorted_ext {L M : List Ln} (hL : Sorted L) (hM : Sorted M) (h : ∀ r, findR L r = findR M r) : L = M := by
  have nd : ∀ {N : List Ln}, Sorted N → N.Nodup := fun hN => hN.imp fun {a b} hab => by rintro rfl; omega
  refine sorted_perm_eq ((List.perm_ext_iff_of_nodup (nd hL) (nd hM)).2 fun x => ⟨fun hx => ?_, fun hx => ?_⟩) (hL.imp fun {a b} hab => by omega) hM
  · have := mem_find hL hx
    rw [h] at this
    exact (find_mem this).1
  · have := mem_find hM hx
    rw [← h] at this
    exact (find_mem this).1
theorem some_add {L : List Ln} (hs : Sorted L) {c d u : Nat} {n : Int} (hx : n = 0 ∨ (findR L (rk c d u)).isSome) (r : Nat) : (findR (addL L c d u n) r).isSome = (findR L r).isSome := by
  unfold addL
  by_cases h0 : n = 0
  · rw [if_pos h0]
  · rw [if_neg h0, find_set hs]
    split
    · rename_i e
      rcases hx with hx | hx
      · exact absurd hx h0
      · have e : rk c d u = r := e
        rw [← e, hx]; rfl
    · rfl
theorem some_pushed {S : Nat → Bool} {L : List Ln} (h : GoodL S L) (hs : Sorted L) {f t u : Nat} {n : Int} (h1 : 1 ≤ n) (h2 : n ≤ room L f t u) (r : Nat) : (findR (pushed L f t u n) r).isSome = (findR L r).isSome := by
  have b1 := h.at (rk f t u)
  have b2 := h.at (rk t f u)
  unfold room at h2
  have hfall : fallOf L f t u n = min n (owedAt L (rk f t u)).2 := rfl
  have x1 : -fallOf L f t u n = 0 ∨ (findR L (rk f t u)).isSome := by
    by_cases e : (owedAt L (rk f t u)).2 = 0
    · left; rw [hfall, e]; omega
    · obtain ⟨x, hx, _⟩ := owedAt_some (.inr e)
      right; rw [hx]; rfl
  have x2 : n - fallOf L f t u n = 0 ∨ (findR (addL L f t u (-fallOf L f t u n)) (rk t f u)).isSome := by
    by_cases e : n - fallOf L f t u n = 0
    · exact .inl e
    · right
      rw [some_add hs x1]
      obtain ⟨x, hx, _⟩ := owedAt_some (L := L) (r := rk t f u) (.inl (by omega))
      rw [hx]; rfl
  unfold pushed
  rw [some_add (sorted_add hs _ _ _ _) x2, some_add hs x1]

/-- Pushed, and pushed back. -/
theorem back_facts {S : Nat → Bool} {L : List Ln} (h : GoodL S L) (hs : Sorted L) (hsm : ∀ x ∈ L, x.small) {a b c : Nat} (ha : a < 256) (hb : b < 256) (hc : c < 256) {n : Int} (h1 : 1 ≤ n) (h2 : n ≤ room L a b c) :
    n ≤ room (pushed L a b c n) b a c ∧ a ≠ b ∧
    (∀ p, posOf (pushed (pushed L a b c n) b a c n) p c = posOf L p c) ∧ room (pushed (pushed L a b c n) b a c n) a b c = room L a b c ∧ room (pushed (pushed L a b c n) b a c n) b a c = room L b a c ∧
    ((owedAt L (rk a b c)).2 ≤ 0 ∨ (owedAt L (rk b a c)).2 ≤ 0 → pushed (pushed L a b c n) b a c n = L) := by
  obtain ⟨hne, _⟩ := room_in (u := c) h hsm ha hb (by omega)
  have hp := push_facts h hs hsm ha hb hc h1 h2
  have hs2 : Sorted (pushed L a b c n) := sorted_add (sorted_add hs _ _ _ _) _ _ _ _
  have hsm2 : ∀ x ∈ pushed L a b c n, x.small := small_add (small_add hsm ha hb hc _) hb ha hc _
  have r1 : room (pushed L a b c n) b a c = room L b a c + n := by rw [room_pushed hs ha hb hb ha hne, if_pos rfl, if_neg (fun h => hne h.1.symm), if_pos ⟨rfl, rfl⟩]
  have r2 : room (pushed L a b c n) a b c = room L a b c - n := by rw [room_pushed hs ha hb ha hb hne, if_pos rfl, if_pos ⟨rfl, rfl⟩]
  have hr0 := (room_bd h b a c).1
  have h3 : n ≤ room (pushed L a b c n) b a c := by rw [r1]; omega
  refine ⟨h3, hne, fun p => ?_, ?_, ?_, fun h0 => ?_⟩
  · rw [pos_pushed hp.2.1 hs2 hsm2 hb ha hc h1 h3, pos_pushed h hs hsm ha hb hc h1 h2]
    simp only [if_true]
    by_cases e1 : b = p <;> by_cases e2 : a = p <;> simp [e1, e2] <;> omega
  · rw [room_pushed hs2 hb ha ha hb (Ne.symm hne), if_pos rfl, if_neg (fun h => hne h.1), if_pos ⟨rfl, rfl⟩, r2]; omega
  · rw [room_pushed hs2 hb ha hb ha (Ne.symm hne), if_pos rfl, if_pos ⟨rfl, rfl⟩, r1]; omega
  · have hs3 : Sorted (pushed (pushed L a b c n) b a c n) := sorted_add (sorted_add hs2 _ _ _ _) _ _ _ _
    have hsm3 : ∀ x ∈ pushed (pushed L a b c n) b a c n, x.small := small_add (small_add hsm2 hb ha hc _) ha hb hc _
    refine sorted_ext hs3 hs fun r => find_of_owed hsm3 hsm ?_ ?_
    · rw [some_pushed hp.2.1 hs2 h1 h3, some_pushed h hs h1 h2]
    · have b1 := h.at (rk a b c)
      have b2 := h.at (rk b a c)
      have f1 : fallOf L a b c n = min n (owedAt L (rk a b c)).2 := rfl
      have f2 : fallOf (pushed L a b c n) b a c n = min n (owedAt (pushed L a b c n) (rk b a c)).2 := rfl
      have hk : rk b a c ≠ rk a b c := fun e => rk_ne hne e.symm
      rw [owedAt_pushed hs hne, if_pos rfl] at f2
      simp only at f2
      rw [owedAt_pushed hs2 (Ne.symm hne), owedAt_pushed hs hne]
      by_cases e1 : rk a b c = r
      · subst e1
        rw [if_pos rfl, if_neg hk, if_pos rfl]
        refine Prod.ext rfl ?_
        dsimp only
        omega
      · rw [if_neg e1]
        by_cases e2 : rk b a c = r
        · subst e2
          rw [if_pos rfl, if_pos rfl]
          refine Prod.ext rfl ?_
          dsimp only
          omega
        · rw [if_neg e2, if_neg e2, if_neg e1]

theorem line_any (L : List Ln) (c d u : Nat) : ∃ p1 p2 p3 lm : Int, lineV L c d u = .agg #[.int .u8 p1, .int .u8 p2, .int .u8 p3, .int .i64 lm, .int .i64 (owedAt L (rk c d u)).2] := by
  unfold lineV owedAt
  cases findR L (rk c d u) with
  | none => exact ⟨0, 0, 0, 0, rfl⟩
  | some x => exact ⟨c, d, u, x.lim, rfl⟩

set_option maxRecDepth 100000 in
set_option maxHeartbeats 8000000 in
theorem ledgersBack_walk {w : World} {va : Value} {l : List Deed} {k a b c : Nat} {n : Int} (hl : RdAct w va l) (_ : k < 256) (ha : a < 256) (hb : b < 256) (hc : c < 256) (_ : -9223372036854775808 ≤ n ∧ n ≤ 9223372036854775807) :
    Calls Try.prog 6 #[va, .agg #[.int .u8 k, .int .u8 a, .int .u8 b, .int .u8 c, .int .i64 n]] w fun e w' => e = .returned (.bool true) ∧ Chg [] w w' := by
  have HLV := Lib.hid (fun W => lives3 W)
  have HA := Lib.hid hl
  obtain ⟨ao, acap, rfl⟩ := rdact_shape hl
  clear hl
  by_cases hla : 120 < l.length
  · have hla1 : (120 : Int) < l.length := by omega
    go_enter Try.func6, Try.ntmps6
    go_wp2_with fail
    refine (HLV.out _).mono ?_; rintro e w' ⟨rfl, hc⟩
    have HC := Lib.hid hc
    clear hc
    go_wp2
    go_ret
    exact ⟨rfl, ((Chg.refl _ _).alloc _).trans HC.out⟩
  have hla1 : (l.length : Int) ≤ 120 := by omega
  have HX0 := Lib.hid (Blk.new w 57 #[.int .u8 k, .int .u8 a, .int .u8 b, .int .u8 c, .int .i64 n])
  have HCX : Hid (Chg [] w (w.alloc (.cells #[.int .u8 k, .int .u8 a, .int .u8 b, .int .u8 c, .int .i64 n] 57))) := Lib.hid ((Chg.refl _ _).alloc _)
  obtain ⟨W0, hW0⟩ : ∃ W0, W0 = w.alloc (.cells #[.int .u8 k, .int .u8 a, .int .u8 b, .int .u8 c, .int .i64 n] 57) := ⟨_, rfl⟩
  obtain ⟨xb, hxb⟩ : ∃ xb, xb = w.heap.size := ⟨_, rfl⟩
  rw [← hW0] at HX0 HCX
  rw [← hxb] at HX0
  have KX : Hid (∀ W, Chg [] W0 W → W.cell? ⟨xb, 1, none⟩ = some (.int .u8 a) ∧ W.cell? ⟨xb, 2, none⟩ = some (.int .u8 b) ∧ W.cell? ⟨xb, 3, none⟩ = some (.int .u8 c) ∧ W.cell? ⟨xb, 4, none⟩ = some (.int .i64 n)) := Lib.hid fun W k => ⟨(HX0.out.chg k (by simp)).cell 1, (HX0.out.chg k (by simp)).cell 2, (HX0.out.chg k (by simp)).cell 3, (HX0.out.chg k (by simp)).cell 4⟩
  go_enter Try.func6, Try.ntmps6
  go_wp2_with fail
  rw [← hW0, ← hxb]
  clear hW0 hxb HX0
  refine (lmade (rdact_chg0 HA.out HCX.out) (by omega)).mono ?_
  rintro e w1 ⟨lb, mb, rfl, hled⟩
  obtain ⟨S, L, hI, hcp⟩ := tl_copy hled
  have HCP := Lib.hid hcp
  clear hled hI hcp HA
  go_wp2_with fail
  refine HCP.out.mono ?_
  rintro e w2 ⟨cb, nb, rfl, ht⟩
  have HT := Lib.hid ht
  have HG := Lib.hid ht.l.good
  have HSS := Lib.hid (And.intro ht.l.map.sorted ht.l.map.small)
  have HABC := Lib.hid (And.intro ha (And.intro hb hc))
  have KP := Lib.hid (lpush HT.out.l ha hb hc (n := n))
  clear ht HCP ha hb hc
  obtain ⟨x1, x2, x3, x4⟩ := KX.out w2 HT.out.ch
  go_wp2_with fail
  refine KP.out.mono ?_
  rintro e w3 ⟨he, hI, hch⟩
  have HT3 := Lib.hid (HT.out.step hI hch (by simp))
  clear hI hch x1 x2 x3 x4 KP HT
  by_cases hE : lpushE L a b c n ≠ 0
  · obtain ⟨r, hr, hr0⟩ : ∃ r, e = .returned (.int .i64 r) ∧ (r != 0) = true := ⟨_, he, by simpa using hE⟩
    subst hr
    clear he hE
    go_wp2_with fail
    refine (HLV.out _).mono ?_; rintro e w4 ⟨rfl, hch⟩
    have HT4 := Lib.hid (HT3.out.chg0 hch)
    clear hch
    go_wp2
    go_ret
    exact ⟨rfl, HCX.out.trans HT4.out.ch⟩
  have hE : lpushE L a b c n = 0 := by omega
  rw [hE] at he
  subst he
  have hL : lpushL L a b c n = pushed L a b c n := by unfold lpushL; rw [hE, if_pos rfl]
  rw [hL] at HT3
  have h1 : 1 ≤ n := by unfold lpushE at hE; split at hE <;> omega
  have h2 : n ≤ room L a b c := by unfold lpushE at hE; rw [if_neg (by omega)] at hE; split at hE <;> omega
  obtain ⟨f1, _, f3, f4, f5, f6⟩ := back_facts HG.out HSS.out.1 HSS.out.2 HABC.out.1 HABC.out.2.1 HABC.out.2.2 h1 h2
  have hE2 : lpushE (pushed L a b c n) b a c n = 0 := by unfold lpushE; rw [if_neg (by omega), if_neg (by omega)]
  have hL2 : lpushL (pushed L a b c n) b a c n = pushed (pushed L a b c n) b a c n := by unfold lpushL; rw [hE2, if_pos rfl]
  have KP := Lib.hid (lpush HT3.out.l HABC.out.2.1 HABC.out.1 HABC.out.2.2 (n := n))
  rw [hE2, hL2] at KP
  clear hE hL hE2 hL2 f1 h1 h2
  obtain ⟨x1, x2, x3, x4⟩ := KX.out w3 HT3.out.ch
  go_wp2_with fail
  refine KP.out.mono ?_
  rintro e w4 ⟨rfl, hI, hch⟩
  have HT4 := Lib.hid (HT3.out.step hI hch (by simp))
  clear hI hch x1 x2 x3 x4 KP HT3
  generalize pushed (pushed L a b c n) b a c n = LP at HT4 f3 f4 f5 f6
  have HF := Lib.hid (And.intro f3 (And.intro f4 (And.intro f5 f6)))
  clear f3 f4 f5 f6
  obtain ⟨ha, hb, hc⟩ := HABC.out
  obtain ⟨p1, p2, p3, lm, hq⟩ := line_any L a b c
  obtain ⟨q1, q2, q3, lm', hq'⟩ := line_any L b a c
  have K1 := Lib.hid (lline HT4.out.c ha hb hc)
  rw [hq] at K1
  obtain ⟨d1, hd1⟩ : ∃ d1, d1 = (owedAt L (rk a b c)).2 := ⟨_, rfl⟩
  obtain ⟨d2, hd2⟩ : ∃ d2, d2 = (owedAt L (rk b a c)).2 := ⟨_, rfl⟩
  rw [← hd1] at K1
  have K2 : Hid (∀ W, TL W0 W lb mb cb nb S LP S L → Calls Try.prog 37 #[.pointer (some ⟨cb, 0, none⟩), .int .u8 b, .int .u8 a, .int .u8 c] W fun e w' => e = .returned (.tuple #[.agg #[.int .u8 q1, .int .u8 q2, .int .u8 q3, .int .i64 lm', .int .i64 d2], .bool (findR L (rk b a c)).isSome]) ∧ Chg [] W w') := Lib.hid fun W h => by rw [hd2, ← hq']; exact lline h.c hb ha hc
  generalize (findR L (rk a b c)).isSome = is1 at K1
  generalize (findR L (rk b a c)).isSome = is2 at K2
  have HD : Hid (d1 ≤ 0 ∨ d2 ≤ 0 → LP = L) := Lib.hid (by rw [hd1, hd2]; exact HF.out.2.2.2)
  obtain ⟨r1, hr1⟩ : ∃ r, r = room L a b c := ⟨_, rfl⟩
  obtain ⟨r2, hr2⟩ : ∃ r, r = room L b a c := ⟨_, rfl⟩
  obtain ⟨z1, hz1⟩ : ∃ r, r = posOf L a c := ⟨_, rfl⟩
  obtain ⟨z2, hz2⟩ : ∃ r, r = posOf L b c := ⟨_, rfl⟩
  have KRL1 : Hid (∀ W, TL W0 W lb mb cb nb S LP S L → Calls Try.prog 34 #[.pointer (some ⟨lb, 0, none⟩), .int .u8 a, .int .u8 b, .int .u8 c] W fun e w' => e = .returned (.int .i64 r1) ∧ Chg [] W w') := Lib.hid fun W h => by rw [hr1, ← HF.out.2.1]; exact lroom h.l ha hb hc
  have KRC1 : Hid (∀ W, TL W0 W lb mb cb nb S LP S L → Calls Try.prog 34 #[.pointer (some ⟨cb, 0, none⟩), .int .u8 a, .int .u8 b, .int .u8 c] W fun e w' => e = .returned (.int .i64 r1) ∧ Chg [] W w') := Lib.hid fun W h => by rw [hr1]; exact lroom h.c ha hb hc
  have KRL2 : Hid (∀ W, TL W0 W lb mb cb nb S LP S L → Calls Try.prog 34 #[.pointer (some ⟨lb, 0, none⟩), .int .u8 b, .int .u8 a, .int .u8 c] W fun e w' => e = .returned (.int .i64 r2) ∧ Chg [] W w') := Lib.hid fun W h => by rw [hr2, ← HF.out.2.2.1]; exact lroom h.l hb ha hc
  have KRC2 : Hid (∀ W, TL W0 W lb mb cb nb S LP S L → Calls Try.prog 34 #[.pointer (some ⟨cb, 0, none⟩), .int .u8 b, .int .u8 a, .int .u8 c] W fun e w' => e = .returned (.int .i64 r2) ∧ Chg [] W w') := Lib.hid fun W h => by rw [hr2]; exact lroom h.c hb ha hc
  have KPL1 : Hid (∀ W, TL W0 W lb mb cb nb S LP S L → Calls Try.prog 36 #[.pointer (some ⟨lb, 0, none⟩), .int .u8 a, .int .u8 c] W fun e w' => e = .returned (.int .i64 z1) ∧ Chg [] W w') := Lib.hid fun W h => by rw [hz1, ← HF.out.1]; exact lposition h.l a c
  have KPC1 : Hid (∀ W, TL W0 W lb mb cb nb S LP S L → Calls Try.prog 36 #[.pointer (some ⟨cb, 0, none⟩), .int .u8 a, .int .u8 c] W fun e w' => e = .returned (.int .i64 z1) ∧ Chg [] W w') := Lib.hid fun W h => by rw [hz1]; exact lposition h.c a c
  have KPL2 : Hid (∀ W, TL W0 W lb mb cb nb S LP S L → Calls Try.prog 36 #[.pointer (some ⟨lb, 0, none⟩), .int .u8 b, .int .u8 c] W fun e w' => e = .returned (.int .i64 z2) ∧ Chg [] W w') := Lib.hid fun W h => by rw [hz2, ← HF.out.1]; exact lposition h.l b c
  have KPC2 : Hid (∀ W, TL W0 W lb mb cb nb S LP S L → Calls Try.prog 36 #[.pointer (some ⟨cb, 0, none⟩), .int .u8 b, .int .u8 c] W fun e w' => e = .returned (.int .i64 z2) ∧ Chg [] W w') := Lib.hid fun W h => by rw [hz2]; exact lposition h.c b c
  clear hr1 hr2 hz1 hz2 hq hq' hd1 hd2 ha hb hc
  obtain ⟨x1, x2, x3, x4⟩ := KX.out w4 HT4.out.ch
  go_wp2_with fail
  refine K1.out.mono ?_; rintro e w5 ⟨rfl, hch⟩
  have HBA := Lib.hid (Blk.new w5 62 #[.int .u8 p1, .int .u8 p2, .int .u8 p3, .int .i64 lm, .int .i64 d1])
  have HT6 : Hid (TL W0 (w5.alloc (.cells #[.int .u8 p1, .int .u8 p2, .int .u8 p3, .int .i64 lm, .int .i64 d1] 62)) lb mb cb nb S LP S L) := Lib.hid (HT4.out.chg0 (hch.alloc _))
  clear hch x1 x2 x3 x4
  obtain ⟨x1, x2, x3, x4⟩ := KX.out (w5.alloc (.cells #[.int .u8 p1, .int .u8 p2, .int .u8 p3, .int .i64 lm, .int .i64 d1] 62)) HT6.out.ch
  go_wp2_with fail
  refine (K2.out _ HT6.out).mono ?_; rintro e w7 ⟨rfl, hch⟩
  replace HBA := Lib.hid (HBA.out.chg hch (by simp))
  have HBB := Lib.hid (Blk.new w7 62 #[.int .u8 q1, .int .u8 q2, .int .u8 q3, .int .i64 lm', .int .i64 d2])
  have HT8 : Hid (TL W0 (w7.alloc (.cells #[.int .u8 q1, .int .u8 q2, .int .u8 q3, .int .i64 lm', .int .i64 d2] 62)) lb mb cb nb S LP S L) := Lib.hid (HT6.out.chg0 (hch.alloc _))
  replace HBA : Hid (Blk (w7.alloc (.cells #[.int .u8 q1, .int .u8 q2, .int .u8 q3, .int .i64 lm', .int .i64 d2] 62)) w5.heap.size 62 #[.int .u8 p1, .int .u8 p2, .int .u8 p3, .int .i64 lm, .int .i64 d1]) := Lib.hid (HBA.out.alloc _)
  clear hch x1 x2 x3 x4
  obtain ⟨x1, x2, x3, x4⟩ := KX.out (w7.alloc (.cells #[.int .u8 q1, .int .u8 q2, .int .u8 q3, .int .i64 lm', .int .i64 d2] 62)) HT8.out.ch
  go_wp2_with fail
  have HCC : Hid (Chg [] (w7.alloc (.cells #[.int .u8 q1, .int .u8 q2, .int .u8 q3, .int .i64 lm', .int .i64 d2] 62)) (w7.alloc (.cells #[.int .u8 q1, .int .u8 q2, .int .u8 q3, .int .i64 lm', .int .i64 d2] 62)).drew) := Lib.hid (Chg.refl _ _).drew
  simp only [List.append]
  refine wp_region_held_drew (S := (fun W : World => W.cell? ⟨xb, 1, none⟩ = some (.int .u8 a) ∧ W.cell? ⟨xb, 2, none⟩ = some (.int .u8 b) ∧ W.cell? ⟨xb, 3, none⟩ = some (.int .u8 c) ∧ W.cell? ⟨xb, 4, none⟩ = some (.int .i64 n))) (by kernel_rfl) ?_ (fun hHeld => ?_)
  · exact KX.out _ (HT8.out.ch.trans HCC.out)
  refine wpAnyH_take (i := 0) (v := ?vr11_0_0) rfl (by kernel_rfl) (by kernel_rfl) (by kernel_rfl) (fun _ _ _ h => h) (Or.inl ⟨by rfl, ?hyr11_0_0⟩) (by assumption) ?_
  case hyr11_0_0 => (intro w hSw; (try dsimp only at hSw); go_simp; try (with_reducible rfl))
  (try simp only [Act.put, List.getElem_toArray, List.getElem_cons_zero, List.setIfInBounds_toArray, List.set_cons_zero, List.set_cons_succ])
  refine wpAnyH_take (i := 1) (v := ?vr11_0_1) rfl (by kernel_rfl) (by kernel_rfl) (by kernel_rfl) (fun _ _ _ h => h) (Or.inl ⟨by rfl, ?hyr11_0_1⟩) (by assumption) ?_
  case hyr11_0_1 => (intro w hSw; (try dsimp only at hSw); go_simp; try (with_reducible rfl))
  (try simp only [Act.put, List.getElem_toArray, List.getElem_cons_zero, List.getElem_cons_succ, List.setIfInBounds_toArray, List.set_cons_zero, List.set_cons_succ])
  refine wpAnyH_take (i := 2) (v := ?vr11_0_2) rfl (by kernel_rfl) (by kernel_rfl) (by kernel_rfl) (fun _ _ _ h => h) (Or.inl ⟨by rfl, ?hyr11_0_2⟩) (by assumption) ?_
  case hyr11_0_2 => (intro w hSw; (try dsimp only at hSw); go_simp; try (with_reducible rfl))
  (try simp only [Act.put, List.getElem_toArray, List.getElem_cons_zero, List.getElem_cons_succ, List.setIfInBounds_toArray, List.set_cons_zero, List.set_cons_succ])
  refine wpAnyH_take (i := 3) (v := ?vr11_0_3) rfl (by kernel_rfl) (by kernel_rfl) (by kernel_rfl) (fun _ _ _ h => h) (Or.inl ⟨by rfl, ?hyr11_0_3⟩) (by assumption) ?_
  case hyr11_0_3 => (intro w hSw; (try dsimp only at hSw); go_simp; try (with_reducible rfl))
  (try simp only [Act.put, List.getElem_toArray, List.getElem_cons_zero, List.getElem_cons_succ, List.setIfInBounds_toArray, List.set_cons_zero, List.set_cons_succ])
  refine wpAnyH_take (i := 4) (v := ?vr11_0_4) rfl (by kernel_rfl) (by kernel_rfl) (by kernel_rfl) (fun _ _ _ h => h) (Or.inl ⟨by rfl, ?hyr11_0_4⟩) (by assumption) ?_
  case hyr11_0_4 => (intro w hSw; (try dsimp only at hSw); go_simp; try (with_reducible rfl))
  (try simp only [Act.put, List.getElem_toArray, List.getElem_cons_zero, List.getElem_cons_succ, List.setIfInBounds_toArray, List.set_cons_zero, List.set_cons_succ])
  refine wpAnyH_take (i := 5) (v := ?vr11_0_5) rfl (by kernel_rfl) (by kernel_rfl) (by kernel_rfl) (fun _ _ _ h => h) (Or.inl ⟨by rfl, ?hyr11_0_5⟩) (by assumption) ?_
  case hyr11_0_5 => (intro w hSw; (try dsimp only at hSw); go_simp; try (with_reducible rfl))
  (try simp only [Act.put, List.getElem_toArray, List.getElem_cons_zero, List.getElem_cons_succ, List.setIfInBounds_toArray, List.set_cons_zero, List.set_cons_succ])
  refine wpAnyH_take (i := 6) (v := ?vr11_0_6) rfl (by kernel_rfl) (by kernel_rfl) (by kernel_rfl) (fun _ _ _ h => h) (Or.inl ⟨by rfl, ?hyr11_0_6⟩) (by assumption) ?_
  case hyr11_0_6 => (intro w hSw; (try dsimp only at hSw); go_simp; try (with_reducible rfl))
  (try simp only [Act.put, List.getElem_toArray, List.getElem_cons_zero, List.getElem_cons_succ, List.setIfInBounds_toArray, List.set_cons_zero, List.set_cons_succ])
  refine wpAnyH_take (i := 8) (v := ?vr11_0_8) rfl (by kernel_rfl) (by kernel_rfl) (by kernel_rfl) (fun _ _ _ h => h) (Or.inl ⟨by rfl, ?hyr11_0_8⟩) (by assumption) ?_
  case hyr11_0_8 => (intro w hSw; (try dsimp only at hSw); go_simp; try (with_reducible rfl))
  (try simp only [Act.put, List.getElem_toArray, List.getElem_cons_zero, List.getElem_cons_succ, List.setIfInBounds_toArray, List.set_cons_zero, List.set_cons_succ])
  refine wpAnyH_take (i := 9) (v := ?vr11_0_9) rfl (by kernel_rfl) (by kernel_rfl) (by kernel_rfl) (fun _ _ _ h => h) (Or.inl ⟨by rfl, ?hyr11_0_9⟩) (by assumption) ?_
  case hyr11_0_9 => (intro w hSw; (try dsimp only at hSw); go_simp; try (with_reducible rfl))
  (try simp only [Act.put, List.getElem_toArray, List.getElem_cons_zero, List.getElem_cons_succ, List.setIfInBounds_toArray, List.set_cons_zero, List.set_cons_succ])
  refine wpAnyH_take (i := 10) (v := ?vr11_0_10) rfl (by kernel_rfl) (by kernel_rfl) (by kernel_rfl) (fun _ _ _ h => h) (Or.inl ⟨by rfl, ?hyr11_0_10⟩) (by assumption) ?_
  case hyr11_0_10 => (intro w hSw; (try dsimp only at hSw); go_simp; try (with_reducible rfl))
  (try simp only [Act.put, List.getElem_toArray, List.getElem_cons_zero, List.getElem_cons_succ, List.setIfInBounds_toArray, List.set_cons_zero, List.set_cons_succ])
  refine wpAnyH_take (i := 11) (v := ?vr11_0_11) rfl (by kernel_rfl) (by kernel_rfl) (by kernel_rfl) (fun _ _ _ h => h) (Or.inl ⟨by rfl, ?hyr11_0_11⟩) (by assumption) ?_
  case hyr11_0_11 => (intro w hSw; (try dsimp only at hSw); go_simp; try (with_reducible rfl))
  (try simp only [Act.put, List.getElem_toArray, List.getElem_cons_zero, List.getElem_cons_succ, List.setIfInBounds_toArray, List.set_cons_zero, List.set_cons_succ])
  refine wpAnyH_take (i := 12) (v := ?vr11_0_12) rfl (by kernel_rfl) (by kernel_rfl) (by kernel_rfl) (fun _ _ _ h => h) (Or.inl ⟨by rfl, ?hyr11_0_12⟩) (by assumption) ?_
  case hyr11_0_12 => (intro w hSw; (try dsimp only at hSw); go_simp; try (with_reducible rfl))
  (try simp only [Act.put, List.getElem_toArray, List.getElem_cons_zero, List.getElem_cons_succ, List.setIfInBounds_toArray, List.set_cons_zero, List.set_cons_succ])
  refine wpAnyH_take (i := 13) (v := ?vr11_0_13) rfl (by kernel_rfl) (by kernel_rfl) (by kernel_rfl) (fun _ _ _ h => h) (Or.inl ⟨by rfl, ?hyr11_0_13⟩) (by assumption) ?_
  case hyr11_0_13 => (intro w hSw; (try dsimp only at hSw); go_simp; try (with_reducible rfl))
  (try simp only [Act.put, List.getElem_toArray, List.getElem_cons_zero, List.getElem_cons_succ, List.setIfInBounds_toArray, List.set_cons_zero, List.set_cons_succ])
  refine wpAnyH_take (i := 14) (v := ?vr11_0_14) rfl (by kernel_rfl) (by kernel_rfl) (by kernel_rfl) (fun _ _ _ h => h) (Or.inl ⟨by rfl, ?hyr11_0_14⟩) (by assumption) ?_
  case hyr11_0_14 => (intro w hSw; (try dsimp only at hSw); go_simp; try (with_reducible rfl))
  (try simp only [Act.put, List.getElem_toArray, List.getElem_cons_zero, List.getElem_cons_succ, List.setIfInBounds_toArray, List.set_cons_zero, List.set_cons_succ])
  refine wpAnyH_ready (rs := [7]) (by kernel_rfl) (by simp) (AllReadyH.cons rfl (fun K hK => ?_) AllReadyH.nil)
  go_simp
  (refine (KRL1.out _ (HT8.out.chg0 HCC.out)).mono ?_; rintro e w' ⟨rfl, hch⟩; have HCC := Lib.hid (HCC.out.trans hch); clear hch)
  (try go_wp2_with fail)
  refine hK.out _ _ ?_ (fun hHeld => ?_)
  · exact KX.out _ (HT8.out.ch.trans HCC.out)
  clear hK K
  (try simp only [Act.put, List.getElem_toArray, List.getElem_cons_zero, List.getElem_cons_succ, List.setIfInBounds_toArray, List.set_cons_zero, List.set_cons_succ])
  refine wpAnyH_ready (rs := [15]) (by kernel_rfl) (by simp) (AllReadyH.cons rfl (fun K hK => ?_) AllReadyH.nil)
  go_simp
  (refine (KRC1.out _ (HT8.out.chg0 HCC.out)).mono ?_; rintro e w' ⟨rfl, hch⟩; have HCC := Lib.hid (HCC.out.trans hch); clear hch)
  (try go_wp2_with fail)
  refine hK.out _ _ ?_ (fun hHeld => ?_)
  · exact KX.out _ (HT8.out.ch.trans HCC.out)
  clear hK K
  (try simp only [Act.put, List.getElem_toArray, List.getElem_cons_zero, List.getElem_cons_succ, List.setIfInBounds_toArray, List.set_cons_zero, List.set_cons_succ])
  refine wpAnyH_take (i := 16) (v := ?vr11_0_16) rfl (by kernel_rfl) (by kernel_rfl) (by kernel_rfl) (fun _ _ _ h => h) (Or.inl ⟨by rfl, ?hyr11_0_16⟩) (by assumption) ?_
  case hyr11_0_16 => (intro w hSw; (try dsimp only at hSw); go_simp; try (with_reducible rfl))
  (try simp only [Act.put, List.getElem_toArray, List.getElem_cons_zero, List.getElem_cons_succ, List.setIfInBounds_toArray, List.set_cons_zero, List.set_cons_succ])
  refine wpAnyH_take (i := 17) (v := ?vr11_0_17) rfl (by kernel_rfl) (by kernel_rfl) (by kernel_rfl) (fun _ _ _ h => h) (Or.inl ⟨by rfl, ?hyr11_0_17⟩) (by assumption) ?_
  case hyr11_0_17 => (intro w hSw; (try dsimp only at hSw); go_simp; try (with_reducible rfl))
  (try simp only [Act.put, List.getElem_toArray, List.getElem_cons_zero, List.getElem_cons_succ, List.setIfInBounds_toArray, List.set_cons_zero, List.set_cons_succ])
  refine wpAnyH_take (i := 18) (v := ?vr11_0_18) rfl (by kernel_rfl) (by kernel_rfl) (by kernel_rfl) (fun _ _ _ h => h) (Or.inl ⟨by rfl, ?hyr11_0_18⟩) (by assumption) ?_
  case hyr11_0_18 => (intro w hSw; (try dsimp only at hSw); go_simp; try (with_reducible rfl))
  (try simp only [Act.put, List.getElem_toArray, List.getElem_cons_zero, List.getElem_cons_succ, List.setIfInBounds_toArray, List.set_cons_zero, List.set_cons_succ])
  refine wpAnyH_take (i := 19) (v := ?vr11_0_19) rfl (by kernel_rfl) (by kernel_rfl) (by kernel_rfl) (fun _ _ _ h => h) (Or.inl ⟨by rfl, ?hyr11_0_19⟩) (by assumption) ?_
  case hyr11_0_19 => (intro w hSw; (try dsimp only at hSw); go_simp; try (with_reducible rfl))
  (try simp only [Act.put, List.getElem_toArray, List.getElem_cons_zero, List.getElem_cons_succ, List.setIfInBounds_toArray, List.set_cons_zero, List.set_cons_succ])
  refine wpAnyH_take (i := 20) (v := ?vr11_0_20) rfl (by kernel_rfl) (by kernel_rfl) (by kernel_rfl) (fun _ _ _ h => h) (Or.inl ⟨by rfl, ?hyr11_0_20⟩) (by assumption) ?_
  case hyr11_0_20 => (intro w hSw; (try dsimp only at hSw); go_simp; try (with_reducible rfl))
  (try simp only [Act.put, List.getElem_toArray, List.getElem_cons_zero, List.getElem_cons_succ, List.setIfInBounds_toArray, List.set_cons_zero, List.set_cons_succ])
  refine wpAnyH_take (i := 21) (v := ?vr11_0_21) rfl (by kernel_rfl) (by kernel_rfl) (by kernel_rfl) (fun _ _ _ h => h) (Or.inl ⟨by rfl, ?hyr11_0_21⟩) (by assumption) ?_
  case hyr11_0_21 => (intro w hSw; (try dsimp only at hSw); go_simp; try (with_reducible rfl))
  (try simp only [Act.put, List.getElem_toArray, List.getElem_cons_zero, List.getElem_cons_succ, List.setIfInBounds_toArray, List.set_cons_zero, List.set_cons_succ])
  refine wpAnyH_take (i := 22) (v := ?vr11_0_22) rfl (by kernel_rfl) (by kernel_rfl) (by kernel_rfl) (fun _ _ _ h => h) (Or.inl ⟨by rfl, ?hyr11_0_22⟩) (by assumption) ?_
  case hyr11_0_22 => (intro w hSw; (try dsimp only at hSw); go_simp; try (with_reducible rfl))
  (try simp only [Act.put, List.getElem_toArray, List.getElem_cons_zero, List.getElem_cons_succ, List.setIfInBounds_toArray, List.set_cons_zero, List.set_cons_succ])
  refine wpAnyH_take (i := 23) (v := ?vr11_0_23) rfl (by kernel_rfl) (by kernel_rfl) (by kernel_rfl) (fun _ _ _ h => h) (Or.inl ⟨by rfl, ?hyr11_0_23⟩) (by assumption) ?_
  case hyr11_0_23 => (intro w hSw; (try dsimp only at hSw); go_simp; try (with_reducible rfl))
  (try simp only [Act.put, List.getElem_toArray, List.getElem_cons_zero, List.getElem_cons_succ, List.setIfInBounds_toArray, List.set_cons_zero, List.set_cons_succ])
  refine wpAnyH_take (i := 24) (v := ?vr11_0_24) rfl (by kernel_rfl) (by kernel_rfl) (by kernel_rfl) (fun _ _ _ h => h) (Or.inl ⟨by rfl, ?hyr11_0_24⟩) (by assumption) ?_
  case hyr11_0_24 => (intro w hSw; (try dsimp only at hSw); go_simp; try (with_reducible rfl))
  (try simp only [Act.put, List.getElem_toArray, List.getElem_cons_zero, List.getElem_cons_succ, List.setIfInBounds_toArray, List.set_cons_zero, List.set_cons_succ])
  refine wpAnyH_take (i := 26) (v := ?vr11_0_26) rfl (by kernel_rfl) (by kernel_rfl) (by kernel_rfl) (fun _ _ _ h => h) (Or.inl ⟨by rfl, ?hyr11_0_26⟩) (by assumption) ?_
  case hyr11_0_26 => (intro w hSw; (try dsimp only at hSw); go_simp; try (with_reducible rfl))
  (try simp only [Act.put, List.getElem_toArray, List.getElem_cons_zero, List.getElem_cons_succ, List.setIfInBounds_toArray, List.set_cons_zero, List.set_cons_succ])
  refine wpAnyH_take (i := 27) (v := ?vr11_0_27) rfl (by kernel_rfl) (by kernel_rfl) (by kernel_rfl) (fun _ _ _ h => h) (Or.inl ⟨by rfl, ?hyr11_0_27⟩) (by assumption) ?_
  case hyr11_0_27 => (intro w hSw; (try dsimp only at hSw); go_simp; try (with_reducible rfl))
  (try simp only [Act.put, List.getElem_toArray, List.getElem_cons_zero, List.getElem_cons_succ, List.setIfInBounds_toArray, List.set_cons_zero, List.set_cons_succ])
  refine wpAnyH_take (i := 28) (v := ?vr11_0_28) rfl (by kernel_rfl) (by kernel_rfl) (by kernel_rfl) (fun _ _ _ h => h) (Or.inl ⟨by rfl, ?hyr11_0_28⟩) (by assumption) ?_
  case hyr11_0_28 => (intro w hSw; (try dsimp only at hSw); go_simp; try (with_reducible rfl))
  (try simp only [Act.put, List.getElem_toArray, List.getElem_cons_zero, List.getElem_cons_succ, List.setIfInBounds_toArray, List.set_cons_zero, List.set_cons_succ])
  refine wpAnyH_take (i := 29) (v := ?vr11_0_29) rfl (by kernel_rfl) (by kernel_rfl) (by kernel_rfl) (fun _ _ _ h => h) (Or.inl ⟨by rfl, ?hyr11_0_29⟩) (by assumption) ?_
  case hyr11_0_29 => (intro w hSw; (try dsimp only at hSw); go_simp; try (with_reducible rfl))
  (try simp only [Act.put, List.getElem_toArray, List.getElem_cons_zero, List.getElem_cons_succ, List.setIfInBounds_toArray, List.set_cons_zero, List.set_cons_succ])
  refine wpAnyH_take (i := 30) (v := ?vr11_0_30) rfl (by kernel_rfl) (by kernel_rfl) (by kernel_rfl) (fun _ _ _ h => h) (Or.inl ⟨by rfl, ?hyr11_0_30⟩) (by assumption) ?_
  case hyr11_0_30 => (intro w hSw; (try dsimp only at hSw); go_simp; try (with_reducible rfl))
  (try simp only [Act.put, List.getElem_toArray, List.getElem_cons_zero, List.getElem_cons_succ, List.setIfInBounds_toArray, List.set_cons_zero, List.set_cons_succ])
  refine wpAnyH_take (i := 31) (v := ?vr11_0_31) rfl (by kernel_rfl) (by kernel_rfl) (by kernel_rfl) (fun _ _ _ h => h) (Or.inl ⟨by rfl, ?hyr11_0_31⟩) (by assumption) ?_
  case hyr11_0_31 => (intro w hSw; (try dsimp only at hSw); go_simp; try (with_reducible rfl))
  (try simp only [Act.put, List.getElem_toArray, List.getElem_cons_zero, List.getElem_cons_succ, List.setIfInBounds_toArray, List.set_cons_zero, List.set_cons_succ])
  refine wpAnyH_take (i := 32) (v := ?vr11_0_32) rfl (by kernel_rfl) (by kernel_rfl) (by kernel_rfl) (fun _ _ _ h => h) (Or.inl ⟨by rfl, ?hyr11_0_32⟩) (by assumption) ?_
  case hyr11_0_32 => (intro w hSw; (try dsimp only at hSw); go_simp; try (with_reducible rfl))
  (try simp only [Act.put, List.getElem_toArray, List.getElem_cons_zero, List.getElem_cons_succ, List.setIfInBounds_toArray, List.set_cons_zero, List.set_cons_succ])
  refine wpAnyH_ready (rs := [25]) (by kernel_rfl) (by simp) (AllReadyH.cons rfl (fun K hK => ?_) AllReadyH.nil)
  go_simp
  (refine (KRL2.out _ (HT8.out.chg0 HCC.out)).mono ?_; rintro e w' ⟨rfl, hch⟩; have HCC := Lib.hid (HCC.out.trans hch); clear hch)
  (try go_wp2_with fail)
  refine hK.out _ _ ?_ (fun hHeld => ?_)
  · exact KX.out _ (HT8.out.ch.trans HCC.out)
  clear hK K
  (try simp only [Act.put, List.getElem_toArray, List.getElem_cons_zero, List.getElem_cons_succ, List.setIfInBounds_toArray, List.set_cons_zero, List.set_cons_succ])
  refine wpAnyH_ready (rs := [33]) (by kernel_rfl) (by simp) (AllReadyH.cons rfl (fun K hK => ?_) AllReadyH.nil)
  go_simp
  (refine (KRC2.out _ (HT8.out.chg0 HCC.out)).mono ?_; rintro e w' ⟨rfl, hch⟩; have HCC := Lib.hid (HCC.out.trans hch); clear hch)
  (try go_wp2_with fail)
  refine hK.out _ _ ?_ (fun hHeld => ?_)
  · exact KX.out _ (HT8.out.ch.trans HCC.out)
  clear hK K
  (try simp only [Act.put, List.getElem_toArray, List.getElem_cons_zero, List.getElem_cons_succ, List.setIfInBounds_toArray, List.set_cons_zero, List.set_cons_succ])
  refine wpAnyH_take (i := 34) (v := ?vr11_0_34) rfl (by kernel_rfl) (by kernel_rfl) (by kernel_rfl) (fun _ _ _ h => h) (Or.inl ⟨by rfl, ?hyr11_0_34⟩) (by assumption) ?_
  case hyr11_0_34 => (intro w hSw; (try dsimp only at hSw); go_simp; try (with_reducible rfl))
  (try simp only [Act.put, List.getElem_toArray, List.getElem_cons_zero, List.getElem_cons_succ, List.setIfInBounds_toArray, List.set_cons_zero, List.set_cons_succ])
  refine wpAnyH_take (i := 35) (v := ?vr11_0_35) rfl (by kernel_rfl) (by kernel_rfl) (by kernel_rfl) (fun _ _ _ h => h) (Or.inl ⟨by rfl, ?hyr11_0_35⟩) (by assumption) ?_
  case hyr11_0_35 => (intro w hSw; (try dsimp only at hSw); go_simp; try (with_reducible rfl))
  (try simp only [Act.put, List.getElem_toArray, List.getElem_cons_zero, List.getElem_cons_succ, List.setIfInBounds_toArray, List.set_cons_zero, List.set_cons_succ])
  refine wpAnyH_take (i := 36) (v := ?vr11_0_36) rfl (by kernel_rfl) (by kernel_rfl) (by kernel_rfl) (fun _ _ _ h => h) (Or.inl ⟨by rfl, ?hyr11_0_36⟩) (by assumption) ?_
  case hyr11_0_36 => (intro w hSw; (try dsimp only at hSw); go_simp; try (with_reducible rfl))
  (try simp only [Act.put, List.getElem_toArray, List.getElem_cons_zero, List.getElem_cons_succ, List.setIfInBounds_toArray, List.set_cons_zero, List.set_cons_succ])
  refine wpAnyH_take (i := 37) (v := ?vr11_0_37) rfl (by kernel_rfl) (by kernel_rfl) (by kernel_rfl) (fun _ _ _ h => h) (Or.inl ⟨by rfl, ?hyr11_0_37⟩) (by assumption) ?_
  case hyr11_0_37 => (intro w hSw; (try dsimp only at hSw); go_simp; try (with_reducible rfl))
  (try simp only [Act.put, List.getElem_toArray, List.getElem_cons_zero, List.getElem_cons_succ, List.setIfInBounds_toArray, List.set_cons_zero, List.set_cons_succ])
  refine wpAnyH_take (i := 38) (v := ?vr11_0_38) rfl (by kernel_rfl) (by kernel_rfl) (by kernel_rfl) (fun _ _ _ h => h) (Or.inl ⟨by rfl, ?hyr11_0_38⟩) (by assumption) ?_
  case hyr11_0_38 => (intro w hSw; (try dsimp only at hSw); go_simp; try (with_reducible rfl))
  (try simp only [Act.put, List.getElem_toArray, List.getElem_cons_zero, List.getElem_cons_succ, List.setIfInBounds_toArray, List.set_cons_zero, List.set_cons_succ])
  refine wpAnyH_take (i := 39) (v := ?vr11_0_39) rfl (by kernel_rfl) (by kernel_rfl) (by kernel_rfl) (fun _ _ _ h => h) (Or.inl ⟨by rfl, ?hyr11_0_39⟩) (by assumption) ?_
  case hyr11_0_39 => (intro w hSw; (try dsimp only at hSw); go_simp; try (with_reducible rfl))
  (try simp only [Act.put, List.getElem_toArray, List.getElem_cons_zero, List.getElem_cons_succ, List.setIfInBounds_toArray, List.set_cons_zero, List.set_cons_succ])
  refine wpAnyH_take (i := 40) (v := ?vr11_0_40) rfl (by kernel_rfl) (by kernel_rfl) (by kernel_rfl) (fun _ _ _ h => h) (Or.inl ⟨by rfl, ?hyr11_0_40⟩) (by assumption) ?_
  case hyr11_0_40 => (intro w hSw; (try dsimp only at hSw); go_simp; try (with_reducible rfl))
  (try simp only [Act.put, List.getElem_toArray, List.getElem_cons_zero, List.getElem_cons_succ, List.setIfInBounds_toArray, List.set_cons_zero, List.set_cons_succ])
  refine wpAnyH_take (i := 41) (v := ?vr11_0_41) rfl (by kernel_rfl) (by kernel_rfl) (by kernel_rfl) (fun _ _ _ h => h) (Or.inl ⟨by rfl, ?hyr11_0_41⟩) (by assumption) ?_
  case hyr11_0_41 => (intro w hSw; (try dsimp only at hSw); go_simp; try (with_reducible rfl))
  (try simp only [Act.put, List.getElem_toArray, List.getElem_cons_zero, List.getElem_cons_succ, List.setIfInBounds_toArray, List.set_cons_zero, List.set_cons_succ])
  refine wpAnyH_take (i := 43) (v := ?vr11_0_43) rfl (by kernel_rfl) (by kernel_rfl) (by kernel_rfl) (fun _ _ _ h => h) (Or.inl ⟨by rfl, ?hyr11_0_43⟩) (by assumption) ?_
  case hyr11_0_43 => (intro w hSw; (try dsimp only at hSw); go_simp; try (with_reducible rfl))
  (try simp only [Act.put, List.getElem_toArray, List.getElem_cons_zero, List.getElem_cons_succ, List.setIfInBounds_toArray, List.set_cons_zero, List.set_cons_succ])
  refine wpAnyH_take (i := 44) (v := ?vr11_0_44) rfl (by kernel_rfl) (by kernel_rfl) (by kernel_rfl) (fun _ _ _ h => h) (Or.inl ⟨by rfl, ?hyr11_0_44⟩) (by assumption) ?_
  case hyr11_0_44 => (intro w hSw; (try dsimp only at hSw); go_simp; try (with_reducible rfl))
  (try simp only [Act.put, List.getElem_toArray, List.getElem_cons_zero, List.getElem_cons_succ, List.setIfInBounds_toArray, List.set_cons_zero, List.set_cons_succ])
  refine wpAnyH_take (i := 45) (v := ?vr11_0_45) rfl (by kernel_rfl) (by kernel_rfl) (by kernel_rfl) (fun _ _ _ h => h) (Or.inl ⟨by rfl, ?hyr11_0_45⟩) (by assumption) ?_
  case hyr11_0_45 => (intro w hSw; (try dsimp only at hSw); go_simp; try (with_reducible rfl))
  (try simp only [Act.put, List.getElem_toArray, List.getElem_cons_zero, List.getElem_cons_succ, List.setIfInBounds_toArray, List.set_cons_zero, List.set_cons_succ])
  refine wpAnyH_take (i := 46) (v := ?vr11_0_46) rfl (by kernel_rfl) (by kernel_rfl) (by kernel_rfl) (fun _ _ _ h => h) (Or.inl ⟨by rfl, ?hyr11_0_46⟩) (by assumption) ?_
  case hyr11_0_46 => (intro w hSw; (try dsimp only at hSw); go_simp; try (with_reducible rfl))
  (try simp only [Act.put, List.getElem_toArray, List.getElem_cons_zero, List.getElem_cons_succ, List.setIfInBounds_toArray, List.set_cons_zero, List.set_cons_succ])
  refine wpAnyH_take (i := 47) (v := ?vr11_0_47) rfl (by kernel_rfl) (by kernel_rfl) (by kernel_rfl) (fun _ _ _ h => h) (Or.inl ⟨by rfl, ?hyr11_0_47⟩) (by assumption) ?_
  case hyr11_0_47 => (intro w hSw; (try dsimp only at hSw); go_simp; try (with_reducible rfl))
  (try simp only [Act.put, List.getElem_toArray, List.getElem_cons_zero, List.getElem_cons_succ, List.setIfInBounds_toArray, List.set_cons_zero, List.set_cons_succ])
  refine wpAnyH_ready (rs := [42]) (by kernel_rfl) (by simp) (AllReadyH.cons rfl (fun K hK => ?_) AllReadyH.nil)
  go_simp
  (refine (KPL1.out _ (HT8.out.chg0 HCC.out)).mono ?_; rintro e w' ⟨rfl, hch⟩; have HCC := Lib.hid (HCC.out.trans hch); clear hch)
  (try go_wp2_with fail)
  refine hK.out _ _ ?_ (fun hHeld => ?_)
  · exact KX.out _ (HT8.out.ch.trans HCC.out)
  clear hK K
  (try simp only [Act.put, List.getElem_toArray, List.getElem_cons_zero, List.getElem_cons_succ, List.setIfInBounds_toArray, List.set_cons_zero, List.set_cons_succ])
  refine wpAnyH_ready (rs := [48]) (by kernel_rfl) (by simp) (AllReadyH.cons rfl (fun K hK => ?_) AllReadyH.nil)
  go_simp
  (refine (KPC1.out _ (HT8.out.chg0 HCC.out)).mono ?_; rintro e w' ⟨rfl, hch⟩; have HCC := Lib.hid (HCC.out.trans hch); clear hch)
  (try go_wp2_with fail)
  refine hK.out _ _ ?_ (fun hHeld => ?_)
  · exact KX.out _ (HT8.out.ch.trans HCC.out)
  clear hK K
  (try simp only [Act.put, List.getElem_toArray, List.getElem_cons_zero, List.getElem_cons_succ, List.setIfInBounds_toArray, List.set_cons_zero, List.set_cons_succ])
  refine wpAnyH_take (i := 49) (v := ?vr11_0_49) rfl (by kernel_rfl) (by kernel_rfl) (by kernel_rfl) (fun _ _ _ h => h) (Or.inl ⟨by rfl, ?hyr11_0_49⟩) (by assumption) ?_
  case hyr11_0_49 => (intro w hSw; (try dsimp only at hSw); go_simp; try (with_reducible rfl))
  (try simp only [Act.put, List.getElem_toArray, List.getElem_cons_zero, List.getElem_cons_succ, List.setIfInBounds_toArray, List.set_cons_zero, List.set_cons_succ])
  refine wpAnyH_take (i := 50) (v := ?vr11_0_50) rfl (by kernel_rfl) (by kernel_rfl) (by kernel_rfl) (fun _ _ _ h => h) (Or.inl ⟨by rfl, ?hyr11_0_50⟩) (by assumption) ?_
  case hyr11_0_50 => (intro w hSw; (try dsimp only at hSw); go_simp; try (with_reducible rfl))
  (try simp only [Act.put, List.getElem_toArray, List.getElem_cons_zero, List.getElem_cons_succ, List.setIfInBounds_toArray, List.set_cons_zero, List.set_cons_succ])
  refine wpAnyH_take (i := 51) (v := ?vr11_0_51) rfl (by kernel_rfl) (by kernel_rfl) (by kernel_rfl) (fun _ _ _ h => h) (Or.inl ⟨by rfl, ?hyr11_0_51⟩) (by assumption) ?_
  case hyr11_0_51 => (intro w hSw; (try dsimp only at hSw); go_simp; try (with_reducible rfl))
  (try simp only [Act.put, List.getElem_toArray, List.getElem_cons_zero, List.getElem_cons_succ, List.setIfInBounds_toArray, List.set_cons_zero, List.set_cons_succ])
  refine wpAnyH_take (i := 52) (v := ?vr11_0_52) rfl (by kernel_rfl) (by kernel_rfl) (by kernel_rfl) (fun _ _ _ h => h) (Or.inl ⟨by rfl, ?hyr11_0_52⟩) (by assumption) ?_
  case hyr11_0_52 => (intro w hSw; (try dsimp only at hSw); go_simp; try (with_reducible rfl))
  (try simp only [Act.put, List.getElem_toArray, List.getElem_cons_zero, List.getElem_cons_succ, List.setIfInBounds_toArray, List.set_cons_zero, List.set_cons_succ])
  refine wpAnyH_take (i := 53) (v := ?vr11_0_53) rfl (by kernel_rfl) (by kernel_rfl) (by kernel_rfl) (fun _ _ _ h => h) (Or.inl ⟨by rfl, ?hyr11_0_53⟩) (by assumption) ?_
  case hyr11_0_53 => (intro w hSw; (try dsimp only at hSw); go_simp; try (with_reducible rfl))
  (try simp only [Act.put, List.getElem_toArray, List.getElem_cons_zero, List.getElem_cons_succ, List.setIfInBounds_toArray, List.set_cons_zero, List.set_cons_succ])
  refine wpAnyH_take (i := 54) (v := ?vr11_0_54) rfl (by kernel_rfl) (by kernel_rfl) (by kernel_rfl) (fun _ _ _ h => h) (Or.inl ⟨by rfl, ?hyr11_0_54⟩) (by assumption) ?_
  case hyr11_0_54 => (intro w hSw; (try dsimp only at hSw); go_simp; try (with_reducible rfl))
  (try simp only [Act.put, List.getElem_toArray, List.getElem_cons_zero, List.getElem_cons_succ, List.setIfInBounds_toArray, List.set_cons_zero, List.set_cons_succ])
  refine wpAnyH_take (i := 55) (v := ?vr11_0_55) rfl (by kernel_rfl) (by kernel_rfl) (by kernel_rfl) (fun _ _ _ h => h) (Or.inl ⟨by rfl, ?hyr11_0_55⟩) (by assumption) ?_
  case hyr11_0_55 => (intro w hSw; (try dsimp only at hSw); go_simp; try (with_reducible rfl))
  (try simp only [Act.put, List.getElem_toArray, List.getElem_cons_zero, List.getElem_cons_succ, List.setIfInBounds_toArray, List.set_cons_zero, List.set_cons_succ])
  refine wpAnyH_take (i := 56) (v := ?vr11_0_56) rfl (by kernel_rfl) (by kernel_rfl) (by kernel_rfl) (fun _ _ _ h => h) (Or.inl ⟨by rfl, ?hyr11_0_56⟩) (by assumption) ?_
  case hyr11_0_56 => (intro w hSw; (try dsimp only at hSw); go_simp; try (with_reducible rfl))
  (try simp only [Act.put, List.getElem_toArray, List.getElem_cons_zero, List.getElem_cons_succ, List.setIfInBounds_toArray, List.set_cons_zero, List.set_cons_succ])
  refine wpAnyH_take (i := 58) (v := ?vr11_0_58) rfl (by kernel_rfl) (by kernel_rfl) (by kernel_rfl) (fun _ _ _ h => h) (Or.inl ⟨by rfl, ?hyr11_0_58⟩) (by assumption) ?_
  case hyr11_0_58 => (intro w hSw; (try dsimp only at hSw); go_simp; try (with_reducible rfl))
  (try simp only [Act.put, List.getElem_toArray, List.getElem_cons_zero, List.getElem_cons_succ, List.setIfInBounds_toArray, List.set_cons_zero, List.set_cons_succ])
  refine wpAnyH_take (i := 59) (v := ?vr11_0_59) rfl (by kernel_rfl) (by kernel_rfl) (by kernel_rfl) (fun _ _ _ h => h) (Or.inl ⟨by rfl, ?hyr11_0_59⟩) (by assumption) ?_
  case hyr11_0_59 => (intro w hSw; (try dsimp only at hSw); go_simp; try (with_reducible rfl))
  (try simp only [Act.put, List.getElem_toArray, List.getElem_cons_zero, List.getElem_cons_succ, List.setIfInBounds_toArray, List.set_cons_zero, List.set_cons_succ])
  refine wpAnyH_take (i := 60) (v := ?vr11_0_60) rfl (by kernel_rfl) (by kernel_rfl) (by kernel_rfl) (fun _ _ _ h => h) (Or.inl ⟨by rfl, ?hyr11_0_60⟩) (by assumption) ?_
  case hyr11_0_60 => (intro w hSw; (try dsimp only at hSw); go_simp; try (with_reducible rfl))
  (try simp only [Act.put, List.getElem_toArray, List.getElem_cons_zero, List.getElem_cons_succ, List.setIfInBounds_toArray, List.set_cons_zero, List.set_cons_succ])
  refine wpAnyH_take (i := 61) (v := ?vr11_0_61) rfl (by kernel_rfl) (by kernel_rfl) (by kernel_rfl) (fun _ _ _ h => h) (Or.inl ⟨by rfl, ?hyr11_0_61⟩) (by assumption) ?_
  case hyr11_0_61 => (intro w hSw; (try dsimp only at hSw); go_simp; try (with_reducible rfl))
  (try simp only [Act.put, List.getElem_toArray, List.getElem_cons_zero, List.getElem_cons_succ, List.setIfInBounds_toArray, List.set_cons_zero, List.set_cons_succ])
  refine wpAnyH_take (i := 62) (v := ?vr11_0_62) rfl (by kernel_rfl) (by kernel_rfl) (by kernel_rfl) (fun _ _ _ h => h) (Or.inl ⟨by rfl, ?hyr11_0_62⟩) (by assumption) ?_
  case hyr11_0_62 => (intro w hSw; (try dsimp only at hSw); go_simp; try (with_reducible rfl))
  (try simp only [Act.put, List.getElem_toArray, List.getElem_cons_zero, List.getElem_cons_succ, List.setIfInBounds_toArray, List.set_cons_zero, List.set_cons_succ])
  refine wpAnyH_ready (rs := [57]) (by kernel_rfl) (by simp) (AllReadyH.cons rfl (fun K hK => ?_) AllReadyH.nil)
  go_simp
  (refine (KPL2.out _ (HT8.out.chg0 HCC.out)).mono ?_; rintro e w' ⟨rfl, hch⟩; have HCC := Lib.hid (HCC.out.trans hch); clear hch)
  (try go_wp2_with fail)
  refine hK.out _ _ ?_ (fun hHeld => ?_)
  · exact KX.out _ (HT8.out.ch.trans HCC.out)
  clear hK K
  (try simp only [Act.put, List.getElem_toArray, List.getElem_cons_zero, List.getElem_cons_succ, List.setIfInBounds_toArray, List.set_cons_zero, List.set_cons_succ])
  refine wpAnyH_ready (rs := [63]) (by kernel_rfl) (by simp) (AllReadyH.cons rfl (fun K hK => ?_) AllReadyH.nil)
  go_simp
  (refine (KPC2.out _ (HT8.out.chg0 HCC.out)).mono ?_; rintro e w' ⟨rfl, hch⟩; have HCC := Lib.hid (HCC.out.trans hch); clear hch)
  (try go_wp2_with fail)
  refine hK.out _ _ ?_ (fun hHeld => ?_)
  · exact KX.out _ (HT8.out.ch.trans HCC.out)
  clear hK K
  (try simp only [Act.put, List.getElem_toArray, List.getElem_cons_zero, List.getElem_cons_succ, List.setIfInBounds_toArray, List.set_cons_zero, List.set_cons_succ])
  refine wpAnyH_take (i := 64) (v := ?vr11_0_64) rfl (by kernel_rfl) (by kernel_rfl) (by kernel_rfl) (fun _ _ _ h => h) (Or.inl ⟨by rfl, ?hyr11_0_64⟩) (by assumption) ?_
  case hyr11_0_64 => (intro w hSw; (try dsimp only at hSw); go_simp; try (with_reducible rfl))
  (try simp only [Act.put, List.getElem_toArray, List.getElem_cons_zero, List.getElem_cons_succ, List.setIfInBounds_toArray, List.set_cons_zero, List.set_cons_succ])
  refine wpAnyH_take (i := 65) (v := ?vr11_0_65) rfl (by kernel_rfl) (by kernel_rfl) (by kernel_rfl) (fun _ _ _ h => h) (Or.inl ⟨by rfl, ?hyr11_0_65⟩) (by assumption) ?_
  case hyr11_0_65 => (intro w hSw; (try dsimp only at hSw); go_simp; try (with_reducible rfl))
  (try simp only [Act.put, List.getElem_toArray, List.getElem_cons_zero, List.getElem_cons_succ, List.setIfInBounds_toArray, List.set_cons_zero, List.set_cons_succ])
  refine wpAnyH_done (by kernel_rfl) ?_ _
  clear hHeld
  have HTh := Lib.hid (HT8.out.chg0 HCC.out)
  have HBAh := Lib.hid (And.intro (HBA.out.chg HCC.out (by simp)) (HBB.out.chg HCC.out (by simp)))
  have y1 := HBAh.out.1.cell 4
  have y2 := HBAh.out.2.cell 4
  by_cases e1 : 0 < d1
  · have t1 : decide (0 < d1) = true := decide_eq_true e1
    by_cases e2 : 0 < d2
    · have t2 : decide (0 < d2) = true := decide_eq_true e2
      clear e1 e2
      go_wp2_with fail
      refine (HLV.out _).mono ?_; rintro e wz ⟨rfl, hch⟩
      have HTz := Lib.hid (HTh.out.chg0 hch)
      clear hch
      go_wp2
      go_ret
      exact ⟨rfl, HCX.out.trans HTz.out.ch⟩
    · have t2 : decide (0 < d2) = false := decide_eq_false e2
      obtain rfl := HD.out (.inr (by omega))
      clear e1 e2 HD
      go_wp2_with fail
      refine (llines_rd HTh.out.l).mono ?_; rintro e wi ⟨⟨v1, rfl, hv1⟩, hch⟩
      have HV1 := Lib.hid hv1
      have HTi := Lib.hid (HTh.out.chg0 hch)
      clear hch hv1
      go_wp2_with fail
      refine (llines_rd HTi.out.c).mono ?_; rintro e wj ⟨⟨v2, rfl, hv2⟩, hch⟩
      have HTj := Lib.hid (HTi.out.chg0 hch)
      have KS := Lib.hid (tl_same (HV1.out.chg0 hch) hv2 (by have := HG.out.few; omega))
      rw [decide_eq_true rfl] at KS
      clear hch hv2
      go_wp2_with fail
      refine KS.out.mono ?_; rintro e wk ⟨rfl, hch⟩
      have HTk := Lib.hid (HTj.out.chg0 hch)
      clear hch
      go_wp2_with fail
      refine (HLV.out _).mono ?_; rintro e wz ⟨rfl, hch⟩
      have HTz := Lib.hid (HTk.out.chg0 hch)
      clear hch
      go_wp2
      go_ret
      exact ⟨rfl, HCX.out.trans HTz.out.ch⟩
  · have t1 : decide (0 < d1) = false := decide_eq_false e1
    obtain rfl := HD.out (.inl (by omega))
    clear e1 HD
    go_wp2_with fail
    refine (llines_rd HTh.out.l).mono ?_; rintro e wi ⟨⟨v1, rfl, hv1⟩, hch⟩
    have HV1 := Lib.hid hv1
    have HTi := Lib.hid (HTh.out.chg0 hch)
    clear hch hv1
    go_wp2_with fail
    refine (llines_rd HTi.out.c).mono ?_; rintro e wj ⟨⟨v2, rfl, hv2⟩, hch⟩
    have HTj := Lib.hid (HTi.out.chg0 hch)
    have KS := Lib.hid (tl_same (HV1.out.chg0 hch) hv2 (by have := HG.out.few; omega))
    rw [decide_eq_true rfl] at KS
    clear hch hv2
    go_wp2_with fail
    refine KS.out.mono ?_; rintro e wk ⟨rfl, hch⟩
    have HTk := Lib.hid (HTj.out.chg0 hch)
    clear hch
    go_wp2_with fail
    refine (HLV.out _).mono ?_; rintro e wz ⟨rfl, hch⟩
    have HTz := Lib.hid (HTk.out.chg0 hch)
    clear hch
    go_wp2
    go_ret
    exact ⟨rfl, HCX.out.trans HTz.out.ch⟩
end Go.Proofs.Ytofnaigkfhfhoaa
