/-
  The package ledgers: Push.
-/
import Derived.Test.YtofnaigkfhfhoaaPlPush
namespace Go.Proofs.Ytofnaigkfhfhoaa
open Go.RowKit Go.Maps Pl
attribute [local go_sem ↓] Go.wp_at_zero Go.wp_at_succ

/-- What a push answers; the lines behind it. -/
def lpushE (L : List Ln) (f t u : Nat) (n : Int) : Int := if n < 1 then 1 else if room L f t u < n then 11 else 0
def lpushL (L : List Ln) (f t u : Nat) (n : Int) : List Ln := if lpushE L f t u n = 0 then pushed L f t u n else L

theorem owed_lim (l d : Int) (w : World) : (Instr.field 120 (.agg #[.int .i64 l, .int .i64 d]) 0).run Try.prog w = .ok (.int .i64 l) w := by kernel_rfl
theorem owed_deb (l d : Int) (w : World) : (Instr.field 120 (.agg #[.int .i64 l, .int .i64 d]) 1).run Try.prog w = .ok (.int .i64 d) w := by kernel_rfl
attribute [local go_sem] owed_lim owed_deb

set_option maxRecDepth 100000 in
set_option maxHeartbeats 2000000 in
theorem lpush_ok {w : World} {lb mb : Nat} {S : Nat → Bool} {L : List Ln} (h : IsL w lb mb S L) {f t u : Nat} (hf : f < 256) (ht : t < 256) (hu : u < 256) {n : Int} (h1 : 1 ≤ n) (h2 : n ≤ room L f t u) :
    Calls Try.prog 35 #[.pointer (some ⟨lb, 0, none⟩), .int .u8 f, .int .u8 t, .int .u8 u, .int .i64 n] w fun e w' => e = .returned (.int .i64 0) ∧ IsL w' lb mb S (pushed L f t u n) ∧ Chg [mb] w w' := by
  have hrb := room_bd h.good f t u
  obtain ⟨b1, b2, b3, b4⟩ := h.good.at (rk f t u)
  have HT := Lib.hid (lthere_yes h.cell)
  have HR := Lib.hid (lroom h hf ht hu)
  obtain ⟨pf1, pf2, pf3, pf4⟩ := push_facts h.good h.map.sorted h.map.small hf ht hu h1 h2
  have HI := Lib.hid h
  have hne := h.ne
  obtain ⟨l1, hl1⟩ : ∃ l1, l1 = (owedAt L (rk f t u)).1 := ⟨_, rfl⟩
  obtain ⟨d1, hd1⟩ : ∃ d1, d1 = (owedAt L (rk f t u)).2 := ⟨_, rfl⟩
  have hfall : fallOf L f t u n = min n d1 := by rw [hd1]; rfl
  obtain ⟨fl, hfl⟩ : ∃ fl, fl = min n d1 := ⟨_, rfl⟩
  have hpu : pushed L f t u n = addL (addL L f t u (-fl)) t f u (n - fl) := by unfold pushed; rw [hfall, hfl]
  rw [hfall, ← hfl] at pf1 pf3 pf4
  have LK : Hid (∀ W, Chg [] w W → (Instr.lookup 27 (.map (some mb)) (endsV f t u) false).run Try.prog W = .ok (.agg #[.int .i64 l1, .int .i64 d1]) W) := fun W hW => by
    rw [hl1, hd1]; exact (h.map.chg hW (by simp)).look hf ht hu
  have HPF := Lib.hid (And.intro pf1 (And.intro pf2 (And.intro pf3 (And.intro pf4 hpu))))
  rw [← hl1] at b1 b2 b4
  rw [← hd1] at b3 b4
  have HS := Lib.hid (And.intro hf (And.intro ht hu))
  clear pf1 pf2 pf3 pf4 hpu hfall hl1 hd1 h hf ht hu
  have hfl1 : 0 ≤ fl := by omega
  have hfl2 : fl ≤ n := by omega
  have hmin : (if d1 < n then d1 else n) = fl := by rw [hfl]; split <;> omega
  have HMIN := Lib.hid hmin
  clear hmin
  generalize hrm : room L f t u = rm at *
  clear hrm
  go_enter Try.func35, Try.ntmps35
  go_wp2_with fail
  refine HT.out.mono ?_
  rintro e w' ⟨rfl, rfl⟩
  go_wp2_with fail
  refine HR.out.mono ?_
  rintro e w1 ⟨rfl, hc1⟩
  have K1 := Lib.hid hc1
  clear hc1
  go_wp2_with fail
  have hE := Blk.new w1 118 #[.int .u8 f, .int .u8 t, .int .u8 u]
  have hc2 : Chg [] w (w1.alloc (.cells #[.int .u8 f, .int .u8 t, .int .u8 u] 118)) := K1.out.alloc _
  obtain ⟨eb, heb⟩ : ∃ eb, eb = w1.heap.size := ⟨_, rfl⟩
  have hem : mb < eb := by have := (HI.out.chg0 K1.out).map.lt; omega
  obtain ⟨W2, hW2⟩ : ∃ W2, W2 = w1.alloc (.cells #[.int .u8 f, .int .u8 t, .int .u8 u] 118) := ⟨_, rfl⟩
  rw [← heb, ← hW2] at hE
  rw [← hW2] at hc2
  rw [← hW2, ← heb]
  clear hW2 heb
  have KD : W2.drew.cell? ⟨lb, 17, none⟩ = some (.map (some mb)) ∧ W2.drew.cell? ⟨eb, 0, none⟩ = some (.int .u8 f) ∧ W2.drew.cell? ⟨eb, 1, none⟩ = some (.int .u8 t) ∧ W2.drew.cell? ⟨eb, 2, none⟩ = some (.int .u8 u) ∧ (Instr.lookup 27 (.map (some mb)) (endsV f t u) false).run Try.prog W2.drew = .ok (.agg #[.int .i64 l1, .int .i64 d1]) W2.drew :=
    ⟨(HI.out.chg0 hc2.drew).cell, hE.drew.cell 0, hE.drew.cell 1, hE.drew.cell 2, LK.out _ hc2.drew⟩
  have HE := Lib.hid (And.intro hE hc2)
  clear hE hc2
  refine wp_region_held_drew (S := (fun w' : World => w'.cell? ⟨lb, 17, none⟩ = some (.map (some mb)) ∧ w'.cell? ⟨eb, 0, none⟩ = some (.int .u8 f) ∧ w'.cell? ⟨eb, 1, none⟩ = some (.int .u8 t) ∧ w'.cell? ⟨eb, 2, none⟩ = some (.int .u8 u) ∧ (Instr.lookup 27 (.map (some mb)) (endsV f t u) false).run Try.prog w' = .ok (.agg #[.int .i64 l1, .int .i64 d1]) w')) (by kernel_rfl) ?_ (fun hHeld => ?_)
  · exact KD
  refine wpAnyH_take (i := 0) (v := ?v368_0_0) rfl (by kernel_rfl) (by kernel_rfl) (by kernel_rfl) (fun _ _ _ h => h) (Or.inl ⟨by rfl, ?hy368_0_0⟩) (by assumption) ?_
  case hy368_0_0 => (intro w hSw; (try dsimp only at hSw); go_simp; try (with_reducible rfl))
  (try simp only [Act.put, List.getElem_toArray, List.getElem_cons_zero, List.setIfInBounds_toArray, List.set_cons_zero, List.set_cons_succ])
  refine wpAnyH_take (i := 1) (v := ?v368_0_1) rfl (by kernel_rfl) (by kernel_rfl) (by kernel_rfl) (fun _ _ _ h => h) (Or.inl ⟨by rfl, ?hy368_0_1⟩) (by assumption) ?_
  case hy368_0_1 => (intro w hSw; (try dsimp only at hSw); go_simp; try (with_reducible rfl))
  (try simp only [Act.put, List.getElem_toArray, List.getElem_cons_zero, List.getElem_cons_succ, List.setIfInBounds_toArray, List.set_cons_zero, List.set_cons_succ])
  refine wpAnyH_take (i := 2) (v := ?v368_0_2) rfl (by kernel_rfl) (by kernel_rfl) (by kernel_rfl) (fun _ _ _ h => h) (Or.inl ⟨by rfl, ?hy368_0_2⟩) (by assumption) ?_
  case hy368_0_2 => (intro w hSw; (try dsimp only at hSw); go_simp; try (with_reducible rfl))
  (try simp only [Act.put, List.getElem_toArray, List.getElem_cons_zero, List.getElem_cons_succ, List.setIfInBounds_toArray, List.set_cons_zero, List.set_cons_succ])
  refine wpAnyH_take (i := 3) (v := ?v368_0_3) rfl (by kernel_rfl) (by kernel_rfl) (by kernel_rfl) (fun _ _ _ h => h) (Or.inl ⟨by rfl, ?hy368_0_3⟩) (by assumption) ?_
  case hy368_0_3 => (intro w hSw; (try dsimp only at hSw); go_simp; try (with_reducible rfl))
  (try simp only [Act.put, List.getElem_toArray, List.getElem_cons_zero, List.getElem_cons_succ, List.setIfInBounds_toArray, List.set_cons_zero, List.set_cons_succ])
  refine wpAnyH_take (i := 4) (v := ?v368_0_4) rfl (by kernel_rfl) (by kernel_rfl) (by kernel_rfl) (fun _ _ _ h => h) (Or.inl ⟨by rfl, ?hy368_0_4⟩) (by assumption) ?_
  case hy368_0_4 => (intro w hSw; (try dsimp only at hSw); go_simp; try (with_reducible rfl))
  (try simp only [Act.put, List.getElem_toArray, List.getElem_cons_zero, List.getElem_cons_succ, List.setIfInBounds_toArray, List.set_cons_zero, List.set_cons_succ])
  refine wpAnyH_take (i := 5) (v := ?v368_0_5) rfl (by kernel_rfl) (by kernel_rfl) (by kernel_rfl) (fun _ _ _ h => h) (Or.inl ⟨by rfl, ?hy368_0_5⟩) (by assumption) ?_
  case hy368_0_5 => (intro w hSw; (try dsimp only at hSw); go_simp; try (with_reducible rfl))
  (try simp only [Act.put, List.getElem_toArray, List.getElem_cons_zero, List.getElem_cons_succ, List.setIfInBounds_toArray, List.set_cons_zero, List.set_cons_succ])
  refine wpAnyH_take (i := 6) (v := ?v368_0_6) rfl (by kernel_rfl) (by kernel_rfl) (by kernel_rfl) (fun _ _ _ h => h) (Or.inl ⟨by rfl, ?hy368_0_6⟩) (by assumption) ?_
  case hy368_0_6 => (intro w hSw; (try dsimp only at hSw); go_simp; try (with_reducible rfl))
  (try simp only [Act.put, List.getElem_toArray, List.getElem_cons_zero, List.getElem_cons_succ, List.setIfInBounds_toArray, List.set_cons_zero, List.set_cons_succ])
  refine wpAnyH_take (i := 7) (v := ?v368_0_7) rfl (by kernel_rfl) (by kernel_rfl) (by kernel_rfl) (fun _ _ _ h => h) (Or.inl ⟨by rfl, ?hy368_0_7⟩) (by assumption) ?_
  case hy368_0_7 => (intro w hSw; (try dsimp only at hSw); go_simp; try (with_reducible rfl))
  (try simp only [Act.put, List.getElem_toArray, List.getElem_cons_zero, List.getElem_cons_succ, List.setIfInBounds_toArray, List.set_cons_zero, List.set_cons_succ])
  refine wpAnyH_take (i := 8) (v := ?v368_0_8) rfl (by kernel_rfl) (by kernel_rfl) (by kernel_rfl) (fun _ _ _ h => h) (Or.inl ⟨by rfl, ?hy368_0_8⟩) (by assumption) ?_
  case hy368_0_8 => (intro w hSw; (try dsimp only at hSw); go_simp; try (with_reducible rfl))
  (try simp only [Act.put, List.getElem_toArray, List.getElem_cons_zero, List.getElem_cons_succ, List.setIfInBounds_toArray, List.set_cons_zero, List.set_cons_succ])
  refine wpAnyH_take (i := 9) (v := ?v368_0_9) rfl (by kernel_rfl) (by kernel_rfl) (by kernel_rfl) (fun _ _ _ h => h) (Or.inl ⟨by rfl, ?hy368_0_9⟩) (by assumption) ?_
  case hy368_0_9 => (intro w hSw; (try dsimp only at hSw); go_simp; try (with_reducible rfl))
  (try simp only [Act.put, List.getElem_toArray, List.getElem_cons_zero, List.getElem_cons_succ, List.setIfInBounds_toArray, List.set_cons_zero, List.set_cons_succ])
  refine wpAnyH_done (by kernel_rfl) ?_ _
  go_wp2_with fail
  all_goals clear hHeld
  all_goals rename_i hx
  · obtain rfl : fl = d1 := by omega
    clear hfl HMIN
    obtain ⟨pf1, pf2, pf3, pf4, hpu⟩ := HPF.out
    obtain ⟨hf, ht, hu⟩ := HS.out
    have hE := HE.out.1
    have hc2 := HE.out.2.drew
    refine (ladd (HI.out.chg0 hc2) hf ht hu (n := -fl) (by omega) (by omega)).mono ?_
    rintro e w3 ⟨rfl, hm3, hc3⟩
    have hE3 := hE.drew.chg hc3 (by simp; omega)
    have HI3 : IsL w3 lb mb S (addL L f t u (-fl)) := ⟨(HI.out.chg0 hc2).blk.chg hc3 (by simp; exact hne), hm3, pf1⟩
    have HC := Lib.hid (And.intro HI3 ((hc2.mono (s' := [mb]) (by simp)).trans hc3))
    have HP2 := Lib.hid (And.intro pf2 hpu)
    have c0 := hE3.cell 0
    have c1 := hE3.cell 1
    have c2 := hE3.cell 2
    clear hE3 HI3 hc2 hE hc3 hm3 pf1 pf2 pf3 pf4 hpu HPF HE hf ht hu
    go_wp2_with fail
    obtain ⟨hf, ht, hu⟩ := HS.out
    refine (ladd HC.out.1 ht hf hu (n := n - fl) (by omega) (by omega)).mono ?_
    rintro e w4 ⟨rfl, hm4, hc4⟩
    have HC4 := Lib.hid (And.intro hm4 hc4)
    clear hm4 hc4
    go_wp2_with fail
    go_ret
    exact ⟨rfl, ⟨HC.out.1.blk.chg HC4.out.2 (by simp; exact hne), HP2.out.2 ▸ HC4.out.1, HP2.out.1⟩, HC.out.2.trans HC4.out.2⟩
  · obtain rfl : fl = n := by omega
    clear hfl HMIN
    obtain ⟨pf1, pf2, pf3, pf4, hpu⟩ := HPF.out
    rw [Int.sub_self] at hpu
    obtain ⟨hf, ht, hu⟩ := HS.out
    have hE := HE.out.1
    have hc2 := HE.out.2.drew
    refine (ladd (HI.out.chg0 hc2) hf ht hu (n := -fl) (by omega) (by omega)).mono ?_
    rintro e w3 ⟨rfl, hm3, hc3⟩
    have hE3 := hE.drew.chg hc3 (by simp; omega)
    have HI3 : IsL w3 lb mb S (addL L f t u (-fl)) := ⟨(HI.out.chg0 hc2).blk.chg hc3 (by simp; exact hne), hm3, pf1⟩
    have HC := Lib.hid (And.intro HI3 ((hc2.mono (s' := [mb]) (by simp)).trans hc3))
    have HP2 := Lib.hid (And.intro pf2 hpu)
    have c0 := hE3.cell 0
    have c1 := hE3.cell 1
    have c2 := hE3.cell 2
    clear hE3 HI3 hc2 hE hc3 hm3 pf1 pf2 pf3 pf4 hpu HPF HE hf ht hu
    go_wp2_with fail
    obtain ⟨hf, ht, hu⟩ := HS.out
    refine (ladd HC.out.1 ht hf hu (n := 0) (by omega) (by omega)).mono ?_
    rintro e w4 ⟨rfl, hm4, hc4⟩
    have HC4 := Lib.hid (And.intro hm4 hc4)
    clear hm4 hc4
    go_wp2_with fail
    go_ret
    exact ⟨rfl, ⟨HC.out.1.blk.chg HC4.out.2 (by simp; exact hne), HP2.out.2 ▸ HC4.out.1, HP2.out.1⟩, HC.out.2.trans HC4.out.2⟩

set_option maxRecDepth 100000 in
set_option maxHeartbeats 2000000 in
theorem lpush {w : World} {lb mb : Nat} {S : Nat → Bool} {L : List Ln} (h : IsL w lb mb S L) {f t u : Nat} (hf : f < 256) (ht : t < 256) (hu : u < 256) {n : Int} :
    Calls Try.prog 35 #[.pointer (some ⟨lb, 0, none⟩), .int .u8 f, .int .u8 t, .int .u8 u, .int .i64 n] w fun e w' => e = .returned (.int .i64 (lpushE L f t u n)) ∧ IsL w' lb mb S (lpushL L f t u n) ∧ Chg [mb] w w' := by
  by_cases h1 : n < 1
  · have hE : lpushE L f t u n = 1 := by unfold lpushE; rw [if_pos h1]
    have hL : lpushL L f t u n = L := by unfold lpushL; rw [hE, if_neg (by omega)]
    rw [hE, hL]
    have HT := Lib.hid (lthere_yes h.cell)
    have HI := Lib.hid h
    clear h hE hL hf ht hu
    go_enter Try.func35, Try.ntmps35
    go_wp2_with fail
    refine HT.out.mono ?_
    rintro e w' ⟨rfl, rfl⟩
    go_wp2_with fail
    go_ret
    exact ⟨rfl, HI.out, Chg.refl _ _⟩
  · by_cases h2 : room L f t u < n
    · have hE : lpushE L f t u n = 11 := by unfold lpushE; rw [if_neg h1, if_pos h2]
      have hL : lpushL L f t u n = L := by unfold lpushL; rw [hE, if_neg (by omega)]
      rw [hE, hL]
      have HT := Lib.hid (lthere_yes h.cell)
      have HR := Lib.hid (lroom h hf ht hu)
      have HI := Lib.hid h
      clear h hE hL hf ht hu
      generalize room L f t u = rm at *
      go_enter Try.func35, Try.ntmps35
      go_wp2_with fail
      refine HT.out.mono ?_
      rintro e w' ⟨rfl, rfl⟩
      go_wp2_with fail
      refine HR.out.mono ?_
      rintro e w1 ⟨rfl, hc1⟩
      have K1 := Lib.hid hc1
      clear hc1
      go_wp2_with fail
      go_ret
      exact ⟨rfl, HI.out.chg0 K1.out, K1.out.mono (by simp)⟩
    · have hE : lpushE L f t u n = 0 := by unfold lpushE; rw [if_neg h1, if_neg h2]
      have hL : lpushL L f t u n = pushed L f t u n := by unfold lpushL; rw [hE, if_pos rfl]
      rw [hE, hL]
      exact lpush_ok h hf ht hu (by omega) (by omega)
end Go.Proofs.Ytofnaigkfhfhoaa
