/-
  The package ledgers: there, New, Room, add.
-/
import Derived.Test.YtofnaigkfhfhoaaLedMap
import Derived.Test.YtofnaigkfhfhoaaVoidL
import Derived.Test.YtofnaigkfhfhoaaPlFlow
import Derived.Deep.RegionHeld3
import Derived.Deep.DrawnRows
import Derived.OrdersHeld
namespace Go.Proofs.Ytofnaigkfhfhoaa
open Go.RowKit Go.Maps Pl
attribute [local go_sem ↓] Go.wp_at_zero Go.wp_at_succ

/-- A ledger's cells. -/
def ledC (S : Nat → Bool) (mb : Nat) : List Value := (List.range 17).map (fun i => Value.bool (S i)) ++ [.map (some mb)]
theorem ledC_get (S : Nat → Bool) (mb : Nat) {i : Nat} (h : i < 17) : (ledC S mb).toArray[i]? = some (.bool (S i)) := by
  simp [ledC, List.getElem?_append, h]
theorem ledC_map (S : Nat → Bool) (mb : Nat) : (ledC S mb).toArray[17]? = some (.map (some mb)) := by
  simp [ledC]
theorem ledC_set (S : Nat → Bool) (mb : Nat) {i : Nat} (h : i < 17) (b : Bool) : (ledC S mb).toArray.setIfInBounds i (.bool b) = (ledC (upd S i b) mb).toArray := by
  apply Array.ext_getElem?
  intro k
  rw [Array.getElem?_setIfInBounds]
  have hs : (ledC S mb).toArray.size = 18 := by simp [ledC]
  have hs' : (ledC (upd S i b) mb).toArray.size = 18 := by simp [ledC]
  by_cases hk : k < 17
  · rw [ledC_get _ _ hk, ledC_get _ _ hk, hs]
    by_cases e : i = k
    · subst e; simp [upd]; omega
    · rw [if_neg e]; simp [upd, Ne.symm e]
  · by_cases hk2 : k = 17
    · subst hk2
      rw [ledC_map, ledC_map, if_neg (by omega)]
    · rw [Array.getElem?_eq_none (by rw [hs]; omega), Array.getElem?_eq_none (by rw [hs']; omega), if_neg (by omega)]

/-- What a ledger's lines are good for. -/
structure GoodL (S : Nat → Bool) (L : List Ln) : Prop where
  ends : ∀ x ∈ L, x.cr ∈ P16 ∧ x.db ∈ P16 ∧ x.cr ≠ x.db ∧ 1 ≤ x.cu ∧ x.cu ≤ 8
  open_ : ∀ x ∈ L, S x.cr = true ∧ S x.db = true
  owed : ∀ x ∈ L, 1 ≤ x.lim ∧ x.lim ≤ 1099511627776 ∧ 0 ≤ x.deb ∧ x.deb ≤ x.lim
  few : L.length ≤ 64
  pts : ∀ p, S p = true → p ∈ P16
theorem GoodL.at {S : Nat → Bool} {L : List Ln} (h : GoodL S L) (r : Nat) : 0 ≤ (owedAt L r).1 ∧ (owedAt L r).1 ≤ 1099511627776 ∧ 0 ≤ (owedAt L r).2 ∧ (owedAt L r).2 ≤ (owedAt L r).1 := by
  unfold owedAt
  cases hf : findR L r with
  | none => simp
  | some x =>
    have := h.owed x (find_mem hf).1
    dsimp only
    omega

/-- Block lb is a ledger of these parties and lines; block mb is its map. -/
structure IsL (w : World) (lb mb : Nat) (S : Nat → Bool) (L : List Ln) : Prop where
  blk : Blk w lb 29 (ledC S mb).toArray
  map : MapL w mb L
  good : GoodL S L
section
variable {w w' : World} {lb mb : Nat} {S : Nat → Bool} {L : List Ln}
theorem IsL.ne (h : IsL w lb mb S L) : lb ≠ mb := by
  rintro rfl
  obtain ⟨D, ⟨es, clock, hb, _⟩, _⟩ := h.map.owns
  have := h.blk
  unfold Blk at this
  rw [hb] at this
  cases this
theorem IsL.chg {s : List Nat} (h : IsL w lb mb S L) (k : Chg s w w') (h1 : lb ∉ s) (h2 : mb ∉ s) : IsL w' lb mb S L := ⟨h.blk.chg k h1, h.map.chg k h2, h.good⟩
theorem IsL.chg0 (h : IsL w lb mb S L) (k : Chg [] w w') : IsL w' lb mb S L := h.chg k (by simp) (by simp)
theorem IsL.cell (h : IsL w lb mb S L) : w.cell? ⟨lb, 17, none⟩ = some (.map (some mb)) := by rw [h.blk.cell, ledC_map]
theorem IsL.party (h : IsL w lb mb S L) {p : Nat} (hp : p < 17) : w.cell? ⟨lb, p, none⟩ = some (.bool (S p)) := by rw [h.blk.cell, ledC_get _ _ hp]
end

theorem lthere_yes {w : World} {lb mb : Nat} (h : w.cell? ⟨lb, 17, none⟩ = some (.map (some mb))) : Calls Try.prog 71 #[.pointer (some ⟨lb, 0, none⟩)] w fun e w' => e = .returned (.bool true) ∧ w = w' := by
  have hn := fun W => run_neq_map_nil (P := Try.prog) W 27 _ _ (some mb) Try.underlying27
  go_enter Try.func71, Try.ntmps71
  go_wp2
  go_ret
  exact ⟨rfl, rfl⟩

/-- How much may be pushed. -/
def room (L : List Ln) (f t u : Nat) : Int := (owedAt L (rk f t u)).2 + (owedAt L (rk t f u)).1 - (owedAt L (rk t f u)).2
theorem room_bd {S : Nat → Bool} {L : List Ln} (h : GoodL S L) (f t u : Nat) : 0 ≤ room L f t u ∧ room L f t u ≤ 2199023255552 := by
  have h1 := h.at (rk f t u)
  have h2 := h.at (rk t f u)
  unfold room
  omega

set_option maxRecDepth 100000 in
set_option maxHeartbeats 2000000 in
theorem lroom {w : World} {lb mb : Nat} {S : Nat → Bool} {L : List Ln} (h : IsL w lb mb S L) {f t u : Nat} (hf : f < 256) (ht : t < 256) (hu : u < 256) :
    Calls Try.prog 34 #[.pointer (some ⟨lb, 0, none⟩), .int .u8 f, .int .u8 t, .int .u8 u] w fun e w' => e = .returned (.int .i64 (room L f t u)) ∧ Chg [] w w' := by
  have h1 := h.good.at (rk f t u)
  have h2 := h.good.at (rk t f u)
  obtain ⟨b1, b2, b3, b4⟩ := h1
  obtain ⟨b5, b6, b7, b8⟩ := h2
  have KS : Hid (∀ W, Chg [] w W → W.cell? ⟨lb, 17, none⟩ = some (.map (some mb)) ∧ (Instr.lookup 27 (.map (some mb)) (endsV f t u) false).run Try.prog W = .ok (owedV (owedAt L (rk f t u)).1 (owedAt L (rk f t u)).2) W ∧ (Instr.lookup 27 (.map (some mb)) (endsV t f u) false).run Try.prog W = .ok (owedV (owedAt L (rk t f u)).1 (owedAt L (rk t f u)).2) W) :=
    fun W hW => ⟨(h.chg0 hW).cell, (h.map.chg hW (by simp)).look hf ht hu, (h.map.chg hW (by simp)).look ht hf hu⟩
  have HT := Lib.hid (lthere_yes h.cell)
  unfold room
  generalize (owedAt L (rk f t u)).1 = l1 at *
  generalize (owedAt L (rk f t u)).2 = d1 at *
  generalize (owedAt L (rk t f u)).1 = l2 at *
  generalize (owedAt L (rk t f u)).2 = d2 at *
  clear h hf ht hu
  go_enter Try.func34, Try.ntmps34
  go_wp2_with (go_at_call 71; refine HT.out.mono ?_; rintro e w' ⟨rfl, rfl⟩)
  refine wp_region_held_drew (S := (fun w' : World => w'.cell? ⟨lb, 17, none⟩ = some (.map (some mb)) ∧ (Instr.lookup 27 (.map (some mb)) (endsV f t u) false).run Try.prog w' = .ok (owedV l1 d1) w' ∧ (Instr.lookup 27 (.map (some mb)) (endsV t f u) false).run Try.prog w' = .ok (owedV l2 d2) w')) (by kernel_rfl) ?_ (fun hHeld => ?_)
  · exact KS.out _ (by (repeat first | exact Chg.refl _ _ | apply Chg.drew | apply Chg.alloc | (refine Chg.setCell ?_ (.inr (by simp; try omega)) _)))
  refine wpAnyH_take (i := 0) (v := ?v353_0_0) rfl (by kernel_rfl) (by kernel_rfl) (by kernel_rfl) (fun _ _ _ h => h) (Or.inl ⟨by rfl, ?hy353_0_0⟩) (by assumption) ?_
  case hy353_0_0 => (intro w hSw; (try dsimp only at hSw); go_simp; try (with_reducible rfl))
  (try simp only [Act.put, List.getElem_toArray, List.getElem_cons_zero, List.setIfInBounds_toArray, List.set_cons_zero, List.set_cons_succ])
  refine wpAnyH_take (i := 1) (v := ?v353_0_1) rfl (by kernel_rfl) (by kernel_rfl) (by kernel_rfl) (fun _ _ _ h => h) (Or.inl ⟨by rfl, ?hy353_0_1⟩) (by assumption) ?_
  case hy353_0_1 => (intro w hSw; (try dsimp only at hSw); go_simp; try (with_reducible rfl))
  (try simp only [Act.put, List.getElem_toArray, List.getElem_cons_zero, List.getElem_cons_succ, List.setIfInBounds_toArray, List.set_cons_zero, List.set_cons_succ])
  refine wpAnyH_take (i := 2) (v := ?v353_0_2) rfl (by kernel_rfl) (by kernel_rfl) (by kernel_rfl) (fun _ _ _ h => h) (Or.inl ⟨by rfl, ?hy353_0_2⟩) (by assumption) ?_
  case hy353_0_2 => (intro w hSw; (try dsimp only at hSw); go_simp; try (with_reducible rfl))
  (try simp only [Act.put, List.getElem_toArray, List.getElem_cons_zero, List.getElem_cons_succ, List.setIfInBounds_toArray, List.set_cons_zero, List.set_cons_succ])
  refine wpAnyH_take (i := 3) (v := ?v353_0_3) rfl (by kernel_rfl) (by kernel_rfl) (by kernel_rfl) (fun _ _ _ h => h) (Or.inl ⟨by rfl, ?hy353_0_3⟩) (by assumption) ?_
  case hy353_0_3 => (intro w hSw; (try dsimp only at hSw); go_simp; try (with_reducible rfl))
  (try simp only [Act.put, List.getElem_toArray, List.getElem_cons_zero, List.getElem_cons_succ, List.setIfInBounds_toArray, List.set_cons_zero, List.set_cons_succ])
  refine wpAnyH_take (i := 4) (v := ?v353_0_4) rfl (by kernel_rfl) (by kernel_rfl) (by kernel_rfl) (fun _ _ _ h => h) (Or.inl ⟨by rfl, ?hy353_0_4⟩) (by assumption) ?_
  case hy353_0_4 => (intro w hSw; (try dsimp only at hSw); go_simp; try (with_reducible rfl))
  (try simp only [Act.put, List.getElem_toArray, List.getElem_cons_zero, List.getElem_cons_succ, List.setIfInBounds_toArray, List.set_cons_zero, List.set_cons_succ])
  refine wpAnyH_take (i := 5) (v := ?v353_0_5) rfl (by kernel_rfl) (by kernel_rfl) (by kernel_rfl) (fun _ _ _ h => h) (Or.inl ⟨by rfl, ?hy353_0_5⟩) (by assumption) ?_
  case hy353_0_5 => (intro w hSw; (try dsimp only at hSw); go_simp; try (with_reducible rfl))
  (try simp only [Act.put, List.getElem_toArray, List.getElem_cons_zero, List.getElem_cons_succ, List.setIfInBounds_toArray, List.set_cons_zero, List.set_cons_succ])
  refine wpAnyH_take (i := 6) (v := ?v353_0_6) rfl (by kernel_rfl) (by kernel_rfl) (by kernel_rfl) (fun _ _ _ h => h) (Or.inl ⟨by rfl, ?hy353_0_6⟩) (by assumption) ?_
  case hy353_0_6 => (intro w hSw; (try dsimp only at hSw); go_simp; try (with_reducible rfl))
  (try simp only [Act.put, List.getElem_toArray, List.getElem_cons_zero, List.getElem_cons_succ, List.setIfInBounds_toArray, List.set_cons_zero, List.set_cons_succ])
  refine wpAnyH_take (i := 7) (v := ?v353_0_7) rfl (by kernel_rfl) (by kernel_rfl) (by kernel_rfl) (fun _ _ _ h => h) (Or.inl ⟨by rfl, ?hy353_0_7⟩) (by assumption) ?_
  case hy353_0_7 => (intro w hSw; (try dsimp only at hSw); go_simp; try (with_reducible rfl))
  (try simp only [Act.put, List.getElem_toArray, List.getElem_cons_zero, List.getElem_cons_succ, List.setIfInBounds_toArray, List.set_cons_zero, List.set_cons_succ])
  refine wpAnyH_take (i := 8) (v := ?v353_0_8) rfl (by kernel_rfl) (by kernel_rfl) (by kernel_rfl) (fun _ _ _ h => h) (Or.inl ⟨by rfl, ?hy353_0_8⟩) (by assumption) ?_
  case hy353_0_8 => (intro w hSw; (try dsimp only at hSw); go_simp; try (with_reducible rfl))
  (try simp only [Act.put, List.getElem_toArray, List.getElem_cons_zero, List.getElem_cons_succ, List.setIfInBounds_toArray, List.set_cons_zero, List.set_cons_succ])
  refine wpAnyH_take (i := 9) (v := ?v353_0_9) rfl (by kernel_rfl) (by kernel_rfl) (by kernel_rfl) (fun _ _ _ h => h) (Or.inl ⟨by rfl, ?hy353_0_9⟩) (by assumption) ?_
  case hy353_0_9 => (intro w hSw; (try dsimp only at hSw); go_simp; try (with_reducible rfl))
  (try simp only [Act.put, List.getElem_toArray, List.getElem_cons_zero, List.getElem_cons_succ, List.setIfInBounds_toArray, List.set_cons_zero, List.set_cons_succ])
  refine wpAnyH_take (i := 10) (v := ?v353_0_10) rfl (by kernel_rfl) (by kernel_rfl) (by kernel_rfl) (fun _ _ _ h => h) (Or.inl ⟨by rfl, ?hy353_0_10⟩) (by assumption) ?_
  case hy353_0_10 => (intro w hSw; (try dsimp only at hSw); go_simp; try (with_reducible rfl))
  (try simp only [Act.put, List.getElem_toArray, List.getElem_cons_zero, List.getElem_cons_succ, List.setIfInBounds_toArray, List.set_cons_zero, List.set_cons_succ])
  refine wpAnyH_take (i := 11) (v := ?v353_0_11) rfl (by kernel_rfl) (by kernel_rfl) (by kernel_rfl) (fun _ _ _ h => h) (Or.inl ⟨by rfl, ?hy353_0_11⟩) (by assumption) ?_
  case hy353_0_11 => (intro w hSw; (try dsimp only at hSw); go_simp; try (with_reducible rfl))
  (try simp only [Act.put, List.getElem_toArray, List.getElem_cons_zero, List.getElem_cons_succ, List.setIfInBounds_toArray, List.set_cons_zero, List.set_cons_succ])
  refine wpAnyH_take (i := 12) (v := ?v353_0_12) rfl (by kernel_rfl) (by kernel_rfl) (by kernel_rfl) (fun _ _ _ h => h) (Or.inl ⟨by rfl, ?hy353_0_12⟩) (by assumption) ?_
  case hy353_0_12 => (intro w hSw; (try dsimp only at hSw); go_simp; try (with_reducible rfl))
  (try simp only [Act.put, List.getElem_toArray, List.getElem_cons_zero, List.getElem_cons_succ, List.setIfInBounds_toArray, List.set_cons_zero, List.set_cons_succ])
  refine wpAnyH_take (i := 13) (v := ?v353_0_13) rfl (by kernel_rfl) (by kernel_rfl) (by kernel_rfl) (fun _ _ _ h => h) (Or.inl ⟨by rfl, ?hy353_0_13⟩) (by assumption) ?_
  case hy353_0_13 => (intro w hSw; (try dsimp only at hSw); go_simp; try (with_reducible rfl))
  (try simp only [Act.put, List.getElem_toArray, List.getElem_cons_zero, List.getElem_cons_succ, List.setIfInBounds_toArray, List.set_cons_zero, List.set_cons_succ])
  refine wpAnyH_take (i := 14) (v := ?v353_0_14) rfl (by kernel_rfl) (by kernel_rfl) (by kernel_rfl) (fun _ _ _ h => h) (Or.inl ⟨by rfl, ?hy353_0_14⟩) (by assumption) ?_
  case hy353_0_14 => (intro w hSw; (try dsimp only at hSw); go_simp; try (with_reducible rfl))
  (try simp only [Act.put, List.getElem_toArray, List.getElem_cons_zero, List.getElem_cons_succ, List.setIfInBounds_toArray, List.set_cons_zero, List.set_cons_succ])
  refine wpAnyH_take (i := 15) (v := ?v353_0_15) rfl (by kernel_rfl) (by kernel_rfl) (by kernel_rfl) (fun _ _ _ h => h) (Or.inl ⟨by rfl, ?hy353_0_15⟩) (by assumption) ?_
  case hy353_0_15 => (intro w hSw; (try dsimp only at hSw); go_simp; try (with_reducible rfl))
  (try simp only [Act.put, List.getElem_toArray, List.getElem_cons_zero, List.getElem_cons_succ, List.setIfInBounds_toArray, List.set_cons_zero, List.set_cons_succ])
  refine wpAnyH_take (i := 16) (v := ?v353_0_16) rfl (by kernel_rfl) (by kernel_rfl) (by kernel_rfl) (fun _ _ _ h => h) (Or.inl ⟨by rfl, ?hy353_0_16⟩) (by assumption) ?_
  case hy353_0_16 => (intro w hSw; (try dsimp only at hSw); go_simp; try (with_reducible rfl))
  (try simp only [Act.put, List.getElem_toArray, List.getElem_cons_zero, List.getElem_cons_succ, List.setIfInBounds_toArray, List.set_cons_zero, List.set_cons_succ])
  refine wpAnyH_take (i := 17) (v := ?v353_0_17) rfl (by kernel_rfl) (by kernel_rfl) (by kernel_rfl) (fun _ _ _ h => h) (Or.inl ⟨by rfl, ?hy353_0_17⟩) (by assumption) ?_
  case hy353_0_17 => (intro w hSw; (try dsimp only at hSw); go_simp; try (with_reducible rfl))
  (try simp only [Act.put, List.getElem_toArray, List.getElem_cons_zero, List.getElem_cons_succ, List.setIfInBounds_toArray, List.set_cons_zero, List.set_cons_succ])
  refine wpAnyH_ready (rs := [18, 19]) (by kernel_rfl) (by simp) (AllReadyH.cons rfl (fun K hK => ?_) (AllReadyH.cons rfl (fun K hK => ?_) AllReadyH.nil))
  · go_simp
    refine hK.out _ _ ?_ (fun hHeld => ?_)
    · exact KS.out _ (by (repeat first | exact Chg.refl _ _ | apply Chg.drew | apply Chg.alloc | (refine Chg.setCell ?_ (.inr (by simp; try omega)) _)))
    clear hK K
    (try simp only [Act.put, List.getElem_toArray, List.getElem_cons_zero, List.getElem_cons_succ, List.setIfInBounds_toArray, List.set_cons_zero, List.set_cons_succ])
    refine wpAnyH_ready (rs := [19]) (by kernel_rfl) (by simp) (AllReadyH.cons rfl (fun K hK => ?_) AllReadyH.nil)
    go_simp
    refine hK.out _ _ ?_ (fun hHeld => ?_)
    · exact KS.out _ (by (repeat first | exact Chg.refl _ _ | apply Chg.drew | apply Chg.alloc | (refine Chg.setCell ?_ (.inr (by simp; try omega)) _)))
    clear hK K
    (try simp only [Act.put, List.getElem_toArray, List.getElem_cons_zero, List.getElem_cons_succ, List.setIfInBounds_toArray, List.set_cons_zero, List.set_cons_succ])
    refine wpAnyH_ready (rs := [20]) (by kernel_rfl) (by simp) (AllReadyH.cons rfl (fun K hK => ?_) AllReadyH.nil)
    go_simp
    refine hK.out _ _ ?_ (fun hHeld => ?_)
    · exact KS.out _ (by (repeat first | exact Chg.refl _ _ | apply Chg.drew | apply Chg.alloc | (refine Chg.setCell ?_ (.inr (by simp; try omega)) _)))
    clear hK K
    (try simp only [Act.put, List.getElem_toArray, List.getElem_cons_zero, List.getElem_cons_succ, List.setIfInBounds_toArray, List.set_cons_zero, List.set_cons_succ])
    refine wpAnyH_ready (rs := [21]) (by kernel_rfl) (by simp) (AllReadyH.cons rfl (fun K hK => ?_) AllReadyH.nil)
    go_simp
    refine hK.out _ _ ?_ (fun hHeld => ?_)
    · exact KS.out _ (by (repeat first | exact Chg.refl _ _ | apply Chg.drew | apply Chg.alloc | (refine Chg.setCell ?_ (.inr (by simp; try omega)) _)))
    clear hK K
    (try simp only [Act.put, List.getElem_toArray, List.getElem_cons_zero, List.getElem_cons_succ, List.setIfInBounds_toArray, List.set_cons_zero, List.set_cons_succ])
    refine wpAnyH_done (by kernel_rfl) ?_ _
    go_wp2
    go_ret
    exact ⟨rfl, (by (repeat first | exact Chg.refl _ _ | apply Chg.drew | apply Chg.alloc | (refine Chg.setCell ?_ (.inr (by simp; try omega)) _)))⟩
  · go_simp
    refine hK.out _ _ ?_ (fun hHeld => ?_)
    · exact KS.out _ (by (repeat first | exact Chg.refl _ _ | apply Chg.drew | apply Chg.alloc | (refine Chg.setCell ?_ (.inr (by simp; try omega)) _)))
    clear hK K
    (try simp only [Act.put, List.getElem_toArray, List.getElem_cons_zero, List.getElem_cons_succ, List.setIfInBounds_toArray, List.set_cons_zero, List.set_cons_succ])
    refine wpAnyH_ready (rs := [18]) (by kernel_rfl) (by simp) (AllReadyH.cons rfl (fun K hK => ?_) AllReadyH.nil)
    go_simp
    refine hK.out _ _ ?_ (fun hHeld => ?_)
    · exact KS.out _ (by (repeat first | exact Chg.refl _ _ | apply Chg.drew | apply Chg.alloc | (refine Chg.setCell ?_ (.inr (by simp; try omega)) _)))
    clear hK K
    (try simp only [Act.put, List.getElem_toArray, List.getElem_cons_zero, List.getElem_cons_succ, List.setIfInBounds_toArray, List.set_cons_zero, List.set_cons_succ])
    refine wpAnyH_ready (rs := [20]) (by kernel_rfl) (by simp) (AllReadyH.cons rfl (fun K hK => ?_) AllReadyH.nil)
    go_simp
    refine hK.out _ _ ?_ (fun hHeld => ?_)
    · exact KS.out _ (by (repeat first | exact Chg.refl _ _ | apply Chg.drew | apply Chg.alloc | (refine Chg.setCell ?_ (.inr (by simp; try omega)) _)))
    clear hK K
    (try simp only [Act.put, List.getElem_toArray, List.getElem_cons_zero, List.getElem_cons_succ, List.setIfInBounds_toArray, List.set_cons_zero, List.set_cons_succ])
    refine wpAnyH_ready (rs := [21]) (by kernel_rfl) (by simp) (AllReadyH.cons rfl (fun K hK => ?_) AllReadyH.nil)
    go_simp
    refine hK.out _ _ ?_ (fun hHeld => ?_)
    · exact KS.out _ (by (repeat first | exact Chg.refl _ _ | apply Chg.drew | apply Chg.alloc | (refine Chg.setCell ?_ (.inr (by simp; try omega)) _)))
    clear hK K
    (try simp only [Act.put, List.getElem_toArray, List.getElem_cons_zero, List.getElem_cons_succ, List.setIfInBounds_toArray, List.set_cons_zero, List.set_cons_succ])
    refine wpAnyH_done (by kernel_rfl) ?_ _
    go_wp2
    go_ret
    exact ⟨rfl, (by (repeat first | exact Chg.refl _ _ | apply Chg.drew | apply Chg.alloc | (refine Chg.setCell ?_ (.inr (by simp; try omega)) _)))⟩

/-- A debt more, or less. -/
def addL (L : List Ln) (c d u : Nat) (n : Int) : List Ln := if n = 0 then L else setL L ⟨c, d, u, (owedAt L (rk c d u)).1, (owedAt L (rk c d u)).2 + n⟩

set_option maxRecDepth 100000 in
set_option maxHeartbeats 2000000 in
theorem ladd {w : World} {lb mb : Nat} {S : Nat → Bool} {L : List Ln} (h : IsL w lb mb S L) {c d u : Nat} (hc : c < 256) (hd : d < 256) (hu : u < 256) {n : Int} (hn1 : -4398046511104 ≤ n) (hn2 : n ≤ 4398046511104) :
    Calls Try.prog 87 #[.pointer (some ⟨lb, 0, none⟩), .agg #[.int .u8 c, .int .u8 d, .int .u8 u], .int .i64 n] w fun e w' => e = .returned (.tuple #[]) ∧ MapL w' mb (addL L c d u n) ∧ Chg [mb] w w' := by
  by_cases h0 : n = 0
  · subst h0
    have HM := Lib.hid h.map
    clear h
    go_enter Try.func87, Try.ntmps87
    go_wp2
    go_end0
    exact ⟨rfl, HM.out.alloc _, (Chg.refl _ _).alloc _⟩
  · have hne : (n != 0) = true := by rw [bne_iff_ne]; exact h0
    obtain ⟨b1, b2, b3, b4⟩ := h.good.at (rk c d u)
    have hadd : addL L c d u n = setL L ⟨c, d, u, (owedAt L (rk c d u)).1, (owedAt L (rk c d u)).2 + n⟩ := by unfold addL; rw [if_neg h0]
    have HADD := Lib.hid hadd
    obtain ⟨eb, heb⟩ : ∃ eb, eb = w.heap.size := ⟨_, rfl⟩
    have hE := Blk.new w 118 #[.int .u8 c, .int .u8 d, .int .u8 u]
    have hI0 := h.chg0 ((Chg.refl [] w).alloc (.cells #[.int .u8 c, .int .u8 d, .int .u8 u] 118))
    have hc0 : Chg [mb] w (w.alloc (.cells #[.int .u8 c, .int .u8 d, .int .u8 u] 118)) := (Chg.refl _ _).alloc _
    obtain ⟨W0, hW0⟩ : ∃ W0, W0 = w.alloc (.cells #[.int .u8 c, .int .u8 d, .int .u8 u] 118) := ⟨_, rfl⟩
    rw [← heb, ← hW0] at hE
    rw [← hW0] at hI0 hc0
    have HI := Lib.hid hI0
    have HE := Lib.hid hE
    have HC0 := Lib.hid hc0
    have hmbe : mb ≠ eb := by have := h.map.lt; omega
    have KS : Hid (∀ W, Chg [] W0 W → W.cell? ⟨lb, 17, none⟩ = some (.map (some mb)) ∧ W.cell? ⟨eb, 0, none⟩ = some (.int .u8 c) ∧ W.cell? ⟨eb, 1, none⟩ = some (.int .u8 d) ∧ W.cell? ⟨eb, 2, none⟩ = some (.int .u8 u) ∧ (Instr.lookup 27 (.map (some mb)) (endsV c d u) false).run Try.prog W = .ok (owedV (owedAt L (rk c d u)).1 (owedAt L (rk c d u)).2) W) :=
      fun W hW => ⟨(hI0.chg0 hW).cell, (hE.chg hW (by simp)).cell 0, (hE.chg hW (by simp)).cell 1, (hE.chg hW (by simp)).cell 2, (hI0.map.chg hW (by simp)).look hc hd hu⟩
    have HSM : Hid ((⟨c, d, u, (owedAt L (rk c d u)).1, (owedAt L (rk c d u)).2 + n⟩ : Ln).small) := ⟨hc, hd, hu⟩
    have hfew := h.good.few
    generalize (owedAt L (rk c d u)).1 = l1 at *
    generalize (owedAt L (rk c d u)).2 = d1 at *
    clear hI0 hE h hc0 hc hd hu hadd h0
    go_enter Try.func87, Try.ntmps87
    go_wp2
    rw [← hW0, ← heb]
    clear heb hW0
    refine wp_region_held_drew (S := (fun w' : World => w'.cell? ⟨lb, 17, none⟩ = some (.map (some mb)) ∧ w'.cell? ⟨eb, 0, none⟩ = some (.int .u8 c) ∧ w'.cell? ⟨eb, 1, none⟩ = some (.int .u8 d) ∧ w'.cell? ⟨eb, 2, none⟩ = some (.int .u8 u) ∧ (Instr.lookup 27 (.map (some mb)) (endsV c d u) false).run Try.prog w' = .ok (owedV l1 d1) w')) (by kernel_rfl) ?_ (fun hHeld => ?_)
    · exact KS.out _ (by (repeat first | exact Chg.refl _ _ | apply Chg.drew | apply Chg.alloc | (refine Chg.setCell ?_ (.inr (by simp; try omega)) _)))
    refine wpAnyH_take (i := 0) (v := ?v552_0_0) rfl (by kernel_rfl) (by kernel_rfl) (by kernel_rfl) (fun _ _ _ h => h) (Or.inl ⟨by rfl, ?hy552_0_0⟩) (by assumption) ?_
    case hy552_0_0 => (intro w hSw; (try dsimp only at hSw); go_simp; try (with_reducible rfl))
    (try simp only [Act.put, List.getElem_toArray, List.getElem_cons_zero, List.setIfInBounds_toArray, List.set_cons_zero, List.set_cons_succ])
    refine wpAnyH_take (i := 1) (v := ?v552_0_1) rfl (by kernel_rfl) (by kernel_rfl) (by kernel_rfl) (fun _ _ _ h => h) (Or.inl ⟨by rfl, ?hy552_0_1⟩) (by assumption) ?_
    case hy552_0_1 => (intro w hSw; (try dsimp only at hSw); go_simp; try (with_reducible rfl))
    (try simp only [Act.put, List.getElem_toArray, List.getElem_cons_zero, List.getElem_cons_succ, List.setIfInBounds_toArray, List.set_cons_zero, List.set_cons_succ])
    refine wpAnyH_take (i := 2) (v := ?v552_0_2) rfl (by kernel_rfl) (by kernel_rfl) (by kernel_rfl) (fun _ _ _ h => h) (Or.inl ⟨by rfl, ?hy552_0_2⟩) (by assumption) ?_
    case hy552_0_2 => (intro w hSw; (try dsimp only at hSw); go_simp; try (with_reducible rfl))
    (try simp only [Act.put, List.getElem_toArray, List.getElem_cons_zero, List.getElem_cons_succ, List.setIfInBounds_toArray, List.set_cons_zero, List.set_cons_succ])
    refine wpAnyH_take (i := 3) (v := ?v552_0_3) rfl (by kernel_rfl) (by kernel_rfl) (by kernel_rfl) (fun _ _ _ h => h) (Or.inl ⟨by rfl, ?hy552_0_3⟩) (by assumption) ?_
    case hy552_0_3 => (intro w hSw; (try dsimp only at hSw); go_simp; try (with_reducible rfl))
    (try simp only [Act.put, List.getElem_toArray, List.getElem_cons_zero, List.getElem_cons_succ, List.setIfInBounds_toArray, List.set_cons_zero, List.set_cons_succ])
    refine wpAnyH_take (i := 4) (v := ?v552_0_4) rfl (by kernel_rfl) (by kernel_rfl) (by kernel_rfl) (fun _ _ _ h => h) (Or.inl ⟨by rfl, ?hy552_0_4⟩) (by assumption) ?_
    case hy552_0_4 => (intro w hSw; (try dsimp only at hSw); go_simp; try (with_reducible rfl))
    (try simp only [Act.put, List.getElem_toArray, List.getElem_cons_zero, List.getElem_cons_succ, List.setIfInBounds_toArray, List.set_cons_zero, List.set_cons_succ])
    refine wpAnyH_take (i := 5) (v := ?v552_0_5) rfl (by kernel_rfl) (by kernel_rfl) (by kernel_rfl) (fun _ _ _ h => h) (Or.inl ⟨by rfl, ?hy552_0_5⟩) (by assumption) ?_
    case hy552_0_5 => (intro w hSw; (try dsimp only at hSw); go_simp; try (with_reducible rfl))
    (try simp only [Act.put, List.getElem_toArray, List.getElem_cons_zero, List.getElem_cons_succ, List.setIfInBounds_toArray, List.set_cons_zero, List.set_cons_succ])
    refine wpAnyH_ready (rs := [6]) (by kernel_rfl) (by simp) (AllReadyH.cons rfl (fun K hK => ?_) AllReadyH.nil)
    go_simp
    refine hK.out _ _ ?_ (fun hHeld => ?_)
    · exact KS.out _ (by (repeat first | exact Chg.refl _ _ | apply Chg.drew | apply Chg.alloc | (refine Chg.setCell ?_ (.inr (by simp; try omega)) _)))
    clear hK K
    (try simp only [Act.put, List.getElem_toArray, List.getElem_cons_zero, List.getElem_cons_succ, List.setIfInBounds_toArray, List.set_cons_zero, List.set_cons_succ])
    refine wpAnyH_ready (rs := [7]) (by kernel_rfl) (by simp) (AllReadyH.cons rfl (fun K hK => ?_) AllReadyH.nil)
    go_simp
    refine hK.out _ _ ?_ (fun hHeld => ?_)
    · exact KS.out _ (by (repeat first | exact Chg.refl _ _ | apply Chg.drew | apply Chg.alloc | (refine Chg.setCell ?_ (.inr (by simp; try omega)) _)))
    clear hK K
    (try simp only [Act.put, List.getElem_toArray, List.getElem_cons_zero, List.getElem_cons_succ, List.setIfInBounds_toArray, List.set_cons_zero, List.set_cons_succ])
    refine wpAnyH_done (by kernel_rfl) ?_ _
    go_wp2
    clear hHeld
    have hb2 := Blk.new W0 120 #[.int .i64 l1, .int .i64 (d1 + n)]
    have hc2 : Chg [] W0 (W0.alloc (.cells #[.int .i64 l1, .int .i64 (d1 + n)] 120)) := (Chg.refl _ _).alloc _
    obtain ⟨xb, hxb⟩ : ∃ xb, xb = W0.heap.size := ⟨_, rfl⟩
    obtain ⟨W2, hW2⟩ : ∃ W2, W2 = W0.alloc (.cells #[.int .i64 l1, .int .i64 (d1 + n)] 120) := ⟨_, rfl⟩
    have hxm : mb < xb := by rw [hxb]; exact HI.out.map.lt
    rw [← hxb, ← hW2] at hb2
    rw [← hW2] at hc2
    rw [← hW2, ← hxb]
    clear hW2 hxb
    have HI2 := HI.out.chg0 hc2
    obtain ⟨W3, hr3, hm3, ht3⟩ := HI2.map.drew.drew.store (by omega) HSM.out
    have KT : Hid (Chg [mb] W2 W3) := ((Chg.refl _ _).drew.drew).trans (turned_chg ht3)
    have hlm := HI2.ne
    have KS4 : Hid (∀ W, Chg [mb] W2 W → W.cell? ⟨lb, 17, none⟩ = some (.map (some mb)) ∧ W.cell? ⟨eb, 0, none⟩ = some (.int .u8 c) ∧ W.cell? ⟨eb, 1, none⟩ = some (.int .u8 d) ∧ W.cell? ⟨eb, 2, none⟩ = some (.int .u8 u) ∧ W.cell? ⟨xb, 0, none⟩ = some (.int .i64 l1) ∧ W.cell? ⟨xb, 1, none⟩ = some (.int .i64 (d1 + n))) := fun W hW => by
      have q1 := HI2.blk.chg hW (by simpa using hlm)
      have q2 := (HE.out.chg hc2 (by simp)).chg hW (by simp; omega)
      have q3 := hb2.chg hW (by simp; omega)
      exact ⟨by rw [q1.cell, ledC_map], q2.cell 0, q2.cell 1, q2.cell 2, q3.cell 0, q3.cell 1⟩
    have HF : Hid (MapL W3 mb (addL L c d u n) ∧ Chg [mb] w W3) := ⟨by rw [HADD.out]; exact hm3, HC0.out.trans ((hc2.mono (by simp)).trans KT.out)⟩
    have KD := KS4.out _ (Chg.refl _ W2).drew.drew
    clear hm3 ht3 HI2 hb2 hc2 KS
    refine wp_region_held_drew (S := (fun w' : World => w'.cell? ⟨lb, 17, none⟩ = some (.map (some mb)) ∧ w'.cell? ⟨eb, 0, none⟩ = some (.int .u8 c) ∧ w'.cell? ⟨eb, 1, none⟩ = some (.int .u8 d) ∧ w'.cell? ⟨eb, 2, none⟩ = some (.int .u8 u) ∧ w'.cell? ⟨xb, 0, none⟩ = some (.int .i64 l1) ∧ w'.cell? ⟨xb, 1, none⟩ = some (.int .i64 (d1 + n)))) (by kernel_rfl) ?_ (fun hHeld => ?_)
    · exact KD
    refine wpAnyH_take (i := 0) (v := ?v554_0_0) rfl (by kernel_rfl) (by kernel_rfl) (by kernel_rfl) (fun _ _ _ h => h) (Or.inl ⟨by rfl, ?hy554_0_0⟩) (by assumption) ?_
    case hy554_0_0 => (intro w hSw; (try dsimp only at hSw); go_simp; try (with_reducible rfl))
    (try simp only [Act.put, List.getElem_toArray, List.getElem_cons_zero, List.setIfInBounds_toArray, List.set_cons_zero, List.set_cons_succ])
    refine wpAnyH_take (i := 1) (v := ?v554_0_1) rfl (by kernel_rfl) (by kernel_rfl) (by kernel_rfl) (fun _ _ _ h => h) (Or.inl ⟨by rfl, ?hy554_0_1⟩) (by assumption) ?_
    case hy554_0_1 => (intro w hSw; (try dsimp only at hSw); go_simp; try (with_reducible rfl))
    (try simp only [Act.put, List.getElem_toArray, List.getElem_cons_zero, List.getElem_cons_succ, List.setIfInBounds_toArray, List.set_cons_zero, List.set_cons_succ])
    refine wpAnyH_take (i := 2) (v := ?v554_0_2) rfl (by kernel_rfl) (by kernel_rfl) (by kernel_rfl) (fun _ _ _ h => h) (Or.inl ⟨by rfl, ?hy554_0_2⟩) (by assumption) ?_
    case hy554_0_2 => (intro w hSw; (try dsimp only at hSw); go_simp; try (with_reducible rfl))
    (try simp only [Act.put, List.getElem_toArray, List.getElem_cons_zero, List.getElem_cons_succ, List.setIfInBounds_toArray, List.set_cons_zero, List.set_cons_succ])
    refine wpAnyH_take (i := 3) (v := ?v554_0_3) rfl (by kernel_rfl) (by kernel_rfl) (by kernel_rfl) (fun _ _ _ h => h) (Or.inl ⟨by rfl, ?hy554_0_3⟩) (by assumption) ?_
    case hy554_0_3 => (intro w hSw; (try dsimp only at hSw); go_simp; try (with_reducible rfl))
    (try simp only [Act.put, List.getElem_toArray, List.getElem_cons_zero, List.getElem_cons_succ, List.setIfInBounds_toArray, List.set_cons_zero, List.set_cons_succ])
    refine wpAnyH_take (i := 4) (v := ?v554_0_4) rfl (by kernel_rfl) (by kernel_rfl) (by kernel_rfl) (fun _ _ _ h => h) (Or.inl ⟨by rfl, ?hy554_0_4⟩) (by assumption) ?_
    case hy554_0_4 => (intro w hSw; (try dsimp only at hSw); go_simp; try (with_reducible rfl))
    (try simp only [Act.put, List.getElem_toArray, List.getElem_cons_zero, List.getElem_cons_succ, List.setIfInBounds_toArray, List.set_cons_zero, List.set_cons_succ])
    refine wpAnyH_take (i := 5) (v := ?v554_0_5) rfl (by kernel_rfl) (by kernel_rfl) (by kernel_rfl) (fun _ _ _ h => h) (Or.inl ⟨by rfl, ?hy554_0_5⟩) (by assumption) ?_
    case hy554_0_5 => (intro w hSw; (try dsimp only at hSw); go_simp; try (with_reducible rfl))
    (try simp only [Act.put, List.getElem_toArray, List.getElem_cons_zero, List.getElem_cons_succ, List.setIfInBounds_toArray, List.set_cons_zero, List.set_cons_succ])
    refine wpAnyH_ready (rs := [6]) (by kernel_rfl) (by simp) (AllReadyH.cons rfl (fun K hK => ?_) AllReadyH.nil)
    go_simp
    refine hK.out _ _ ?_ (fun hHeld => ?_)
    · exact KS4.out _ KT.out
    clear hK K
    (try simp only [Act.put, List.getElem_toArray, List.getElem_cons_zero, List.getElem_cons_succ, List.setIfInBounds_toArray, List.set_cons_zero, List.set_cons_succ])
    refine wpAnyH_done (by kernel_rfl) ?_ _
    go_wp2
    go_end0
    exact ⟨rfl, HF.out⟩


end Go.Proofs.Ytofnaigkfhfhoaa
