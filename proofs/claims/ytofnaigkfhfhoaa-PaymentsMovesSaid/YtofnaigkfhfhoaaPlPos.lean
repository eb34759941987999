/-
  Positions and totals of a ledger's lines, in plain Lean.
-/
import Derived.Test.YtofnaigkfhfhoaaPlPush
namespace Go.Proofs.Ytofnaigkfhfhoaa
open Pl

def sumL (g : Ln → Int) : List Ln → Int
  | [] => 0
  | x :: l => g x + sumL g l
theorem sum_set (g : Ln → Int) : ∀ {L : List Ln} (_ : Sorted L) (x : Ln), sumL g (setL L x) = sumL g L + g x - (match findR L x.rank with | some y => g y | none => 0)
  | [], _, x => by simp [setL, sumL, findR]
  | y :: l, h, x => by
    have hl : Sorted l := List.Pairwise.of_cons h
    have hlt := (List.pairwise_cons.1 h).1
    have ih := sum_set g hl x
    unfold setL
    rw [find_cons]
    split
    · rename_i h1
      rw [if_neg (by omega), find_lt (fun z hz => by have := hlt z hz; omega)]
      simp [sumL]
      omega
    · split
      · rename_i h1 h2
        rw [if_pos (by omega)]
        simp [sumL]
        omega
      · rename_i h1 h2
        rw [if_neg (by omega)]
        simp only [sumL]
        omega

/-- What one line adds to a party's position; to a total. -/
def posF (p v : Nat) (x : Ln) : Int := if x.cu = v then (if x.cr = p then x.deb else if x.db = p then -x.deb else 0) else 0
def totF (v : Nat) (x : Ln) : Int := if x.cu = v then x.deb else 0
def posOf (L : List Ln) (p v : Nat) : Int := sumL (posF p v) L
def totOf (L : List Ln) (v : Nat) : Int := sumL (totF v) L

/-- A debt more: what that does to a sum over the lines. -/
theorem sum_add (g : Ln → Int) {L : List Ln} (hs : Sorted L) (hsm : ∀ x ∈ L, x.small) {c d u : Nat} (hc : c < 256) (hd : d < 256) {n : Int} (hx : n = 0 ∨ (findR L (rk c d u)).isSome) :
    ∃ l b, sumL g (addL L c d u n) = sumL g L + (if n = 0 then 0 else g ⟨c, d, u, l, b + n⟩ - g ⟨c, d, u, l, b⟩) := by
  by_cases h0 : n = 0
  · exact ⟨0, 0, by unfold addL; rw [if_pos h0, if_pos h0]; omega⟩
  · have hi : (findR L (rk c d u)).isSome := hx.resolve_left h0
    cases hf : findR L (rk c d u) with
    | none => rw [hf] at hi; cases hi
    | some y =>
      obtain ⟨hy, hr⟩ := find_mem hf
      have hys := hsm y hy
      obtain ⟨e1, e2, e3⟩ := rk_inj hys.1 hys.2.1 hc hd (show rk y.cr y.db y.cu = rk c d u from hr)
      have ho : owedAt L (rk c d u) = (y.lim, y.deb) := by unfold owedAt; rw [hf]
      refine ⟨y.lim, y.deb, ?_⟩
      unfold addL
      rw [if_neg h0, if_neg h0, sum_set g hs, show (⟨c, d, u, (owedAt L (rk c d u)).1, (owedAt L (rk c d u)).2 + n⟩ : Ln).rank = rk c d u from rfl, hf, ho]
      have ey : (⟨c, d, u, y.lim, y.deb⟩ : Ln) = y := by cases y; simp_all
      dsimp only
      rw [ey]
      omega
theorem pos_add {L : List Ln} (hs : Sorted L) (hsm : ∀ x ∈ L, x.small) {c d u : Nat} (hc : c < 256) (hd : d < 256) {n : Int} (hx : n = 0 ∨ (findR L (rk c d u)).isSome) (p v : Nat) :
    posOf (addL L c d u n) p v = posOf L p v + (if u = v then (if c = p then n else if d = p then -n else 0) else 0) := by
  obtain ⟨l, b, h⟩ := sum_add (posF p v) hs hsm hc hd hx
  unfold posOf
  rw [h]
  by_cases h0 : n = 0
  · subst h0; simp
  · rw [if_neg h0]
    unfold posF
    dsimp only
    by_cases e : u = v
    · simp only [e, if_true]
      split
      · omega
      · split <;> omega
    · simp only [e, if_false]
      omega
theorem tot_add {L : List Ln} (hs : Sorted L) (hsm : ∀ x ∈ L, x.small) {c d u : Nat} (hc : c < 256) (hd : d < 256) {n : Int} (hx : n = 0 ∨ (findR L (rk c d u)).isSome) (v : Nat) :
    totOf (addL L c d u n) v = totOf L v + (if u = v then n else 0) := by
  obtain ⟨l, b, h⟩ := sum_add (totF v) hs hsm hc hd hx
  unfold totOf
  rw [h]
  by_cases h0 : n = 0
  · subst h0; simp
  · rw [if_neg h0]
    unfold totF
    dsimp only
    by_cases e : u = v
    · simp only [e, if_true]; omega
    · simp only [e, if_false]; omega
/-- Behind a push: so much of the one's position is the other one's. -/
theorem pos_pushed {S : Nat → Bool} {L : List Ln} (h : GoodL S L) (hs : Sorted L) (hsm : ∀ x ∈ L, x.small) {f t u : Nat} (hf : f < 256) (ht : t < 256) (hu : u < 256) {n : Int} (h1 : 1 ≤ n) (h2 : n ≤ room L f t u) (p v : Nat) :
    posOf (pushed L f t u n) p v = posOf L p v + (if u = v then (if t = p then n else if f = p then -n else 0) else 0) := by
  obtain ⟨hne, _⟩ := room_in (u := u) h hsm hf ht (by omega)
  have b1 := h.at (rk f t u)
  have b2 := h.at (rk t f u)
  have hfall : fallOf L f t u n = min n (owedAt L (rk f t u)).2 := rfl
  have hroom : room L f t u = (owedAt L (rk f t u)).2 + (owedAt L (rk t f u)).1 - (owedAt L (rk t f u)).2 := rfl
  have hx1 : -fallOf L f t u n = 0 ∨ (findR L (rk f t u)).isSome := by
    by_cases e : fallOf L f t u n = 0
    · left; omega
    · right
      obtain ⟨x, hx, _⟩ := owedAt_some (L := L) (r := rk f t u) (.inr (by omega))
      rw [hx]; rfl
  have e2 : owedAt (addL L f t u (-fallOf L f t u n)) (rk t f u) = owedAt L (rk t f u) := by
    rw [owedAt_add hs, if_neg (rk_ne hne)]
  have hx2 : n - fallOf L f t u n = 0 ∨ (findR (addL L f t u (-fallOf L f t u n)) (rk t f u)).isSome := by
    by_cases e : n - fallOf L f t u n = 0
    · left; exact e
    · right
      obtain ⟨x, hx, _⟩ := owedAt_some (L := addL L f t u (-fallOf L f t u n)) (r := rk t f u) (.inl (by rw [e2]; omega))
      rw [hx]; rfl
  unfold pushed
  rw [pos_add (sorted_add hs _ _ _ _) (small_add hsm hf ht hu _) ht hf hx2, pos_add hs hsm hf ht hx1]
  by_cases e : u = v
  · simp only [e, if_true]
    by_cases e1 : t = p
    · rw [if_pos e1, if_pos e1, if_neg (fun h => hne (h.trans e1.symm)), if_pos e1]; omega
    · rw [if_neg e1, if_neg e1, if_neg e1]
      split <;> omega
  · simp only [e, if_false]
    omega
/-- All positions come to nothing. -/
theorem pos_zero {L : List Ln} (v : Nat) : ∀ (P : List Nat), P.Nodup → (∀ x ∈ L, x.cr ∈ P ∧ x.db ∈ P ∧ x.cr ≠ x.db) → (P.map fun p => posOf L p v).sum = 0 := by
  intro P hP
  induction L with
  | nil =>
    intro _
    have e0 : ∀ (Q : List Nat), (Q.map fun p => posOf [] p v).sum = 0 := by
      intro Q
      induction Q with
      | nil => rfl
      | cons q Q ih => simp only [List.map_cons, List.sum_cons, ih]; rfl
    exact e0 P
  | cons x l ih =>
    intro hx
    have ih' := ih (fun y hy => hx y (by simp [hy]))
    obtain ⟨h1, h2, h3⟩ := hx x (by simp)
    have e : (P.map fun p => posOf (x :: l) p v) = P.map fun p => posF p v x + posOf l p v := rfl
    have es : ∀ (Q : List Nat), (Q.map fun p => posF p v x + posOf l p v).sum = (Q.map fun p => posF p v x).sum + (Q.map fun p => posOf l p v).sum := by
      intro Q
      induction Q with
      | nil => rfl
      | cons q Q ih => simp only [List.map_cons, List.sum_cons, ih]; omega
    rw [e, es, ih']
    have hq : ∀ (Q : List Nat), Q.Nodup → (Q.map fun p => posF p v x).sum = if x.cu = v then (if x.cr ∈ Q then x.deb else 0) - (if x.db ∈ Q then x.deb else 0) else 0 := by
      intro Q hQ
      induction Q with
      | nil => simp
      | cons q Q ih =>
        obtain ⟨hn, hQ'⟩ := List.nodup_cons.1 hQ
        simp only [List.map_cons, List.sum_cons, ih hQ', List.mem_cons]
        unfold posF
        by_cases e : x.cu = v
        · simp only [e, if_true]
          by_cases a1 : x.cr = q
          · have a2 : ¬ x.db = q := fun h => h3 (a1.trans h.symm)
            have a3 : x.cr ∉ Q := by rw [a1]; exact hn
            simp only [a1, if_true, true_or, a2, false_or]
            rw [if_neg (by rw [← a1]; exact a3)]
            omega
          · by_cases a2 : x.db = q
            · have a3 : x.db ∉ Q := by rw [a2]; exact hn
              simp only [a1, a2, if_true, if_false, false_or, true_or]
              rw [if_neg (c := q ∈ Q) hn]
              omega
            · simp only [a1, a2, if_false, false_or]
              omega
        · simp only [e, if_false]; omega
    rw [hq P hP]
    simp [h1, h2]
end Go.Proofs.Ytofnaigkfhfhoaa
