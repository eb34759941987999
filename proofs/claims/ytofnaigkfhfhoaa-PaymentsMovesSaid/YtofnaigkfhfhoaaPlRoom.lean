/-
  What a push does to a ledger's rooms, in plain Lean.
-/
import Derived.Test.YtofnaigkfhfhoaaLOf
namespace Go.Proofs.Ytofnaigkfhfhoaa
open Go.RowKit Go.Maps Pl

section
variable {S : Nat → Bool} {L : List Ln}
theorem owedAt_pushed (hs : Sorted L) {f t : Nat} (hne : f ≠ t) (u : Nat) (n : Int) (r : Nat) :
    owedAt (pushed L f t u n) r = if rk t f u = r then ((owedAt L r).1, (owedAt L r).2 + (n - fallOf L f t u n)) else if rk f t u = r then ((owedAt L r).1, (owedAt L r).2 - fallOf L f t u n) else owedAt L r := by
  unfold pushed
  rw [owedAt_add (sorted_add hs _ _ _ _), owedAt_add hs]
  by_cases e : rk t f u = r
  · rw [if_pos e, if_pos e, if_neg (fun e2 => rk_ne hne (e2.trans e.symm))]
  · rw [if_neg e, if_neg e]
    split
    · rw [Int.sub_eq_add_neg]
    · rfl
theorem rk_iff {c d u c' d' u' : Nat} (hc : c < 256) (hd : d < 256) (hc' : c' < 256) (hd' : d' < 256) : rk c d u = rk c' d' u' ↔ c = c' ∧ d = d' ∧ u = u' :=
  ⟨rk_inj hc hd hc' hd', by rintro ⟨rfl, rfl, rfl⟩; rfl⟩

theorem room_pushed (hs : Sorted L) {f t u v a b : Nat} (hf : f < 256) (ht : t < 256) (ha : a < 256) (hb : b < 256) (hne : f ≠ t) (n : Int) :
    room (pushed L f t u n) a b v = if v = u then (if a = f ∧ b = t then room L a b v - n else if a = t ∧ b = f then room L a b v + n else room L a b v) else room L a b v := by
  unfold room
  rw [owedAt_pushed hs hne, owedAt_pushed hs hne]
  simp only [rk_iff ht hf ha hb, rk_iff hf ht ha hb, rk_iff ht hf hb ha, rk_iff hf ht hb ha]
  by_cases hv : v = u
  · subst hv
    simp only [and_true, if_true]
    by_cases h1 : a = f ∧ b = t
    · obtain ⟨rfl, rfl⟩ := h1
      simp only [hne, Ne.symm hne, and_self, if_true, if_false]
      omega
    · rw [if_neg h1]
      by_cases h2 : a = t ∧ b = f
      · obtain ⟨rfl, rfl⟩ := h2
        simp only [hne, Ne.symm hne, and_self, if_true, if_false]
        omega
      · rw [if_neg h2, if_neg (fun h => h2 ⟨h.1.symm, h.2.symm⟩), if_neg (fun h => h1 ⟨h.1.symm, h.2.symm⟩), if_neg (fun h => h1 ⟨h.2.symm, h.1.symm⟩), if_neg (fun h => h2 ⟨h.2.symm, h.1.symm⟩)]
  · have hv' : ¬ u = v := fun e => hv e.symm
    simp only [hv, hv', and_false, if_false]

theorem capsL_pushed (h : GoodL S L) (hs : Sorted L) (hsm : ∀ x ∈ L, x.small) {f t u : Nat} (hf : f < 256) (ht : t < 256) {n : Int} (h1 : 1 ≤ n) (h2 : n ≤ room L f t u) (v : Nat) :
    capsL S (pushed L f t u n) v = if v = u then push (capsL S L v) f t n else capsL S L v := by
  obtain ⟨hne, _, _, hsf, hst, _⟩ := room_in (u := u) h hsm hf ht (by omega)
  funext a b
  have hr : (if v = u then push (capsL S L v) f t n else capsL S L v) a b = if v = u then push (capsL S L v) f t n a b else capsL S L v a b := by split <;> rfl
  rw [hr]
  by_cases hab : S a = true ∧ S b = true
  · have ha := h.pts a hab.1
    have hb := h.pts b hab.2
    rw [mem_P16] at ha hb
    have e : capsL S L v a b = room L a b v := by unfold capsL; rw [if_pos hab]
    have e2 : capsL S (pushed L f t u n) v a b = room (pushed L f t u n) a b v := by unfold capsL; rw [if_pos hab]
    unfold push
    rw [e, e2, room_pushed hs hf ht (by omega) (by omega) hne]
  · have e : capsL S L v a b = 0 := by unfold capsL; rw [if_neg hab]
    have e2 : capsL S (pushed L f t u n) v a b = 0 := by unfold capsL; rw [if_neg hab]
    unfold push
    rw [e, e2]
    split
    · rw [if_neg (by rintro ⟨rfl, rfl⟩; exact hab ⟨hsf, hst⟩), if_neg (by rintro ⟨rfl, rfl⟩; exact hab ⟨hst, hsf⟩)]
    · rfl

theorem pushE_led (h : GoodL S L) (hsm : ∀ x ∈ L, x.small) {f t : Nat} (hf : f < 256) (ht : t < 256) (u : Nat) (n : Int) : pushE (capsL S L u) f t n = lpushE L f t u n := by
  unfold pushE lpushE
  rw [capsL_room h hsm hf ht]
theorem pushC_led (h : GoodL S L) (hs : Sorted L) (hsm : ∀ x ∈ L, x.small) {f t : Nat} (hf : f < 256) (ht : t < 256) (u : Nat) (n : Int) : pushC (capsL S L u) f t n = capsL S (lpushL L f t u n) u := by
  unfold pushC lpushL
  rw [pushE_led h hsm hf ht]
  split
  · rename_i e
    unfold lpushE at e
    split at e
    · omega
    · split at e
      · omega
      · rw [capsL_pushed h hs hsm hf ht (by omega) (by omega), if_pos rfl]
  · rfl
theorem other_led (h : GoodL S L) (hs : Sorted L) (hsm : ∀ x ∈ L, x.small) {f t : Nat} (hf : f < 256) (ht : t < 256) {u v : Nat} (hv : v ≠ u) (n : Int) : capsL S (lpushL L f t u n) v = capsL S L v := by
  unfold lpushL
  split
  · rename_i e
    unfold lpushE at e
    split at e
    · omega
    · split at e
      · omega
      · rw [capsL_pushed h hs hsm hf ht (by omega) (by omega), if_neg hv]
  · rfl
end
end Go.Proofs.Ytofnaigkfhfhoaa
