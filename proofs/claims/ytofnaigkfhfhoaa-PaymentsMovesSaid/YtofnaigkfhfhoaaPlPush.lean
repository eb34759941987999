/-
  Plain law: what a push in a ledger does to its lines; what stays good.
-/
import Derived.Test.YtofnaigkfhfhoaaLed
namespace Go.Proofs.Ytofnaigkfhfhoaa
open Go.RowKit Go.Maps Pl

theorem owedAt_some {L : List Ln} {r : Nat} (h : (owedAt L r).1 ≠ 0 ∨ (owedAt L r).2 ≠ 0) : ∃ x, findR L r = some x ∧ x ∈ L ∧ x.rank = r ∧ (owedAt L r).1 = x.lim ∧ (owedAt L r).2 = x.deb := by
  unfold owedAt at *
  cases hf : findR L r with
  | none => rw [hf] at h; simp at h
  | some x => exact ⟨x, rfl, (find_mem hf).1, (find_mem hf).2, rfl, rfl⟩

/-- A line that stands is set anew, with a debt from 0 to its limit. -/
theorem GoodL.add {S : Nat → Bool} {L : List Ln} (h : GoodL S L) (hs : Sorted L) (hsm : ∀ x ∈ L, x.small) {c d u : Nat} (hc : c < 256) (hd : d < 256) {n : Int} (hx : n = 0 ∨ (findR L (rk c d u)).isSome) (h1 : 0 ≤ (owedAt L (rk c d u)).2 + n) (h2 : (owedAt L (rk c d u)).2 + n ≤ (owedAt L (rk c d u)).1) :
    GoodL S (addL L c d u n) := by
  unfold addL
  by_cases h0 : n = 0
  · rw [if_pos h0]; exact h
  · rw [if_neg h0]
    rcases hx with hx | hx
    · exact absurd hx h0
    · obtain ⟨x, hf⟩ := Option.isSome_iff_exists.1 hx
      have hm := find_mem hf
      have e1 : owedAt L (rk c d u) = (x.lim, x.deb) := by unfold owedAt; rw [hf]
      rw [e1] at h1 h2 ⊢
      have hsx := hsm x hm.1
      obtain ⟨rfl, rfl, rfl⟩ := rk_inj hsx.1 hsx.2.1 hc hd hm.2
      have hlen := length_set hs ⟨x.cr, x.db, x.cu, x.lim, x.deb + n⟩
      have hr : (⟨x.cr, x.db, x.cu, x.lim, x.deb + n⟩ : Ln).rank = rk x.cr x.db x.cu := rfl
      rw [hr, hf] at hlen
      simp only [Option.isSome_some, if_true] at hlen
      refine ⟨fun z hz => ?_, fun z hz => ?_, fun z hz => ?_, by rw [hlen]; exact h.few, h.pts⟩
      · rcases mem_setL hz with rfl | hz
        · exact h.ends x hm.1
        · exact h.ends z hz
      · rcases mem_setL hz with rfl | hz
        · exact h.open_ x hm.1
        · exact h.open_ z hz
      · rcases mem_setL hz with rfl | hz
        · have := h.owed x hm.1
          exact ⟨this.1, this.2.1, h1, h2⟩
        · exact h.owed z hz

/-- Behind a push. -/
def fallOf (L : List Ln) (f t u : Nat) (n : Int) : Int := min n (owedAt L (rk f t u)).2
def pushed (L : List Ln) (f t u : Nat) (n : Int) : List Ln := addL (addL L f t u (-fallOf L f t u n)) t f u (n - fallOf L f t u n)

theorem owedAt_add {L : List Ln} (hs : Sorted L) (c d u : Nat) (n : Int) (r : Nat) : owedAt (addL L c d u n) r = if rk c d u = r then ((owedAt L r).1, (owedAt L r).2 + n) else owedAt L r := by
  unfold addL
  by_cases h0 : n = 0
  · subst h0
    rw [if_pos rfl]
    split
    · simp
    · rfl
  · rw [if_neg h0, owedAt_set hs]
    have hr : ∀ a b, (⟨c, d, u, a, b⟩ : Ln).rank = rk c d u := fun _ _ => rfl
    rw [hr]
    by_cases e : rk c d u = r
    · rw [if_pos e, if_pos e, e]
    · rw [if_neg e, if_neg e]
theorem sorted_add {L : List Ln} (hs : Sorted L) (c d u : Nat) (n : Int) : Sorted (addL L c d u n) := by
  unfold addL
  split
  · exact hs
  · exact hs.set
theorem small_add {L : List Ln} (hs : ∀ x ∈ L, x.small) {c d u : Nat} (hc : c < 256) (hd : d < 256) (hu : u < 256) (n : Int) : ∀ x ∈ addL L c d u n, x.small := by
  unfold addL
  split
  · exact hs
  · intro x hx
    rcases mem_setL hx with rfl | hx
    · exact ⟨hc, hd, hu⟩
    · exact hs x hx
/-- Who is no pair of parties has no line, nor room. -/
theorem room_in {S : Nat → Bool} {L : List Ln} (h : GoodL S L) (hsm : ∀ x ∈ L, x.small) {f t u : Nat} (hf : f < 256) (ht : t < 256) (hpos : 0 < room L f t u) :
    f ≠ t ∧ f ∈ P16 ∧ t ∈ P16 ∧ S f = true ∧ S t = true ∧ 1 ≤ u ∧ u ≤ 8 := by
  have h1 := h.at (rk f t u)
  have h2 := h.at (rk t f u)
  have key : ∀ {c d : Nat}, c < 256 → d < 256 → ((owedAt L (rk c d u)).1 ≠ 0 ∨ (owedAt L (rk c d u)).2 ≠ 0) → c ≠ d ∧ c ∈ P16 ∧ d ∈ P16 ∧ S c = true ∧ S d = true ∧ 1 ≤ u ∧ u ≤ 8 := by
    intro c d hc hd hne
    obtain ⟨x, _, hx, hr, _⟩ := owedAt_some hne
    have hsx := hsm x hx
    obtain ⟨rfl, rfl, rfl⟩ := rk_inj hsx.1 hsx.2.1 hc hd hr
    have he := h.ends x hx
    have ho := h.open_ x hx
    exact ⟨he.2.2.1, he.1, he.2.1, ho.1, ho.2, he.2.2.2.1, he.2.2.2.2⟩
  unfold room at hpos
  by_cases e : (owedAt L (rk f t u)).2 ≠ 0
  · exact key hf ht (.inr e)
  · by_cases e2 : (owedAt L (rk t f u)).1 ≠ 0
    · obtain ⟨a, b, c, d, e, g⟩ := key ht hf (.inl e2)
      exact ⟨Ne.symm a, c, b, e, d, g⟩
    · omega
theorem rk_ne {f t u : Nat} (h : f ≠ t) : rk f t u ≠ rk t f u := by unfold rk; omega

section
variable {S : Nat → Bool} {L : List Ln}
theorem push_facts (h : GoodL S L) (hs : Sorted L) (hsm : ∀ x ∈ L, x.small) {f t u : Nat} (hf : f < 256) (ht : t < 256) (hu : u < 256) {n : Int} (h1 : 1 ≤ n) (h2 : n ≤ room L f t u) :
    GoodL S (addL L f t u (-fallOf L f t u n)) ∧ GoodL S (pushed L f t u n) ∧ Sorted (addL L f t u (-fallOf L f t u n)) ∧ (∀ x ∈ addL L f t u (-fallOf L f t u n), x.small) := by
  obtain ⟨hne, _⟩ := room_in (u := u) h hsm hf ht (by omega)
  have b1 := h.at (rk f t u)
  have b2 := h.at (rk t f u)
  have hfall : fallOf L f t u n = min n (owedAt L (rk f t u)).2 := rfl
  have hroom : room L f t u = (owedAt L (rk f t u)).2 + (owedAt L (rk t f u)).1 - (owedAt L (rk t f u)).2 := rfl
  have hg1 : GoodL S (addL L f t u (-fallOf L f t u n)) := by
    refine h.add hs hsm hf ht ?_ (by omega) (by omega)
    by_cases e : fallOf L f t u n = 0
    · left; omega
    · right
      obtain ⟨x, hx, _⟩ := owedAt_some (L := L) (r := rk f t u) (.inr (by omega))
      rw [hx]; rfl
  have hs1 := sorted_add hs f t u (-fallOf L f t u n)
  have hsm1 := small_add hsm hf ht hu (-fallOf L f t u n)
  have e2 : owedAt (addL L f t u (-fallOf L f t u n)) (rk t f u) = owedAt L (rk t f u) := by
    rw [owedAt_add hs, if_neg (rk_ne hne)]
  refine ⟨hg1, ?_, hs1, hsm1⟩
  unfold pushed
  refine hg1.add hs1 hsm1 ht hf ?_ (by rw [e2]; omega) (by rw [e2]; omega)
  by_cases e : n - fallOf L f t u n = 0
  · left; exact e
  · right
    obtain ⟨x, hx, _⟩ := owedAt_some (L := addL L f t u (-fallOf L f t u n)) (r := rk t f u) (.inl (by rw [e2]; omega))
    rw [hx]; rfl
end
end Go.Proofs.Ytofnaigkfhfhoaa
