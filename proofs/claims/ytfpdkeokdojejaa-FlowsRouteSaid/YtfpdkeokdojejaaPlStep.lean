/-
  Plain law: who is reached over so many steps at most, edge by edge; that it is the distance.
-/
import Derived.Test.YtfpdkeokdojejaaPlEdges
namespace Go.Proofs.Ytfpdkeokdojejaa
open Go.RowKit Pl

/-- Once through these edges: who was reached lets in whom it leads to. -/
def stepB (l : List Fl) (was : Nat → Bool) (b : Nat → Bool) : Nat → Bool := l.foldl (fun b x => if was x.f then upd b x.t true else b) b
def reachB (C : Caps) (s : Nat) : Nat → Nat → Bool
  | 0 => upd (fun _ => false) s true
  | n + 1 => stepB (edgesOf C) (reachB C s n) (reachB C s n)
theorem stepB_snoc (l : List Fl) (x : Fl) (was b : Nat → Bool) : stepB (l ++ [x]) was b = if was x.f then upd (stepB l was b) x.t true else stepB l was b := by simp [stepB, List.foldl_append]

theorem stepB_iff (was : Nat → Bool) (p : Nat) : ∀ (l : List Fl) (b : Nat → Bool), stepB l was b p = true ↔ b p = true ∨ ∃ x ∈ l, was x.f = true ∧ x.t = p
  | [], b => by simp [stepB]
  | x :: l, b => by
    have ih := stepB_iff was p l (if was x.f then upd b x.t true else b)
    have e : stepB (x :: l) was b = stepB l was (if was x.f then upd b x.t true else b) := rfl
    rw [e, ih]
    constructor
    · rintro (h | ⟨y, hy, h⟩)
      · by_cases hw : was x.f = true
        · rw [if_pos hw] at h
          by_cases hp : p = x.t
          · exact .inr ⟨x, by simp, hw, hp.symm⟩
          · rw [upd_other _ _ hp] at h; exact .inl h
        · rw [if_neg hw] at h; exact .inl h
      · exact .inr ⟨y, by simp [hy], h⟩
    · rintro (h | ⟨y, hy, hw, hp⟩)
      · left
        by_cases hw : was x.f = true
        · rw [if_pos hw]
          by_cases hp : p = x.t
          · rw [hp, upd_same]
          · rw [upd_other _ _ hp]; exact h
        · rw [if_neg hw]; exact h
      · rw [List.mem_cons] at hy
        rcases hy with rfl | hy
        · left
          rw [if_pos hw, ← hp, upd_same]
        · exact .inr ⟨y, hy, hw, hp⟩
theorem reachB_succ {B : Int} {C : Caps} (hC : CapOk B C) (s n p : Nat) : reachB C s (n + 1) p = true ↔ reachB C s n p = true ∨ ∃ a, reachB C s n a = true ∧ 0 < C a p := by
  show stepB (edgesOf C) (reachB C s n) (reachB C s n) p = true ↔ _
  rw [stepB_iff]
  constructor
  · rintro (h | ⟨x, hx, h1, h2⟩)
    · exact .inl h
    · rw [mem_edgesOf] at hx
      subst h2
      exact .inr ⟨x.f, h1, hx.2.2.1⟩
  · rintro (h | ⟨a, h1, h2⟩)
    · exact .inl h
    · have hin : a < 17 ∧ p < 17 := by
        refine Classical.byContradiction fun hno => ?_
        have h0 : C a p = 0 := hC.off a p (by rw [mem_P16, mem_P16]; omega)
        omega
      exact .inr ⟨⟨a, p, C a p⟩, mem_edgesOf.2 ⟨hin.1, hin.2, h2, rfl⟩, h1, rfl⟩
theorem reachB_zero (C : Caps) (s p : Nat) : reachB C s 0 p = true ↔ p = s := by
  show upd (fun _ => false) s true p = true ↔ _
  unfold upd
  split <;> simp_all
theorem reachB_head {B : Int} {C : Caps} (hC : CapOk B C) {a r : Nat} (h : 0 < C a r) : ∀ (n p : Nat), reachB C r n p = true → reachB C a (n + 1) p = true
  | 0, p, hp => by
    rw [reachB_zero] at hp
    subst hp
    exact (reachB_succ hC a 0 p).2 (.inr ⟨a, (reachB_zero C a a).2 rfl, h⟩)
  | n + 1, p, hp => by
    rw [reachB_succ hC] at hp
    rcases hp with hp | ⟨q, hq, hc⟩
    · exact (reachB_succ hC a (n + 1) p).2 (.inl (reachB_head hC h n p hp))
    · exact (reachB_succ hC a (n + 1) p).2 (.inr ⟨q, reachB_head hC h n q hq, hc⟩)

/-- Who reaches t over n steps is n steps away at most. -/
theorem reachB_near {B : Int} {C : Caps} (hC : CapOk B C) {t : Nat} {d : Nat → Nat} (hd : Dist C t d) (a : Nat) : ∀ (n p : Nat), reachB C a n p = true → d p ≠ 17 → d a ≠ 17 ∧ d a ≤ d p + n
  | 0, p, hp, h17 => by
    rw [reachB_zero] at hp
    subst hp
    exact ⟨h17, by omega⟩
  | n + 1, p, hp, h17 => by
    rw [reachB_succ hC] at hp
    rcases hp with hp | ⟨q, hq, hc⟩
    · have := reachB_near hC hd a n p hp h17
      exact ⟨this.1, by omega⟩
    · have hqP : q ∈ P16 := Classical.byContradiction fun hno => by
        have h0 : C q p = 0 := hC.off q p (.inl hno)
        omega
      have he := hd.edge p q h17 hqP hc
      have := reachB_near hC hd a n q hq he.1
      exact ⟨this.1, by omega⟩
theorem reachB_far {B : Int} {C : Caps} (hC : CapOk B C) {t : Nat} {d : Nat → Nat} (hd : Dist C t d) : ∀ (n a : Nat), d a ≠ 17 → d a ≤ n → reachB C a n t = true
  | 0, a, h17, hn => by
    have : a = t := Classical.byContradiction fun hne => by
      obtain ⟨r, _, h1, _⟩ := hd.parent a h17 hne
      omega
    subst this
    exact (reachB_zero C a a).2 rfl
  | n + 1, a, h17, hn => by
    by_cases hne : a = t
    · subst hne
      exact (reachB_succ hC a n a).2 (.inl (reachB_far hC hd n a h17 (by rw [hd.zero]; omega)))
    · obtain ⟨r, hr, h1, hc⟩ := hd.parent a h17 hne
      exact reachB_head hC hc n t (reachB_far hC hd n r hr (by omega))
theorem reachB_hops {B : Int} {C : Caps} (hC : CapOk B C) {t : Nat} (ht : t ∈ P16) (a : Nat) {n : Nat} (hn : n ≤ 16) : reachB C a n t = decide (hops C t a ≤ n) := by
  have hd := hops_dist C ht
  rw [Bool.eq_iff_iff, decide_eq_true_eq]
  constructor
  · intro h
    have := reachB_near hC hd a n t h (by rw [hd.zero]; decide)
    rw [hd.zero] at this
    omega
  · intro h
    exact reachB_far hC hd n a (by omega) h
end Go.Proofs.Ytfpdkeokdojejaa
