/-
  Plain law: who is reached over edges that have a capacity, as bits of a number, by passes over all pairs.
-/
import Derived.Test.YtfpdkeokdojejaaPlRoute
namespace Go.Proofs.Ytfpdkeokdojejaa.Pl

def reachS (C : Caps) (a : Nat) (m b : Nat) : Nat := if m.testBit a && decide (0 < C a b) then m ||| 2 ^ b else m
def reachR (C : Caps) (a j m : Nat) : Nat := (List.range' 1 j).foldl (reachS C a) m
def reachT (C : Caps) (k m : Nat) : Nat := (List.range' 1 k).foldl (fun m a => reachR C a 16 m) m
def reachN (C : Caps) : Nat → Nat → Nat
  | 0, m => m
  | n + 1, m => reachT C 16 (reachN C n m)
theorem reachR_zero (C : Caps) (a m : Nat) : reachR C a 0 m = m := rfl
theorem reachR_succ (C : Caps) (a j m : Nat) : reachR C a (j + 1) m = reachS C a (reachR C a j m) (j + 1) := by
  simp [reachR, List.range'_concat, Nat.add_comm]
theorem reachT_succ (C : Caps) (k m : Nat) : reachT C (k + 1) m = reachR C (k + 1) 16 (reachT C k m) := by
  simp [reachT, List.range'_concat, Nat.add_comm]

/-- All bits of m are bits of m'. -/
def Sub (m m' : Nat) : Prop := ∀ p, m.testBit p = true → m'.testBit p = true
theorem Sub.refl (m : Nat) : Sub m m := fun _ h => h
theorem Sub.trans {a b c : Nat} (h : Sub a b) (k : Sub b c) : Sub a c := fun p hp => k p (h p hp)
theorem tb_or (m b p : Nat) : (m ||| 2 ^ b).testBit p = (m.testBit p || decide (b = p)) := by
  rw [Nat.testBit_or, Nat.testBit_two_pow]
theorem reachS_sub (C : Caps) (a m b : Nat) : Sub m (reachS C a m b) := by
  intro p h
  unfold reachS
  split
  · rw [tb_or, h]; rfl
  · exact h
theorem foldl_sub {f : Nat → Nat → Nat} (hf : ∀ m b, Sub m (f m b)) : ∀ (l : List Nat) (m : Nat), Sub m (l.foldl f m)
  | [], m => Sub.refl m
  | b :: l, m => (hf m b).trans (foldl_sub hf l (f m b))
theorem foldl_at {f : Nat → Nat → Nat} (hf : ∀ m b, Sub m (f m b)) {Q : Nat → Prop} (hQ : ∀ m m', Sub m m' → Q m → Q m') {x : Nat} : ∀ (l : List Nat) (m : Nat), x ∈ l → (∀ m', Sub m m' → Q (f m' x)) → Q (l.foldl f m)
  | b :: l, m, hx, h => by
    by_cases e : x = b
    · subst e
      exact hQ _ _ (foldl_sub hf l (f m x)) (h m (Sub.refl m))
    · exact foldl_at hf hQ l (f m b) (by simpa [e] using hx) (fun m' hm => h m' ((hf m b).trans hm))
theorem reachR_sub (C : Caps) (a j m : Nat) : Sub m (reachR C a j m) := foldl_sub (reachS_sub C a) _ m
theorem reachT_sub (C : Caps) (k m : Nat) : Sub m (reachT C k m) := foldl_sub (fun m a => reachR_sub C a 16 m) _ m
theorem reachN_sub (C : Caps) : ∀ (n m : Nat), Sub m (reachN C n m)
  | 0, m => Sub.refl m
  | n + 1, m => (reachN_sub C n m).trans (reachT_sub C 16 _)

/-- Nobody who is in lets out to who is not. -/
def Closed (C : Caps) (m : Nat) : Prop := ∀ a ∈ P16, ∀ b ∈ P16, m.testBit a = true → 0 < C a b → m.testBit b = true

theorem reachT_new {C : Caps} {m a b : Nat} (ha : a ∈ P16) (hb : b ∈ P16) (h : m.testBit a = true) (hC : 0 < C a b) : (reachT C 16 m).testBit b = true := by
  refine foldl_at (Q := fun m => m.testBit b = true) (fun m a => reachR_sub C a 16 m) (fun m m' hs h => hs b h) (x := a) _ m ha fun m' hm => ?_
  refine foldl_at (Q := fun m => m.testBit b = true) (reachS_sub C a) (fun m m' hs h => hs b h) (x := b) _ m' hb fun m2 hm2 => ?_
  unfold reachS
  rw [if_pos (by simp [hm2 a (hm a h), hC]), tb_or]
  simp

theorem foldl_keep {f : Nat → Nat → Nat} : ∀ (l : List Nat) (m : Nat), (∀ b ∈ l, f m b = m) → l.foldl f m = m
  | [], _, _ => rfl
  | b :: l, m, h => by
    rw [List.foldl_cons, h b (by simp)]
    exact foldl_keep l m fun c hc => h c (by simp [hc])
theorem or_same {m b : Nat} (h : m.testBit b = true) : m ||| 2 ^ b = m := by
  refine Nat.eq_of_testBit_eq fun p => ?_
  rw [tb_or]
  by_cases e : b = p
  · subst e; simp [h]
  · simp [e]
theorem reachT_closed {C : Caps} {m : Nat} (h : Closed C m) : reachT C 16 m = m := by
  refine foldl_keep _ m fun a ha => foldl_keep _ m fun b hb => ?_
  unfold reachS
  split
  · rename_i e
    simp at e
    exact or_same (h a ha b hb e.1 e.2)
  · rfl

/-- What bounds it: whoever holds m and lets nobody out. -/
theorem reachS_in {C : Caps} {S : Nat → Bool} (hS : ∀ a ∈ P16, ∀ b ∈ P16, S a = true → S b = false → C a b ≤ 0) {a m b : Nat} (ha : a ∈ P16) (hb : b ∈ P16) (h : ∀ p, m.testBit p = true → S p = true) : ∀ p, (reachS C a m b).testBit p = true → S p = true := by
  intro p hp
  unfold reachS at hp
  split at hp
  · rename_i e
    simp at e
    rw [tb_or] at hp
    simp at hp
    rcases hp with hp | rfl
    · exact h p hp
    · cases hs : S b with
      | true => rfl
      | false => have := hS a ha b hb (h a e.1) hs; omega
  · exact h p hp
theorem foldl_in {f : Nat → Nat → Nat} {Q : Nat → Prop} : ∀ (l : List Nat) (m : Nat), (∀ b ∈ l, ∀ m, Q m → Q (f m b)) → Q m → Q (l.foldl f m)
  | [], _, _, h => h
  | b :: l, m, hf, h => foldl_in l (f m b) (fun c hc => hf c (by simp [hc])) (hf b (by simp) m h)
theorem reachT_in {C : Caps} {S : Nat → Bool} (hS : ∀ a ∈ P16, ∀ b ∈ P16, S a = true → S b = false → C a b ≤ 0) {m : Nat} (h : ∀ p, m.testBit p = true → S p = true) : ∀ p, (reachT C 16 m).testBit p = true → S p = true :=
  foldl_in (Q := fun m => ∀ p, m.testBit p = true → S p = true) _ m (fun _ ha m hm => foldl_in (Q := fun m => ∀ p, m.testBit p = true → S p = true) _ m (fun _ hb _ hm => reachS_in hS ha hb hm) hm) h
theorem reachN_in {C : Caps} {S : Nat → Bool} (hS : ∀ a ∈ P16, ∀ b ∈ P16, S a = true → S b = false → C a b ≤ 0) : ∀ (n m : Nat), (∀ p, m.testBit p = true → S p = true) → ∀ p, (reachN C n m).testBit p = true → S p = true
  | 0, _, h => h
  | n + 1, m, h => reachT_in hS (reachN_in hS n m h)

/-- It stays below 2^17. -/
theorem reachS_lt {C : Caps} {a m b : Nat} (hb : b ≤ 16) (h : m < 131072) : reachS C a m b < 131072 := by
  unfold reachS
  split
  · exact Nat.or_lt_two_pow (n := 17) h (Nat.pow_lt_pow_right (by decide) (by omega))
  · exact h
theorem reachR_lt {C : Caps} {a j m : Nat} (hj : j ≤ 16) (h : m < 131072) : reachR C a j m < 131072 :=
  foldl_in (Q := fun m => m < 131072) _ m (fun b hb m hm => reachS_lt (by rw [List.mem_range'_1] at hb; omega) hm) h
theorem reachT_lt {C : Caps} {k m : Nat} (h : m < 131072) : reachT C k m < 131072 :=
  foldl_in (Q := fun m => m < 131072) _ m (fun a _ m hm => reachR_lt (by omega) hm) h
theorem reachN_lt {C : Caps} : ∀ {n m : Nat}, m < 131072 → reachN C n m < 131072
  | 0, _, h => h
  | n + 1, _, h => reachT_lt (reachN_lt (n := n) h)

/-- How many of the parties are in. -/
def many (l : List Nat) (m : Nat) : Nat := (l.filter fun p => m.testBit p).length
theorem many_le {m m' : Nat} (h : Sub m m') : ∀ l, many l m ≤ many l m'
  | [] => Nat.le_refl _
  | p :: l => by
    have ih := many_le h l
    unfold many at *
    simp only [List.filter_cons]
    cases h1 : m.testBit p
    · cases h2 : m'.testBit p <;> simp <;> omega
    · rw [h p h1]; simp; omega
theorem many_lt {m m' b : Nat} (h : Sub m m') (h1 : m.testBit b = false) (h2 : m'.testBit b = true) : ∀ l, b ∈ l → many l m + 1 ≤ many l m'
  | p :: l, hb => by
    by_cases e : b = p
    · subst e
      have := many_le h l
      unfold many at *
      simp only [List.filter_cons, h1, h2]
      simp; omega
    · have ih := many_lt h h1 h2 l (by simpa [e] using hb)
      unfold many at *
      simp only [List.filter_cons]
      cases h3 : m.testBit p
      · cases h4 : m'.testBit p <;> simp <;> omega
      · rw [h p h3]; simp; omega
theorem many_le16 (m : Nat) : many P16 m ≤ 16 := by
  have := List.length_filter_le (fun p => m.testBit p) P16
  unfold many
  simp [P16] at *
  exact this

theorem reachN_or (C : Caps) (m : Nat) (h1 : 1 ≤ many P16 m) : ∀ n, Closed C (reachN C n m) ∨ n + 1 ≤ many P16 (reachN C n m)
  | 0 => .inr h1
  | n + 1 => by
    have ih := reachN_or C m h1 n
    show Closed C (reachT C 16 (reachN C n m)) ∨ _
    by_cases hc : Closed C (reachN C n m)
    · left; rw [reachT_closed hc]; exact hc
    · right
      rcases ih with ih | ih
      · exact absurd ih hc
      · have : ∃ a b, a ∈ P16 ∧ b ∈ P16 ∧ (reachN C n m).testBit a = true ∧ 0 < C a b ∧ (reachN C n m).testBit b = false := by
          refine Classical.byContradiction fun hno => hc fun a ha b hb h1 h2 => ?_
          cases h3 : (reachN C n m).testBit b with
          | true => rfl
          | false => exact absurd ⟨a, b, ha, hb, h1, h2, h3⟩ hno
        obtain ⟨a, b, ha, hb, h2, h3, h4⟩ := this
        have := many_lt (reachT_sub C 16 (reachN C n m)) h4 (reachT_new ha hb h2 h3) P16 hb
        show n + 1 + 1 ≤ many P16 (reachT C 16 (reachN C n m))
        omega
/-- Who is reached from a party. -/
def reached (C : Caps) (s : Nat) : Nat := reachN C 16 (2 ^ (s % 32))
theorem reached_closed (C : Caps) {s : Nat} (hs : s ∈ P16) : Closed C (reached C s) ∧ (reached C s).testBit s = true := by
  have e : s % 32 = s := Nat.mod_eq_of_lt (by have := mem_P16.1 hs; omega)
  have hb : (2 ^ s).testBit s = true := by rw [Nat.testBit_two_pow]; simp
  have h1 : 1 ≤ many P16 (2 ^ s) := by
    unfold many
    exact List.length_pos_iff.2 (List.ne_nil_of_mem (List.mem_filter.2 ⟨hs, hb⟩))
  unfold reached
  rw [e]
  refine ⟨?_, reachN_sub C 16 _ s hb⟩
  rcases reachN_or C (2 ^ s) h1 16 with h | h
  · exact h
  · have := many_le16 (reachN C 16 (2 ^ s)); omega
theorem reached_in {C : Caps} {S : Nat → Bool} (hS : ∀ a ∈ P16, ∀ b ∈ P16, S a = true → S b = false → C a b ≤ 0) {s : Nat} (hs : s ∈ P16) (h : S s = true) : ∀ p, (reached C s).testBit p = true → S p = true := by
  have e : s % 32 = s := Nat.mod_eq_of_lt (by have := mem_P16.1 hs; omega)
  unfold reached
  rw [e]
  refine reachN_in hS 16 _ fun p hp => ?_
  rw [Nat.testBit_two_pow] at hp
  simp at hp
  subst hp
  exact h
theorem reached_lt (C : Caps) {s : Nat} (hs : s ∈ P16) : reached C s < 131072 := by
  have := mem_P16.1 hs
  have e : s % 32 = s := Nat.mod_eq_of_lt (by omega)
  unfold reached
  rw [e]
  exact reachN_lt (Nat.pow_lt_pow_right (n := 17) (by decide) (by omega))
end Go.Proofs.Ytfpdkeokdojejaa.Pl
