/-
  Plain law: capacities, pushes, cuts; what a list of pushes does to a cut. No Go in sight.
-/
namespace Go.Proofs.Ytofnaigkfhfhoaa.Pl

/-- How much may go from whom to whom. -/
abbrev Caps := Nat → Nat → Int

/-- The parties, 1 to 16. -/
def P16 : List Nat := List.range' 1 16

theorem mem_P16 {p : Nat} : p ∈ P16 ↔ 1 ≤ p ∧ p ≤ 16 := by
  unfold P16; rw [List.mem_range'_1]; omega
theorem nodup_P16 : P16.Nodup := by unfold P16; exact List.nodup_range' 

def sum (l : List Nat) (f : Nat → Int) : Int := l.foldr (fun a s => f a + s) 0
@[simp] theorem sum_nil (f : Nat → Int) : sum [] f = 0 := rfl
@[simp] theorem sum_cons (a : Nat) (l : List Nat) (f : Nat → Int) : sum (a :: l) f = f a + sum l f := rfl

theorem sum_add (l : List Nat) (f g : Nat → Int) : sum l (fun a => f a + g a) = sum l f + sum l g := by
  induction l with
  | nil => rfl
  | cons a l ih => simp only [sum_cons, ih]; omega
theorem sum_congr {l : List Nat} {f g : Nat → Int} (h : ∀ a ∈ l, f a = g a) : sum l f = sum l g := by
  induction l with
  | nil => rfl
  | cons a l ih => simp only [sum_cons]; rw [h a (by simp), ih fun b hb => h b (by simp [hb])]
theorem sum_zero (l : List Nat) : sum l (fun _ => 0) = 0 := by
  induction l with
  | nil => rfl
  | cons a l ih => simp [ih]
theorem sum_nonneg {l : List Nat} {f : Nat → Int} (h : ∀ a ∈ l, 0 ≤ f a) : 0 ≤ sum l f := by
  induction l with
  | nil => simp
  | cons a l ih =>
    have h1 := h a (by simp)
    have h2 := ih fun b hb => h b (by simp [hb])
    simp only [sum_cons]; omega
theorem sum_le {l : List Nat} {f g : Nat → Int} (h : ∀ a ∈ l, f a ≤ g a) : sum l f ≤ sum l g := by
  induction l with
  | nil => simp
  | cons a l ih =>
    have h1 := h a (by simp)
    have h2 := ih fun b hb => h b (by simp [hb])
    simp only [sum_cons]; omega
theorem sum_neg (l : List Nat) (f : Nat → Int) : sum l (fun a => - f a) = - sum l f := by
  induction l with
  | nil => rfl
  | cons a l ih => simp only [sum_cons, ih]; omega
theorem sum_single {l : List Nat} (hn : l.Nodup) {x : Nat} (hx : x ∈ l) (v : Nat → Int) : sum l (fun a => if a = x then v a else 0) = v x := by
  induction l with
  | nil => simp at hx
  | cons a l ih =>
    simp only [sum_cons]
    rw [List.nodup_cons] at hn
    by_cases h : a = x
    · subst h
      rw [if_pos rfl, sum_congr (g := fun _ => 0), sum_zero]
      · omega
      · intro b hb
        rw [if_neg]
        rintro rfl
        exact hn.1 hb
    · rw [if_neg h, ih hn.2 (by simpa [Ne.symm h] using hx)]; omega

/-- 1 for who is among them. -/
def ind (S : Nat → Bool) (p : Nat) : Int := if S p then 1 else 0
theorem ind_01 (S : Nat → Bool) (p : Nat) : ind S p = 0 ∨ ind S p = 1 := by unfold ind; split <;> simp

/-- What goes at most from who is among them to who is not. -/
def cut (C : Caps) (S : Nat → Bool) : Int := sum P16 fun a => sum P16 fun b => if S a && !S b then C a b else 0

/-- Less one way, more the other. -/
def push (C : Caps) (f t : Nat) (n : Int) : Caps := fun a b =>
  if a = f ∧ b = t then C a b - n else if a = t ∧ b = f then C a b + n else C a b

theorem cut_push (C : Caps) {f t : Nat} (n : Int) (S : Nat → Bool) (hf : f ∈ P16) (ht : t ∈ P16) (hne : f ≠ t) :
    cut (push C f t n) S = cut C S + n * (ind S t - ind S f) := by
  have e : ∀ a ∈ P16, sum P16 (fun b => if S a && !S b then push C f t n a b else 0) =
      sum P16 (fun b => if S a && !S b then C a b else 0) + ((if a = f then (if S f && !S t then -n else 0) else 0) + (if a = t then (if S t && !S f then n else 0) else 0)) := by
    intro a _
    have e1 : ∀ b ∈ P16, (if S a && !S b then push C f t n a b else 0) = (if S a && !S b then C a b else 0) +
        ((if b = t then (if a = f then (if S f && !S t then -n else 0) else 0) else 0) + (if b = f then (if a = t then (if S t && !S f then n else 0) else 0) else 0)) := by
      intro b _
      unfold push
      by_cases h1 : a = f
      · subst h1
        by_cases h2 : b = t
        · subst h2
          simp only [if_true, and_self]
          have : ¬ b = a := fun h => hne h.symm
          simp only [this, if_false]
          split <;> omega
        · have h3 : ¬ a = t := hne
          simp only [h2, h3, and_false, false_and, if_false]
          split <;> simp
      · by_cases h2 : a = t
        · subst h2
          by_cases h3 : b = f
          · subst h3
            simp only [h1, false_and, if_false, and_self, if_true]
            have : ¬ b = a := hne
            simp only [this, if_false]
            split <;> omega
          · simp only [h1, h3, false_and, and_false, if_false]
            split <;> simp
        · simp only [h1, h2, false_and, if_false]
          split <;> simp
    rw [sum_congr e1, sum_add, sum_add, sum_single nodup_P16 ht (fun _ => _), sum_single nodup_P16 hf (fun _ => _)]
  unfold cut
  rw [sum_congr e, sum_add, sum_add, sum_single nodup_P16 hf (fun _ => _), sum_single nodup_P16 ht (fun _ => _)]
  congr 1
  unfold ind
  cases S f <;> cases S t <;> simp

/-- A push: from whom to whom how much. -/
structure Fl where
  f : Nat
  t : Nat
  n : Int
  deriving DecidableEq, Inhabited

def pushAll (C : Caps) (ps : List Fl) : Caps := ps.foldl (fun C x => push C x.f x.t x.n) C
@[simp] theorem pushAll_nil (C : Caps) : pushAll C [] = C := rfl
@[simp] theorem pushAll_cons (C : Caps) (x : Fl) (ps : List Fl) : pushAll C (x :: ps) = pushAll (push C x.f x.t x.n) ps := rfl
theorem pushAll_append (C : Caps) (ps qs : List Fl) : pushAll C (ps ++ qs) = pushAll (pushAll C ps) qs := by
  unfold pushAll; rw [List.foldl_append]

def Fl.ok (x : Fl) : Prop := x.f ∈ P16 ∧ x.t ∈ P16 ∧ x.f ≠ x.t

/-- What a list of pushes moves into a set. -/
def into (ps : List Fl) (S : Nat → Bool) : Int := ps.foldr (fun x s => x.n * (ind S x.t - ind S x.f) + s) 0
@[simp] theorem into_nil (S : Nat → Bool) : into [] S = 0 := rfl
@[simp] theorem into_cons (x : Fl) (ps : List Fl) (S : Nat → Bool) : into (x :: ps) S = x.n * (ind S x.t - ind S x.f) + into ps S := rfl
theorem into_append (ps qs : List Fl) (S : Nat → Bool) : into (ps ++ qs) S = into ps S + into qs S := by
  induction ps with
  | nil => simp
  | cons x ps ih => simp only [List.cons_append, into_cons, ih]; omega

theorem cut_pushAll (ps : List Fl) (S : Nat → Bool) (h : ∀ x ∈ ps, x.ok) : ∀ C, cut (pushAll C ps) S = cut C S + into ps S := by
  induction ps with
  | nil => intro C; simp
  | cons x ps ih =>
    intro C
    obtain ⟨h1, h2, h3⟩ := h x (by simp)
    rw [pushAll_cons, ih (fun y hy => h y (by simp [hy])), cut_push C x.n S h1 h2 h3, into_cons]
    omega

theorem cut_nonneg {C : Caps} (h : ∀ a b, 0 ≤ C a b) (S : Nat → Bool) : 0 ≤ cut C S := by
  unfold cut
  refine sum_nonneg fun a _ => sum_nonneg fun b _ => ?_
  split
  · exact h a b
  · omega

/-- The pushes along a way. -/
def along : List Nat → Int → List Fl
  | a :: b :: l, n => ⟨a, b, n⟩ :: along (b :: l) n
  | _, _ => []

theorem into_along (S : Nat → Bool) (n : Int) : ∀ (l : List Nat) (a z : Nat), (a :: l).getLast? = some z → into (along (a :: l) n) S = n * (ind S z - ind S a)
  | [], a, z, h => by
    simp at h; subst h; simp [along]
  | b :: l, a, z, h => by
    have ih := into_along S n l b z (by simpa using h)
    rw [along, into_cons, ih]
    have : n * (ind S b - ind S a) + n * (ind S z - ind S b) = n * (ind S z - ind S a) := by
      rw [← Int.mul_add]; congr 1; omega
    exact this

end Go.Proofs.Ytofnaigkfhfhoaa.Pl
