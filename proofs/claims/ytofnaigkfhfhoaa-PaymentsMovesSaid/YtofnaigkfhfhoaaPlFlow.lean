/-
  Plain law: capacities, pushes, cuts; what a list of pushes does to a cut. No Go in sight.
  Plain law: how far each party is from one (breadth first), the shortest way. No Go in sight.
  Plain law: the route of so much, and what it gets: the least cut. No Go in sight.
-/
namespace Go.Proofs.Ytofnaigkfhfhoaa.Pl

/-- How much may go from whom to whom. -/
abbrev Caps := Nat → Nat → Int

/-- The parties, 1 to 16. -/
def P16 : List Nat := List.range' 1 16

theorem mem_P16 {p : Nat} : p ∈ P16 ↔ 1 ≤ p ∧ p ≤ 16 := by
  unfold P16; rw [List.mem_range'_1]; omega
theorem nodup_P16 : P16.Nodup := by unfold P16; exact List.nodup_range' 

def sum (l : List Nat) (f : Nat → Int) : Int := l.foldr (fun a s => f a + s) 0
@[simp] theorem sum_nil (f : Nat → Int) : sum [] f = 0 := rfl
@[simp] theorem sum_cons (a : Nat) (l : List Nat) (f : Nat → Int) : sum (a :: l) f = f a + sum l f := rfl

theorem sum_add (l : List Nat) (f g : Nat → Int) : sum l (fun a => f a + g a) = sum l f + sum l g := by
  induction l with
  | nil => rfl
  | cons a l ih => simp only [sum_cons, ih]; omega
theorem sum_congr {l : List Nat} {f g : Nat → Int} (h : ∀ a ∈ l, f a = g a) : sum l f = sum l g := by
  induction l with
  | nil => rfl
  | cons a l ih => simp only [sum_cons]; rw [h a (by simp), ih fun b hb => h b (by simp [hb])]
theorem sum_zero (l : List Nat) : sum l (fun _ => 0) = 0 := by
  induction l with
  | nil => rfl
  | cons a l ih => simp [ih]
theorem sum_nonneg {l : List Nat} {f : Nat → Int} (h : ∀ a ∈ l, 0 ≤ f a) : 0 ≤ sum l f := by
  induction l with
  | nil => simp
  | cons a l ih =>
    have h1 := h a (by simp)
    have h2 := ih fun b hb => h b (by simp [hb])
    simp only [sum_cons]; omega
theorem sum_le {l : List Nat} {f g : Nat → Int} (h : ∀ a ∈ l, f a ≤ g a) : sum l f ≤ sum l g := by
  induction l with
  | nil => simp
  | cons a l ih =>
    have h1 := h a (by simp)
    have h2 := ih fun b hb => h b (by simp [hb])
    simp only [sum_cons]; omega
theorem sum_neg (l : List Nat) (f : Nat → Int) : sum l (fun a => - f a) = - sum l f := by
  induction l with
  | nil => rfl
  | cons a l ih => simp only [sum_cons, ih]; omega
theorem sum_single {l : List Nat} (hn : l.Nodup) {x : Nat} (hx : x ∈ l) (v : Nat → Int) : sum l (fun a => if a = x then v a else 0) = v x := by
  induction l with
  | nil => simp at hx
  | cons a l ih =>
    simp only [sum_cons]
    rw [List.nodup_cons] at hn
    by_cases h : a = x
    · subst h
      rw [if_pos rfl, sum_congr (g := fun _ => 0), sum_zero]
      · omega
      · intro b hb
        rw [if_neg]
        rintro rfl
        exact hn.1 hb
    · rw [if_neg h, ih hn.2 (by simpa [Ne.symm h] using hx)]; omega

/-- 1 for who is among them. -/
def ind (S : Nat → Bool) (p : Nat) : Int := if S p then 1 else 0
theorem ind_01 (S : Nat → Bool) (p : Nat) : ind S p = 0 ∨ ind S p = 1 := by unfold ind; split <;> simp

/-- What goes at most from who is among them to who is not. -/
def cut (C : Caps) (S : Nat → Bool) : Int := sum P16 fun a => sum P16 fun b => if S a && !S b then C a b else 0

/-- Less one way, more the other. -/
def push (C : Caps) (f t : Nat) (n : Int) : Caps := fun a b =>
  if a = f ∧ b = t then C a b - n else if a = t ∧ b = f then C a b + n else C a b

theorem cut_push (C : Caps) {f t : Nat} (n : Int) (S : Nat → Bool) (hf : f ∈ P16) (ht : t ∈ P16) (hne : f ≠ t) :
    cut (push C f t n) S = cut C S + n * (ind S t - ind S f) := by
  have e : ∀ a ∈ P16, sum P16 (fun b => if S a && !S b then push C f t n a b else 0) =
      sum P16 (fun b => if S a && !S b then C a b else 0) + ((if a = f then (if S f && !S t then -n else 0) else 0) + (if a = t then (if S t && !S f then n else 0) else 0)) := by
    intro a _
    have e1 : ∀ b ∈ P16, (if S a && !S b then push C f t n a b else 0) = (if S a && !S b then C a b else 0) +
        ((if b = t then (if a = f then (if S f && !S t then -n else 0) else 0) else 0) + (if b = f then (if a = t then (if S t && !S f then n else 0) else 0) else 0)) := by
      intro b _
      unfold push
      by_cases h1 : a = f
      · subst h1
        by_cases h2 : b = t
        · subst h2
          simp only [if_true, and_self]
          have : ¬ b = a := fun h => hne h.symm
          simp only [this, if_false]
          split <;> omega
        · have h3 : ¬ a = t := hne
          simp only [h2, h3, and_false, false_and, if_false]
          split <;> simp
      · by_cases h2 : a = t
        · subst h2
          by_cases h3 : b = f
          · subst h3
            simp only [h1, false_and, if_false, and_self, if_true]
            have : ¬ b = a := hne
            simp only [this, if_false]
            split <;> omega
          · simp only [h1, h3, false_and, and_false, if_false]
            split <;> simp
        · simp only [h1, h2, false_and, if_false]
          split <;> simp
    rw [sum_congr e1, sum_add, sum_add, sum_single nodup_P16 ht (fun _ => _), sum_single nodup_P16 hf (fun _ => _)]
  unfold cut
  rw [sum_congr e, sum_add, sum_add, sum_single nodup_P16 hf (fun _ => _), sum_single nodup_P16 ht (fun _ => _)]
  congr 1
  unfold ind
  cases S f <;> cases S t <;> simp

/-- A push: from whom to whom how much. -/
structure Fl where
  f : Nat
  t : Nat
  n : Int
  deriving DecidableEq, Inhabited

def pushAll (C : Caps) (ps : List Fl) : Caps := ps.foldl (fun C x => push C x.f x.t x.n) C
@[simp] theorem pushAll_nil (C : Caps) : pushAll C [] = C := rfl
@[simp] theorem pushAll_cons (C : Caps) (x : Fl) (ps : List Fl) : pushAll C (x :: ps) = pushAll (push C x.f x.t x.n) ps := rfl
theorem pushAll_append (C : Caps) (ps qs : List Fl) : pushAll C (ps ++ qs) = pushAll (pushAll C ps) qs := by
  unfold pushAll; rw [List.foldl_append]

def Fl.ok (x : Fl) : Prop := x.f ∈ P16 ∧ x.t ∈ P16 ∧ x.f ≠ x.t

/-- What a list of pushes moves into a set. -/
def into (ps : List Fl) (S : Nat → Bool) : Int := ps.foldr (fun x s => x.n * (ind S x.t - ind S x.f) + s) 0
@[simp] theorem into_nil (S : Nat → Bool) : into [] S = 0 := rfl
@[simp] theorem into_cons (x : Fl) (ps : List Fl) (S : Nat → Bool) : into (x :: ps) S = x.n * (ind S x.t - ind S x.f) + into ps S := rfl
theorem into_append (ps qs : List Fl) (S : Nat → Bool) : into (ps ++ qs) S = into ps S + into qs S := by
  induction ps with
  | nil => simp
  | cons x ps ih => simp only [List.cons_append, into_cons, ih]; omega

theorem cut_pushAll (ps : List Fl) (S : Nat → Bool) (h : ∀ x ∈ ps, x.ok) : ∀ C, cut (pushAll C ps) S = cut C S + into ps S := by
  induction ps with
  | nil => intro C; simp
  | cons x ps ih =>
    intro C
    obtain ⟨h1, h2, h3⟩ := h x (by simp)
    rw [pushAll_cons, ih (fun y hy => h y (by simp [hy])), cut_push C x.n S h1 h2 h3, into_cons]
    omega

theorem cut_nonneg {C : Caps} (h : ∀ a b, 0 ≤ C a b) (S : Nat → Bool) : 0 ≤ cut C S := by
  unfold cut
  refine sum_nonneg fun a _ => sum_nonneg fun b _ => ?_
  split
  · exact h a b
  · omega

/-- The pushes along a way. -/
def along : List Nat → Int → List Fl
  | a :: b :: l, n => ⟨a, b, n⟩ :: along (b :: l) n
  | _, _ => []

theorem into_along (S : Nat → Bool) (n : Int) : ∀ (l : List Nat) (a z : Nat), (a :: l).getLast? = some z → into (along (a :: l) n) S = n * (ind S z - ind S a)
  | [], a, z, h => by
    simp at h; subst h; simp [along]
  | b :: l, a, z, h => by
    have ih := into_along S n l b z (by simpa using h)
    rw [along, into_cons, ih]
    have : n * (ind S b - ind S a) + n * (ind S z - ind S b) = n * (ind S z - ind S a) := by
      rw [← Int.mul_add]; congr 1; omega
    exact this

end Go.Proofs.Ytofnaigkfhfhoaa.Pl
namespace Go.Proofs.Ytofnaigkfhfhoaa.Pl

def upd {α : Type} (d : Nat → α) (p : Nat) (v : α) : Nat → α := fun q => if q = p then v else d q
theorem upd_same {α : Type} (d : Nat → α) (p : Nat) (v : α) : upd d p v p = v := by simp [upd]
theorem upd_other {α : Type} (d : Nat → α) {p q : Nat} (v : α) (h : q ≠ p) : upd d p v q = d q := by simp [upd, h]

/-- One look at p while x is gone through: who is not told of yet, and leads to x, is told of. -/
def look (C : Caps) (x : Nat) (s : (Nat → Nat) × List Nat) (p : Nat) : (Nat → Nat) × List Nat :=
  if s.1 p = 17 ∧ 0 < C p x then (upd s.1 p (s.1 x + 1), s.2 ++ [p]) else s

def scan (C : Caps) (x : Nat) (l : List Nat) (s : (Nat → Nat) × List Nat) : (Nat → Nat) × List Nat := l.foldl (look C x) s
theorem scan_nil (C : Caps) (x : Nat) (s : (Nat → Nat) × List Nat) : scan C x [] s = s := rfl
theorem scan_snoc (C : Caps) (x : Nat) (l : List Nat) (p : Nat) (s : (Nat → Nat) × List Nat) : scan C x (l ++ [p]) s = look C x (scan C x l s) p := by
  simp [scan, List.foldl_append]

/-- What holds while x is gone through: D: who was gone through; q: who waits; l: at whom was looked. -/
structure Mid (C : Caps) (to : Nat) (d : Nat → Nat) (D : List Nat) (x : Nat) (q l : List Nat) : Prop where
  told : ∀ p, p ∈ D ++ x :: q ↔ d p ≠ 17
  nodup : (D ++ x :: q).Nodup
  inP : ∀ p ∈ D ++ x :: q, p ∈ P16
  zero : d to = 0
  parent : ∀ p ∈ D ++ x :: q, p ≠ to → ∃ r ∈ D ++ [x], d p = d r + 1 ∧ 0 < C p r
  done : ∀ r ∈ D, ∀ p ∈ P16, 0 < C p r → d p ≠ 17 ∧ d p ≤ d r + 1
  half : ∀ p ∈ l, 0 < C p x → d p ≠ 17 ∧ d p ≤ d x + 1
  small : ∀ p ∈ D ++ x :: q, d p < (D ++ x :: q).length
  sorted : (x :: q).Pairwise (fun a b => d a ≤ d b)
  near : ∀ p ∈ q, d p ≤ d x + 1
  before : ∀ r ∈ D, d r ≤ d x

theorem length_le16 {l : List Nat} (hn : l.Nodup) (h : ∀ p ∈ l, p ∈ P16) : l.length ≤ 16 := by
  have := hn.length_le_of_subset (l₂ := P16) (fun x hx => h x hx)
  simpa [P16] using this

theorem Mid.look {C : Caps} {to : Nat} {d : Nat → Nat} {D : List Nat} {x : Nat} {q l : List Nat} (h : Mid C to d D x q l) {p : Nat} (hp : p ∈ P16) :
    Mid C to (Pl.look C x (d, q) p).1 D x (Pl.look C x (d, q) p).2 (l ++ [p]) := by
  unfold Pl.look
  dsimp only
  by_cases hc : d p = 17 ∧ 0 < C p x
  · rw [if_pos hc]
    dsimp only
    obtain ⟨h17, hC⟩ := hc
    have hpn : p ∉ D ++ x :: q := fun hm => (h.told p).1 hm h17
    have hlen := length_le16 h.nodup h.inP
    have hx : x ∈ D ++ x :: q := by simp
    have hdx := h.small x hx
    have hpx : x ≠ p := fun e => hpn (e ▸ hx)
    have other : ∀ r ∈ D ++ x :: q, upd d p (d x + 1) r = d r := fun r hr => upd_other _ _ (fun e => hpn (e ▸ hr))
    have e : D ++ x :: (q ++ [p]) = (D ++ x :: q) ++ [p] := by simp
    refine ⟨?_, ?_, ?_, ?_, ?_, ?_, ?_, ?_, ?_, ?_, ?_⟩
    · intro r
      rw [e, List.mem_append]
      by_cases hr : r = p
      · subst hr
        simp only [List.mem_singleton, or_true, true_iff]
        rw [upd_same]; omega
      · rw [upd_other _ _ hr, ← h.told r]; simp [hr]
    · rw [e, List.nodup_append]
      refine ⟨h.nodup, by simp, ?_⟩
      intro a ha b hb
      simp at hb; subst hb
      rintro rfl; exact hpn ha
    · intro r hr
      rw [e, List.mem_append] at hr
      rcases hr with hr | hr
      · exact h.inP r hr
      · simp at hr; subst hr; exact hp
    · have : to ≠ p := by
        rintro rfl; rw [h.zero] at h17; omega
      show upd d p (d x + 1) to = 0
      rw [upd_other _ _ this]; exact h.zero
    · intro r hr hrt
      rw [e, List.mem_append] at hr
      rcases hr with hr | hr
      · obtain ⟨s, hs, h1, h2⟩ := h.parent r hr hrt
        have hs' : s ∈ D ++ x :: q := by
          simp only [List.mem_append, List.mem_cons, List.not_mem_nil, or_false] at hs ⊢
          rcases hs with hs | hs <;> simp [hs]
        exact ⟨s, hs, by show upd d p (d x + 1) r = upd d p (d x + 1) s + 1; rw [other r hr, other s hs']; exact h1, h2⟩
      · simp at hr; subst hr
        exact ⟨x, by simp, by show upd d r (d x + 1) r = upd d r (d x + 1) x + 1; rw [upd_same, upd_other _ _ hpx], hC⟩
    · intro r hr s hs hC'
      have hr' : r ∈ D ++ x :: q := by simp [hr]
      obtain ⟨h1, h2⟩ := h.done r hr s hs hC'
      have hsp : s ≠ p := by rintro rfl; exact h1 h17
      show upd d p (d x + 1) s ≠ 17 ∧ upd d p (d x + 1) s ≤ upd d p (d x + 1) r + 1
      rw [upd_other _ _ hsp, other r hr']; exact ⟨h1, h2⟩
    · intro s hs hC'
      show upd d p (d x + 1) s ≠ 17 ∧ upd d p (d x + 1) s ≤ upd d p (d x + 1) x + 1
      rw [other x hx]
      by_cases hsp : s = p
      · subst hsp; rw [upd_same]; omega
      · rw [upd_other _ _ hsp]
        rw [List.mem_append] at hs
        rcases hs with hs | hs
        · exact h.half s hs hC'
        · simp at hs; exact absurd hs hsp
    · intro r hr
      rw [e] at hr ⊢
      rw [List.length_append]
      rw [List.mem_append] at hr
      show upd d p (d x + 1) r < _
      rcases hr with hr | hr
      · rw [other r hr]; have := h.small r hr; omega
      · simp at hr; subst hr; rw [upd_same]; simp only [List.length_singleton]; omega
    · show (x :: (q ++ [p])).Pairwise (fun a b => upd d p (d x + 1) a ≤ upd d p (d x + 1) b)
      have e2 : x :: (q ++ [p]) = (x :: q) ++ [p] := by simp
      rw [e2, List.pairwise_append]
      have hin : ∀ a ∈ x :: q, a ∈ D ++ x :: q := fun a ha => List.mem_append.2 (.inr ha)
      refine ⟨?_, by simp, ?_⟩
      · exact h.sorted.imp_of_mem fun {a b} ha hb hab => by rw [other a (hin a ha), other b (hin b hb)]; exact hab
      · intro a ha b hb
        simp at hb; subst hb
        rw [upd_same, other a (hin a ha)]
        rcases List.mem_cons.1 ha with rfl | ha
        · omega
        · exact h.near a ha
    · intro r hr
      show upd d p (d x + 1) r ≤ upd d p (d x + 1) x + 1
      rw [other x hx]
      rw [List.mem_append] at hr
      rcases hr with hr | hr
      · rw [other r (by simp [hr])]; exact h.near r hr
      · simp at hr; subst hr; rw [upd_same]; omega
    · intro r hr
      show upd d p (d x + 1) r ≤ upd d p (d x + 1) x
      rw [other x hx, other r (by simp [hr])]; exact h.before r hr
  · rw [if_neg hc]
    dsimp only
    refine { h with half := ?_ }
    intro s hs hC'
    rw [List.mem_append] at hs
    rcases hs with hs | hs
    · exact h.half s hs hC'
    · simp at hs; subst hs
      have hs17 : d s ≠ 17 := fun e => hc ⟨e, hC'⟩
      refine ⟨hs17, ?_⟩
      have hm := (h.told s).2 hs17
      rcases List.mem_append.1 hm with hm | hm
      · have := h.before s hm; omega
      · rcases List.mem_cons.1 hm with rfl | hm
        · omega
        · exact h.near s hm

theorem Mid.scan {C : Caps} {to : Nat} {D : List Nat} {x : Nat} : ∀ (k l : List Nat) {d : Nat → Nat} {q : List Nat}, Mid C to d D x q l → (∀ p ∈ k, p ∈ P16) →
    Mid C to (Pl.scan C x k (d, q)).1 D x (Pl.scan C x k (d, q)).2 (l ++ k)
  | [], l, d, q, h, _ => by simpa [Pl.scan] using h
  | p :: k, l, d, q, h, hk => by
    have h1 := h.look (hk p (by simp))
    have h2 := Mid.scan k (l ++ [p]) h1 (fun r hr => hk r (by simp [hr]))
    simpa [Pl.scan] using h2

/-- What holds between two goings through. -/
structure Front (C : Caps) (to : Nat) (d : Nat → Nat) (D q : List Nat) : Prop where
  told : ∀ p, p ∈ D ++ q ↔ d p ≠ 17
  nodup : (D ++ q).Nodup
  inP : ∀ p ∈ D ++ q, p ∈ P16
  zero : d to = 0
  parent : ∀ p ∈ D ++ q, p ≠ to → ∃ r ∈ D, d p = d r + 1 ∧ 0 < C p r
  done : ∀ r ∈ D, ∀ p ∈ P16, 0 < C p r → d p ≠ 17 ∧ d p ≤ d r + 1
  small : ∀ p ∈ D ++ q, d p < (D ++ q).length
  sorted : q.Pairwise (fun a b => d a ≤ d b)
  near : ∀ a ∈ q, ∀ b ∈ q, d b ≤ d a + 1
  before : ∀ r ∈ D, ∀ a ∈ q, d r ≤ d a

theorem Front.start (C : Caps) {to : Nat} (h : to ∈ P16) : Front C to (upd (fun _ => 17) to 0) [] [to] where
  told p := by
    by_cases e : p = to
    · subst e; simp [upd]
    · simp [upd, e]
  nodup := by simp
  inP p hp := by simp at hp; subst hp; exact h
  zero := upd_same _ _ _
  parent p hp hne := by simp at hp; exact absurd hp hne
  done r hr := by simp at hr
  small p hp := by simp at hp; subst hp; simp [upd]
  sorted := by simp
  near a ha b hb := by simp at ha hb; subst ha; subst hb; omega
  before r hr := by simp at hr

theorem Front.mid {C : Caps} {to : Nat} {d : Nat → Nat} {D q : List Nat} {x : Nat} (h : Front C to d D (x :: q)) : Mid C to d D x q [] where
  told := h.told
  nodup := h.nodup
  inP := h.inP
  zero := h.zero
  parent p hp hne := by
    obtain ⟨r, hr, h1⟩ := h.parent p hp hne
    exact ⟨r, by simp [hr], h1⟩
  done := h.done
  half p hp := by simp at hp
  small := h.small
  sorted := h.sorted
  near p hp := h.near x (by simp) p (by simp [hp])
  before r hr := h.before r hr x (by simp)

theorem Mid.front {C : Caps} {to : Nat} {d : Nat → Nat} {D q : List Nat} {x : Nat} (h : Mid C to d D x q P16) : Front C to d (D ++ [x]) q := by
  have e : D ++ [x] ++ q = D ++ x :: q := by simp
  refine ⟨?_, ?_, ?_, h.zero, ?_, ?_, ?_, ?_, ?_, ?_⟩
  · rw [e]; exact h.told
  · rw [e]; exact h.nodup
  · rw [e]; exact h.inP
  · rw [e]; exact h.parent
  · intro r hr p hp hC
    rw [List.mem_append] at hr
    rcases hr with hr | hr
    · exact h.done r hr p hp hC
    · simp at hr; subst hr; exact h.half p hp hC
  · rw [e]; exact h.small
  · exact (List.pairwise_cons.1 h.sorted).2
  · intro a ha b hb
    have h1 := (List.pairwise_cons.1 h.sorted).1 a ha
    have h2 := h.near b hb
    omega
  · intro r hr a ha
    have h1 := (List.pairwise_cons.1 h.sorted).1 a ha
    rw [List.mem_append] at hr
    rcases hr with hr | hr
    · have := h.before r hr; omega
    · simp at hr; subst hr; exact h1

theorem Front.step {C : Caps} {to : Nat} {d : Nat → Nat} {D q : List Nat} {x : Nat} (h : Front C to d D (x :: q)) :
    Front C to (scan C x P16 (d, q)).1 (D ++ [x]) (scan C x P16 (d, q)).2 :=
  Mid.front (by simpa using h.mid.scan P16 [] (fun _ hp => hp))

theorem Front.len {C : Caps} {to : Nat} {d : Nat → Nat} {D q : List Nat} (h : Front C to d D q) : (D ++ q).length ≤ 16 := length_le16 h.nodup h.inP

/-- How far each one is from 'to', over edges that have a capacity; 17: no way. -/
structure Dist (C : Caps) (to : Nat) (d : Nat → Nat) : Prop where
  zero : d to = 0
  small : ∀ p, d p ≠ 17 → d p ≤ 15
  inP : ∀ p, d p ≠ 17 → p ∈ P16
  parent : ∀ p, d p ≠ 17 → p ≠ to → ∃ r, d r ≠ 17 ∧ d p = d r + 1 ∧ 0 < C p r
  edge : ∀ r p, d r ≠ 17 → p ∈ P16 → 0 < C p r → d p ≠ 17 ∧ d p ≤ d r + 1

theorem Front.dist {C : Caps} {to : Nat} {d : Nat → Nat} {D : List Nat} (h : Front C to d D []) : Dist C to d := by
  have e : ∀ p, p ∈ D ↔ d p ≠ 17 := by simpa using h.told
  have hl : D.length ≤ 16 := by simpa using h.len
  refine ⟨h.zero, ?_, ?_, ?_, ?_⟩
  · intro p hp
    have := h.small p (by simpa using (e p).2 hp)
    simp at this; omega
  · intro p hp; exact h.inP p (by simpa using (e p).2 hp)
  · intro p hp hne
    obtain ⟨r, hr, h1, h2⟩ := h.parent p (by simpa using (e p).2 hp) hne
    exact ⟨r, (e r).1 hr, h1, h2⟩
  · intro r p hr hp hC
    exact h.done r ((e r).2 hr) p hp hC

/-- The walk of it. -/
def bfs (C : Caps) : Nat → (Nat → Nat) → List Nat → (Nat → Nat)
  | 0, d, _ => d
  | _ + 1, d, [] => d
  | k + 1, d, x :: q => bfs C k (scan C x P16 (d, q)).1 (scan C x P16 (d, q)).2

def hops (C : Caps) (to : Nat) : Nat → Nat := bfs C 17 (upd (fun _ => 17) to 0) [to]

theorem bfs_dist {C : Caps} {to : Nat} : ∀ (k : Nat) {d : Nat → Nat} {D q : List Nat}, Front C to d D q → 16 < k + D.length → Dist C to (bfs C k d q)
  | 0, d, D, q, h, hk => by have := h.len; simp at this; omega
  | _ + 1, d, D, [], h, _ => h.dist
  | k + 1, d, D, x :: q, h, hk => bfs_dist k h.step (by simp; omega)

theorem hops_dist (C : Caps) {to : Nat} (h : to ∈ P16) : Dist C to (hops C to) := bfs_dist 17 (Front.start C h) (by simp)

/-- The distances are what they are. -/
theorem Dist.unique {C : Caps} {to : Nat} {d e : Nat → Nat} (h : Dist C to d) (h' : Dist C to e) : ∀ p, d p = e p := by
  have key : ∀ {d e : Nat → Nat}, Dist C to d → Dist C to e → ∀ n p, d p = n → d p ≠ 17 → e p ≠ 17 ∧ e p ≤ d p := by
    intro d e h h' n
    induction n with
    | zero =>
      intro p hp h17
      have : p = to := Classical.byContradiction fun hne => by
        obtain ⟨r, _, h1, _⟩ := h.parent p h17 hne
        omega
      subst this
      rw [h'.zero, h.zero]; omega
    | succ n ih =>
      intro p hp h17
      have hne : p ≠ to := by rintro rfl; rw [h.zero] at hp; omega
      obtain ⟨r, hr, h1, hC⟩ := h.parent p h17 hne
      obtain ⟨i1, i2⟩ := ih r (by omega) hr
      obtain ⟨j1, j2⟩ := h'.edge r p i1 (h.inP p h17) hC
      exact ⟨j1, by omega⟩
  intro p
  by_cases h17 : d p = 17
  · by_cases e17 : e p = 17
    · rw [h17, e17]
    · exact absurd h17 (key h' h _ p rfl e17).1
  · obtain ⟨a, b⟩ := key h h' _ p rfl h17
    obtain ⟨_, c⟩ := key h' h _ p rfl a
    omega

/-- The least party a step nearer. -/
def nxt (C : Caps) (d : Nat → Nat) (a : Nat) : Nat := (P16.find? fun p => decide (d p + 1 = d a ∧ 0 < C a p)).getD 0

theorem nxt_spec {C : Caps} {to : Nat} {d : Nat → Nat} (h : Dist C to d) {a : Nat} (h17 : d a ≠ 17) (hne : a ≠ to) :
    d (nxt C d a) + 1 = d a ∧ 0 < C a (nxt C d a) ∧ nxt C d a ∈ P16 ∧ P16.find? (fun p => decide (d p + 1 = d a ∧ 0 < C a p)) = some (nxt C d a) := by
  obtain ⟨r, hr, h1, hC⟩ := h.parent a h17 hne
  unfold nxt
  cases hf : P16.find? fun p => decide (d p + 1 = d a ∧ 0 < C a p) with
  | none =>
    have := List.find?_eq_none.1 hf r (h.inP r hr)
    simp at this
    omega
  | some p =>
    have h2 := List.find?_some hf
    simp at h2
    exact ⟨h2.1, h2.2, List.mem_of_find?_eq_some hf, rfl⟩

/-- The way from a, so many steps. -/
def way (C : Caps) (d : Nat → Nat) : Nat → Nat → List Nat
  | 0, a => [a]
  | k + 1, a => a :: way C d k (nxt C d a)

theorem way_cons (C : Caps) (d : Nat → Nat) (k a : Nat) : ∃ l, way C d k a = a :: l := by cases k <;> exact ⟨_, rfl⟩

/-- The shortest way; none: []. -/
def short (C : Caps) (s t : Nat) : List Nat :=
  if s ∈ P16 ∧ t ∈ P16 ∧ s ≠ t ∧ hops C t s ≠ 17 then way C (hops C t) (hops C t s) s else []

theorem way_length (C : Caps) (d : Nat → Nat) : ∀ k a, (way C d k a).length = k + 1
  | 0, _ => rfl
  | k + 1, a => by simp [way, way_length C d k]

/-- Each step of a way goes along an edge. -/
def Chain (C : Caps) : List Nat → Prop
  | a :: b :: l => 0 < C a b ∧ Chain C (b :: l)
  | _ => True

theorem way_good {C : Caps} {to : Nat} {d : Nat → Nat} (h : Dist C to d) : ∀ k a, d a = k → d a ≠ 17 →
    Chain C (way C d k a) ∧ (way C d k a).getLast? = some to ∧ (∀ p ∈ way C d k a, p ∈ P16 ∧ d p ≤ k) ∧ (way C d k a).Nodup := by
  intro k
  induction k with
  | zero =>
    intro a ha h17
    have : a = to := Classical.byContradiction fun hne => by
      obtain ⟨r, _, h1, _⟩ := h.parent a h17 hne
      omega
    subst this
    refine ⟨trivial, rfl, ?_, by simp [way]⟩
    intro p hp
    simp [way] at hp; subst hp
    exact ⟨h.inP p h17, by omega⟩
  | succ k ih =>
    intro a ha h17
    have hne : a ≠ to := by rintro rfl; rw [h.zero] at ha; omega
    obtain ⟨h1, h2, h3, _⟩ := nxt_spec h h17 hne
    have h15 := h.small a h17
    obtain ⟨i1, i2, i3, i4⟩ := ih (nxt C d a) (by omega) (by omega)
    obtain ⟨l, hl⟩ := way_cons C d k (nxt C d a)
    refine ⟨?_, ?_, ?_, ?_⟩
    · rw [way, hl]; rw [hl] at i1; exact ⟨h2, i1⟩
    · rw [way, hl]; rw [hl] at i2; simpa using i2
    · intro p hp
      rw [way] at hp
      rcases List.mem_cons.1 hp with rfl | hp
      · exact ⟨h.inP p h17, by omega⟩
      · have := i3 p hp; exact ⟨this.1, by omega⟩
    · rw [way, List.nodup_cons]
      refine ⟨fun hm => ?_, i4⟩
      have := (i3 a hm).2; omega

/-- What a shortest way is good for. -/
structure Way (C : Caps) (s t : Nat) (l : List Nat) : Prop where
  chain : Chain C l
  first : l.head? = some s
  last : l.getLast? = some t
  inP : ∀ p ∈ l, p ∈ P16
  nodup : l.Nodup
  ends : s ≠ t

attribute [local irreducible] hops

theorem short_way {C : Caps} {s t : Nat} (h : short C s t ≠ []) : Way C s t (short C s t) := by
  unfold short at h ⊢
  split at h
  · rename_i hc
    rw [if_pos hc]
    obtain ⟨hs, ht, hne, h17⟩ := hc
    obtain ⟨h1, h2, h3, h4⟩ := way_good (hops_dist C ht) _ s rfl h17
    obtain ⟨l, hl⟩ := way_cons C (hops C t) (hops C t s) s
    exact ⟨h1, (congrArg List.head? hl).trans (List.head?_cons), h2, fun p hp => (h3 p hp).1, h4, hne⟩
  · exact absurd rfl h

/-- Where there is no way, who can come to t lets nobody in. -/
theorem short_none {C : Caps} {s t : Nat} (hs : s ∈ P16) (ht : t ∈ P16) (hne : s ≠ t) (h : short C s t = []) :
    ∃ S : Nat → Bool, S s = true ∧ S t = false ∧ ∀ a ∈ P16, ∀ b ∈ P16, S a = true → S b = false → C a b ≤ 0 := by
  have hd := hops_dist C ht
  have h17 : hops C t s = 17 := Classical.byContradiction fun hh => by
    unfold short at h
    rw [if_pos ⟨hs, ht, hne, hh⟩] at h
    obtain ⟨l, hl⟩ := way_cons C (hops C t) (hops C t s) s
    exact absurd (hl.symm.trans h) (List.cons_ne_nil _ _)
  generalize hops C t = d at hd h17
  refine ⟨fun p => decide (d p = 17), by simpa using h17, by simp [hd.zero], ?_⟩
  intro a ha b hb h1 h2
  simp at h1 h2
  refine Int.not_lt.1 fun hC => ?_
  exact (hd.edge b a h2 ha hC).1 h1

end Go.Proofs.Ytofnaigkfhfhoaa.Pl
namespace Go.Proofs.Ytofnaigkfhfhoaa.Pl

/-- The least capacity along a way, but no more than is wanted. -/
def least (C : Caps) : List Nat → Int → Int
  | a :: b :: l, w => least C (b :: l) (min w (C a b))
  | _, w => w

/-- Each step bears so much. -/
def Bears (C : Caps) (n : Int) : List Nat → Prop
  | a :: b :: l => n ≤ C a b ∧ Bears C n (b :: l)
  | _ => True

theorem Bears.mono {C : Caps} {n m : Int} (h : m ≤ n) : ∀ {l : List Nat}, Bears C n l → Bears C m l
  | [], _ => trivial
  | [_], _ => trivial
  | _ :: _ :: _, ⟨h1, h2⟩ => ⟨by omega, Bears.mono h h2⟩

theorem least_le (C : Caps) : ∀ (l : List Nat) (w : Int), least C l w ≤ w
  | [], w => by simp [least]
  | [_], w => by simp [least]
  | a :: b :: l, w => by
    have := least_le C (b :: l) (min w (C a b))
    rw [least]; omega

theorem least_bears (C : Caps) : ∀ (l : List Nat) (w : Int), Bears C (least C l w) l
  | [], _ => trivial
  | [_], _ => trivial
  | a :: b :: l, w => by
    rw [least]
    refine ⟨?_, least_bears C (b :: l) _⟩
    have := least_le C (b :: l) (min w (C a b))
    omega

theorem least_pos (C : Caps) : ∀ (l : List Nat) (w : Int), Chain C l → 1 ≤ w → 1 ≤ least C l w
  | [], _, _, h => by simpa [least] using h
  | [_], _, _, h => by simpa [least] using h
  | a :: b :: l, w, hc, h => by
    rw [least]
    have h1 := hc.1
    exact least_pos C (b :: l) _ hc.2 (by omega)

/-- Pushes that may be done, one behind the other. -/
def Valid : Caps → List Fl → Prop
  | _, [] => True
  | C, x :: ps => x.ok ∧ 1 ≤ x.n ∧ x.n ≤ C x.f x.t ∧ Valid (push C x.f x.t x.n) ps

theorem Valid.append : ∀ {C : Caps} {ps qs : List Fl}, Valid C ps → Valid (pushAll C ps) qs → Valid C (ps ++ qs)
  | _, [], _, _, h => h
  | _, _ :: _, _, ⟨h1, h2, h3, h4⟩, h => ⟨h1, h2, h3, Valid.append h4 h⟩

theorem Valid.oks : ∀ {C : Caps} {ps : List Fl}, Valid C ps → ∀ x ∈ ps, x.ok
  | _, [], _, _, h => by simp at h
  | _, y :: ps, ⟨h1, _, _, h4⟩, x, h => by
    rcases List.mem_cons.1 h with rfl | h
    · exact h1
    · exact Valid.oks h4 x h

theorem push_other {C : Caps} {f t a b : Nat} {n : Int} (h1 : a ≠ f ∨ b ≠ t) (h2 : a ≠ t ∨ b ≠ f) : push C f t n a b = C a b := by
  unfold push
  rw [if_neg (by omega), if_neg (by omega)]
theorem push_there {C : Caps} {f t : Nat} {n : Int} : push C f t n f t = C f t - n := by simp [push]
theorem push_back {C : Caps} {f t : Nat} {n : Int} (h : f ≠ t) : push C f t n t f = C t f + n := by
  unfold push
  rw [if_neg (by omega), if_pos (by simp)]

theorem Bears.push {C : Caps} {n m : Int} {a b : Nat} : ∀ {l : List Nat}, a ∉ l → Bears C n l → Bears (push C a b m) n l
  | [], _, _ => trivial
  | [_], _, _ => trivial
  | x :: y :: l, hn, ⟨h1, h2⟩ => by
    simp only [List.mem_cons, not_or] at hn
    refine ⟨?_, Bears.push (by simp [hn]) h2⟩
    rw [push_other (by omega) (by omega)]; exact h1

theorem along_valid {n : Int} (hn : 1 ≤ n) : ∀ {l : List Nat} {C : Caps}, Bears C n l → l.Nodup → (∀ p ∈ l, p ∈ P16) → Valid C (along l n)
  | [], _, _, _, _ => trivial
  | [_], _, _, _, _ => trivial
  | a :: b :: l, C, ⟨h1, h2⟩, hd, hp => by
    rw [List.nodup_cons] at hd
    refine ⟨⟨hp a (by simp), hp b (by simp), ?_⟩, hn, h1, along_valid hn (h2.push hd.1) hd.2 (fun p h => hp p (by simp [h]))⟩
    show a ≠ b
    rintro rfl; exact hd.1 (by simp)

/-- Capacities as a graph has them: none below 0, both ways of a pair together B at most, none of who is no party, or to oneself. -/
structure CapOk (B : Int) (C : Caps) : Prop where
  nonneg : ∀ a b, 0 ≤ C a b
  pair : ∀ a b, C a b + C b a ≤ B
  off : ∀ a b, a ∉ P16 ∨ b ∉ P16 ∨ a = b → C a b = 0

theorem CapOk.le {B : Int} {C : Caps} (h : CapOk B C) (a b : Nat) : C a b ≤ B := by
  have h1 := h.pair a b; have h2 := h.nonneg b a; omega

theorem CapOk.push {B : Int} {C : Caps} (h : CapOk B C) {x : Fl} (hx : x.ok) (h1 : 1 ≤ x.n) (h2 : x.n ≤ C x.f x.t) : CapOk B (push C x.f x.t x.n) := by
  obtain ⟨hf, ht, hne⟩ := hx
  refine ⟨?_, ?_, ?_⟩
  · intro a b
    have h0 := h.nonneg a b
    unfold Pl.push
    split
    · rename_i e; obtain ⟨rfl, rfl⟩ := e; omega
    · split <;> omega
  · intro a b
    have hp := h.pair a b
    by_cases e1 : a = x.f ∧ b = x.t
    · obtain ⟨rfl, rfl⟩ := e1
      rw [push_there, push_back hne]; omega
    · by_cases e2 : a = x.t ∧ b = x.f
      · obtain ⟨rfl, rfl⟩ := e2
        rw [push_there, push_back hne]; omega
      · rw [push_other (by omega) (by omega), push_other (by omega) (by omega)]; exact hp
  · intro a b hab
    rw [push_other]
    · exact h.off a b hab
    · by_cases e : a = x.f
      · subst e
        refine .inr ?_
        rintro rfl
        rcases hab with e | e | e
        · exact e hf
        · exact e ht
        · exact hne e
      · exact .inl e
    · by_cases e : a = x.t
      · subst e
        refine .inr ?_
        rintro rfl
        rcases hab with e | e | e
        · exact e ht
        · exact e hf
        · exact hne e.symm
      · exact .inl e

theorem CapOk.pushAll {B : Int} {ps : List Fl} : ∀ {C : Caps}, CapOk B C → Valid C ps → CapOk B (Pl.pushAll C ps) := by
  induction ps with
  | nil => intro C h _; exact h
  | cons x ps ih =>
    intro C h hv
    obtain ⟨h1, h2, h3, h4⟩ := hv
    exact ih (h.push h1 h2 h3) h4

/-- The route: its pushes; how much it got; what is left of the capacities. (So many rounds at most.) -/
def route (s t : Nat) : Nat → Caps → Int → List Fl × Int × Caps
  | 0, C, _ => ([], 0, C)
  | k + 1, C, w =>
    if w ≤ 0 then ([], 0, C) else
    match short C s t with
    | [] => ([], 0, C)
    | a :: l =>
      let n := least C (a :: l) w
      let r := route s t k (pushAll C (along (a :: l) n)) (w - n)
      (along (a :: l) n ++ r.1, n + r.2.1, r.2.2)

theorem route_done (s t : Nat) (k : Nat) (C : Caps) {w : Int} (h : w ≤ 0) : route s t k C w = ([], 0, C) := by
  cases k
  · rfl
  · rw [route, if_pos h]
theorem route_none (s t : Nat) (k : Nat) {C : Caps} (w : Int) (h : short C s t = []) : route s t k C w = ([], 0, C) := by
  cases k
  · rfl
  · rw [route, h]; split <;> rfl
theorem route_step (s t : Nat) (k : Nat) {C : Caps} {w : Int} (hw : 0 < w) {a : Nat} {l : List Nat} (h : short C s t = a :: l) :
    route s t (k + 1) C w = (along (a :: l) (least C (a :: l) w) ++ (route s t k (pushAll C (along (a :: l) (least C (a :: l) w))) (w - least C (a :: l) w)).1,
      least C (a :: l) w + (route s t k (pushAll C (along (a :: l) (least C (a :: l) w))) (w - least C (a :: l) w)).2.1,
      (route s t k (pushAll C (along (a :: l) (least C (a :: l) w))) (w - least C (a :: l) w)).2.2) := by
  rw [route, h, if_neg (by omega)]

/-- What a round of the route does. -/
structure Round (C : Caps) (s t : Nat) (w : Int) (l : List Nat) : Prop where
  pos : 1 ≤ least C l w
  le : least C l w ≤ w
  valid : Valid C (along l (least C l w))
  into : ∀ S, into (along l (least C l w)) S = least C l w * (ind S t - ind S s)

theorem round_of {C : Caps} {s t : Nat} {w : Int} (hw : 0 < w) (h : short C s t ≠ []) : Round C s t w (short C s t) := by
  have hW := short_way h
  generalize short C s t = l at hW h
  obtain ⟨c, hf, hl, hp, hd, hne⟩ := hW
  refine ⟨least_pos C l w c (by omega), least_le C l w, along_valid (least_pos C l w c (by omega)) (least_bears C l w) hd hp, fun S => ?_⟩
  cases l with
  | nil => exact absurd rfl h
  | cons a l =>
    simp at hf; subst hf
    exact into_along S _ l a t hl

/-- The route's pushes may be done; what it got has moved; it got what was wanted, or there is no way left. -/
structure Routed (C : Caps) (s t : Nat) (w : Int) (r : List Fl × Int × Caps) : Prop where
  valid : Valid C r.1
  caps : r.2.2 = pushAll C r.1
  into : ∀ S, into r.1 S = r.2.1 * (ind S t - ind S s)
  nonneg : 0 ≤ r.2.1
  le : r.2.1 ≤ max w 0
  full : r.2.1 = w ∨ short r.2.2 s t = [] ∨ w ≤ 0

theorem routed (s t : Nat) : ∀ (k : Nat) (C : Caps) (w : Int), w ≤ k → Routed C s t w (route s t k C w)
  | k, C, w, hk => by
    by_cases hw : w ≤ 0
    · rw [route_done s t k C hw]
      exact ⟨trivial, rfl, fun S => by simp, by simp, by simp; omega, .inr (.inr hw)⟩
    · by_cases hs : short C s t = []
      · rw [route_none s t k w hs]
        exact ⟨trivial, rfl, fun S => by simp, by simp, by simp; omega, .inr (.inl hs)⟩
      · cases k with
        | zero => omega
        | succ k =>
          have hR := round_of (w := w) (by omega) hs
          obtain ⟨a, l, e⟩ : ∃ a l, short C s t = a :: l := by
            cases hh : short C s t with
            | nil => exact absurd hh hs
            | cons a l => exact ⟨a, l, rfl⟩
          rw [route_step s t k (by omega) e]
          rw [e] at hR
          obtain ⟨r1, r2, r3, r4⟩ := hR
          generalize least C (a :: l) w = n at *
          have ih := routed s t k (pushAll C (along (a :: l) n)) (w - n) (by omega)
          generalize route s t k (pushAll C (along (a :: l) n)) (w - n) = r at ih
          obtain ⟨i1, i2, i3, i4, i5, i6⟩ := ih
          refine ⟨r3.append i1, ?_, ?_, ?_, ?_, ?_⟩
          · rw [pushAll_append]; exact i2
          · intro S
            rw [into_append, r4, i3, ← Int.add_mul]
          · show 0 ≤ n + r.2.1; omega
          · show n + r.2.1 ≤ _; omega
          · show n + r.2.1 = w ∨ _
            rcases i6 with h | h | h
            · left; omega
            · exact .inr (.inl h)
            · left; omega

/-- Whatever is taken, from among them, to not: no more goes. -/
theorem Routed.le_cut {B : Int} {C : Caps} {s t : Nat} {w : Int} {r : List Fl × Int × Caps} (h : Routed C s t w r) (hC : CapOk B C) {S : Nat → Bool} (hs : S s = true) (ht : S t = false) :
    r.2.1 ≤ cut C S ∧ cut r.2.2 S = cut C S - r.2.1 := by
  have e := cut_pushAll r.1 S h.valid.oks C
  have hg := (hC.pushAll h.valid).nonneg
  have h0 := cut_nonneg hg S
  rw [h.into S] at e
  have hi : ind S t - ind S s = -1 := by simp [ind, hs, ht]
  rw [hi] at e
  rw [h.caps]
  omega

theorem cut_zero {C : Caps} {S : Nat → Bool} (h : ∀ a ∈ P16, ∀ b ∈ P16, S a = true → S b = false → C a b ≤ 0) : cut C S ≤ 0 := by
  have : cut C S ≤ sum P16 (fun _ => sum P16 (fun _ => 0)) := by
    unfold cut
    refine sum_le fun a ha => sum_le fun b hb => ?_
    split
    · rename_i e
      simp at e
      exact h a ha b hb e.1 e.2
    · omega
  simpa [sum_zero] using this

/-- Where less was got than wanted, some cut lets out no more. -/
theorem Routed.cut {B : Int} {C : Caps} {s t : Nat} {w : Int} {r : List Fl × Int × Caps} (h : Routed C s t w r) (hC : CapOk B C) (hs : s ∈ P16) (ht : t ∈ P16) (hne : s ≠ t) (hw : 0 ≤ w) (hlt : r.2.1 < w) :
    ∃ S : Nat → Bool, S s = true ∧ S t = false ∧ Pl.cut C S = r.2.1 := by
  have hn : short r.2.2 s t = [] := by
    rcases h.full with e | e | e
    · omega
    · exact e
    · have := h.nonneg; omega
  obtain ⟨S, h1, h2, h3⟩ := short_none hs ht hne hn
  have hz := cut_zero h3
  have h0 := cut_nonneg ((hC.pushAll h.valid).nonneg) S
  rw [← h.caps] at h0
  have := (h.le_cut hC h1 h2).2
  exact ⟨S, h1, h2, by omega⟩

theorem sum_const (l : List Nat) (c : Int) : sum l (fun _ => c) = l.length * c := by
  induction l with
  | nil => simp
  | cons a l ih => simp only [sum_cons, ih, List.length_cons, Int.natCast_succ, Int.add_mul]; omega

theorem cut_le {B : Int} (hB : 0 ≤ B) {C : Caps} (hC : CapOk B C) (S : Nat → Bool) : Pl.cut C S ≤ 256 * B := by
  have : Pl.cut C S ≤ sum P16 (fun _ => sum P16 (fun _ => B)) := by
    unfold Pl.cut
    refine sum_le fun a ha => sum_le fun b hb => ?_
    split
    · exact hC.le a b
    · exact hB
  rw [sum_const, sum_const] at this
  simp [P16] at this
  omega

/-- The most that goes. -/
def mostOf (C : Caps) (s t : Nat) : Int := (route s t 9223372036854775807 C 9223372036854775807).2.1

theorem most_facts {B : Int} (hB : 0 ≤ B) (hB' : B < 36028797018963968) {C : Caps} (hC : CapOk B C) {s t : Nat} (hs : s ∈ P16) (ht : t ∈ P16) (hne : s ≠ t) {k : Nat} {w : Int} (hk : w ≤ k) (hw : 256 * B < w) :
    0 ≤ (route s t k C w).2.1 ∧ (∀ S : Nat → Bool, S s = true → S t = false → (route s t k C w).2.1 ≤ cut C S) ∧ ∃ S : Nat → Bool, S s = true ∧ S t = false ∧ cut C S = (route s t k C w).2.1 := by
  have h := routed s t k C w hk
  refine ⟨h.nonneg, fun S h1 h2 => (h.le_cut hC h1 h2).1, ?_⟩
  refine h.cut hC hs ht hne (by omega) ?_
  have h1 : (fun p => decide (p = s)) s = true := by simp
  have h2 : (fun p => decide (p = s)) t = false := by simp [Ne.symm hne]
  have := (h.le_cut (S := fun p => decide (p = s)) hC h1 h2).1
  have := cut_le hB hC (fun p => decide (p = s))
  omega

theorem most_unique {C : Caps} {s t : Nat} {m n : Int} (hm : ∀ S : Nat → Bool, S s = true → S t = false → m ≤ cut C S) (hm' : ∃ S : Nat → Bool, S s = true ∧ S t = false ∧ cut C S = m)
    (hn : ∀ S : Nat → Bool, S s = true → S t = false → n ≤ cut C S) (hn' : ∃ S : Nat → Bool, S s = true ∧ S t = false ∧ cut C S = n) : m = n := by
  obtain ⟨S, h1, h2, h3⟩ := hm'
  obtain ⟨T, k1, k2, k3⟩ := hn'
  have := hm T k1 k2
  have := hn S h1 h2
  omega

end Go.Proofs.Ytofnaigkfhfhoaa.Pl
