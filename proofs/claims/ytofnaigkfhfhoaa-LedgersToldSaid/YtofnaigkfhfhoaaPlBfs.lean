/-
  Plain law: how far each party is from one (breadth first), the shortest way. No Go in sight.
-/
import Derived.Test.YtofnaigkfhfhoaaPlCut
namespace Go.Proofs.Ytofnaigkfhfhoaa.Pl

def upd {α : Type} (d : Nat → α) (p : Nat) (v : α) : Nat → α := fun q => if q = p then v else d q
theorem upd_same {α : Type} (d : Nat → α) (p : Nat) (v : α) : upd d p v p = v := by simp [upd]
theorem upd_other {α : Type} (d : Nat → α) {p q : Nat} (v : α) (h : q ≠ p) : upd d p v q = d q := by simp [upd, h]

/-- One look at p while x is gone through: who is not told of yet, and leads to x, is told of. -/
def look (C : Caps) (x : Nat) (s : (Nat → Nat) × List Nat) (p : Nat) : (Nat → Nat) × List Nat :=
  if s.1 p = 17 ∧ 0 < C p x then (upd s.1 p (s.1 x + 1), s.2 ++ [p]) else s

def scan (C : Caps) (x : Nat) (l : List Nat) (s : (Nat → Nat) × List Nat) : (Nat → Nat) × List Nat := l.foldl (look C x) s
theorem scan_nil (C : Caps) (x : Nat) (s : (Nat → Nat) × List Nat) : scan C x [] s = s := rfl
theorem scan_snoc (C : Caps) (x : Nat) (l : List Nat) (p : Nat) (s : (Nat → Nat) × List Nat) : scan C x (l ++ [p]) s = look C x (scan C x l s) p := by
  simp [scan, List.foldl_append]

/-- What holds while x is gone through: D: who was gone through; q: who waits; l: at whom was looked. -/
structure Mid (C : Caps) (to : Nat) (d : Nat → Nat) (D : List Nat) (x : Nat) (q l : List Nat) : Prop where
  told : ∀ p, p ∈ D ++ x :: q ↔ d p ≠ 17
  nodup : (D ++ x :: q).Nodup
  inP : ∀ p ∈ D ++ x :: q, p ∈ P16
  zero : d to = 0
  parent : ∀ p ∈ D ++ x :: q, p ≠ to → ∃ r ∈ D ++ [x], d p = d r + 1 ∧ 0 < C p r
  done : ∀ r ∈ D, ∀ p ∈ P16, 0 < C p r → d p ≠ 17 ∧ d p ≤ d r + 1
  half : ∀ p ∈ l, 0 < C p x → d p ≠ 17 ∧ d p ≤ d x + 1
  small : ∀ p ∈ D ++ x :: q, d p < (D ++ x :: q).length
  sorted : (x :: q).Pairwise (fun a b => d a ≤ d b)
  near : ∀ p ∈ q, d p ≤ d x + 1
  before : ∀ r ∈ D, d r ≤ d x

theorem length_le16 {l : List Nat} (hn : l.Nodup) (h : ∀ p ∈ l, p ∈ P16) : l.length ≤ 16 := by
  have := hn.length_le_of_subset (l₂ := P16) (fun x hx => h x hx)
  simpa [P16] using this

theorem Mid.look {C : Caps} {to : Nat} {d : Nat → Nat} {D : List Nat} {x : Nat} {q l : List Nat} (h : Mid C to d D x q l) {p : Nat} (hp : p ∈ P16) :
    Mid C to (Pl.look C x (d, q) p).1 D x (Pl.look C x (d, q) p).2 (l ++ [p]) := by
  unfold Pl.look
  dsimp only
  by_cases hc : d p = 17 ∧ 0 < C p x
  · rw [if_pos hc]
    dsimp only
    obtain ⟨h17, hC⟩ := hc
    have hpn : p ∉ D ++ x :: q := fun hm => (h.told p).1 hm h17
    have hlen := length_le16 h.nodup h.inP
    have hx : x ∈ D ++ x :: q := by simp
    have hdx := h.small x hx
    have hpx : x ≠ p := fun e => hpn (e ▸ hx)
    have other : ∀ r ∈ D ++ x :: q, upd d p (d x + 1) r = d r := fun r hr => upd_other _ _ (fun e => hpn (e ▸ hr))
    have e : D ++ x :: (q ++ [p]) = (D ++ x :: q) ++ [p] := by simp
    refine ⟨?_, ?_, ?_, ?_, ?_, ?_, ?_, ?_, ?_, ?_, ?_⟩
    · intro r
      rw [e, List.mem_append]
      by_cases hr : r = p
      · subst hr
        simp only [List.mem_singleton, or_true, true_iff]
        rw [upd_same]; omega
      · rw [upd_other _ _ hr, ← h.told r]; simp [hr]
    · rw [e, List.nodup_append]
      refine ⟨h.nodup, by simp, ?_⟩
      intro a ha b hb
      simp at hb; subst hb
      rintro rfl; exact hpn ha
    · intro r hr
      rw [e, List.mem_append] at hr
      rcases hr with hr | hr
      · exact h.inP r hr
      · simp at hr; subst hr; exact hp
    · have : to ≠ p := by
        rintro rfl; rw [h.zero] at h17; omega
      show upd d p (d x + 1) to = 0
      rw [upd_other _ _ this]; exact h.zero
    · intro r hr hrt
      rw [e, List.mem_append] at hr
      rcases hr with hr | hr
      · obtain ⟨s, hs, h1, h2⟩ := h.parent r hr hrt
        have hs' : s ∈ D ++ x :: q := by
          simp only [List.mem_append, List.mem_cons, List.not_mem_nil, or_false] at hs ⊢
          rcases hs with hs | hs <;> simp [hs]
        exact ⟨s, hs, by show upd d p (d x + 1) r = upd d p (d x + 1) s + 1; rw [other r hr, other s hs']; exact h1, h2⟩
      · simp at hr; subst hr
        exact ⟨x, by simp, by show upd d r (d x + 1) r = upd d r (d x + 1) x + 1; rw [upd_same, upd_other _ _ hpx], hC⟩
    · intro r hr s hs hC'
      have hr' : r ∈ D ++ x :: q := by simp [hr]
      obtain ⟨h1, h2⟩ := h.done r hr s hs hC'
      have hsp : s ≠ p := by rintro rfl; exact h1 h17
      show upd d p (d x + 1) s ≠ 17 ∧ upd d p (d x + 1) s ≤ upd d p (d x + 1) r + 1
      rw [upd_other _ _ hsp, other r hr']; exact ⟨h1, h2⟩
    · intro s hs hC'
      show upd d p (d x + 1) s ≠ 17 ∧ upd d p (d x + 1) s ≤ upd d p (d x + 1) x + 1
      rw [other x hx]
      by_cases hsp : s = p
      · subst hsp; rw [upd_same]; omega
      · rw [upd_other _ _ hsp]
        rw [List.mem_append] at hs
        rcases hs with hs | hs
        · exact h.half s hs hC'
        · simp at hs; exact absurd hs hsp
    · intro r hr
      rw [e] at hr ⊢
      rw [List.length_append]
      rw [List.mem_append] at hr
      show upd d p (d x + 1) r < _
      rcases hr with hr | hr
      · rw [other r hr]; have := h.small r hr; omega
      · simp at hr; subst hr; rw [upd_same]; simp only [List.length_singleton]; omega
    · show (x :: (q ++ [p])).Pairwise (fun a b => upd d p (d x + 1) a ≤ upd d p (d x + 1) b)
      have e2 : x :: (q ++ [p]) = (x :: q) ++ [p] := by simp
      rw [e2, List.pairwise_append]
      have hin : ∀ a ∈ x :: q, a ∈ D ++ x :: q := fun a ha => List.mem_append.2 (.inr ha)
      refine ⟨?_, by simp, ?_⟩
      · exact h.sorted.imp_of_mem fun {a b} ha hb hab => by rw [other a (hin a ha), other b (hin b hb)]; exact hab
      · intro a ha b hb
        simp at hb; subst hb
        rw [upd_same, other a (hin a ha)]
        rcases List.mem_cons.1 ha with rfl | ha
        · omega
        · exact h.near a ha
    · intro r hr
      show upd d p (d x + 1) r ≤ upd d p (d x + 1) x + 1
      rw [other x hx]
      rw [List.mem_append] at hr
      rcases hr with hr | hr
      · rw [other r (by simp [hr])]; exact h.near r hr
      · simp at hr; subst hr; rw [upd_same]; omega
    · intro r hr
      show upd d p (d x + 1) r ≤ upd d p (d x + 1) x
      rw [other x hx, other r (by simp [hr])]; exact h.before r hr
  · rw [if_neg hc]
    dsimp only
    refine { h with half := ?_ }
    intro s hs hC'
    rw [List.mem_append] at hs
    rcases hs with hs | hs
    · exact h.half s hs hC'
    · simp at hs; subst hs
      have hs17 : d s ≠ 17 := fun e => hc ⟨e, hC'⟩
      refine ⟨hs17, ?_⟩
      have hm := (h.told s).2 hs17
      rcases List.mem_append.1 hm with hm | hm
      · have := h.before s hm; omega
      · rcases List.mem_cons.1 hm with rfl | hm
        · omega
        · exact h.near s hm

theorem Mid.scan {C : Caps} {to : Nat} {D : List Nat} {x : Nat} : ∀ (k l : List Nat) {d : Nat → Nat} {q : List Nat}, Mid C to d D x q l → (∀ p ∈ k, p ∈ P16) →
    Mid C to (Pl.scan C x k (d, q)).1 D x (Pl.scan C x k (d, q)).2 (l ++ k)
  | [], l, d, q, h, _ => by simpa [Pl.scan] using h
  | p :: k, l, d, q, h, hk => by
    have h1 := h.look (hk p (by simp))
    have h2 := Mid.scan k (l ++ [p]) h1 (fun r hr => hk r (by simp [hr]))
    simpa [Pl.scan] using h2

/-- What holds between two goings through. -/
structure Front (C : Caps) (to : Nat) (d : Nat → Nat) (D q : List Nat) : Prop where
  told : ∀ p, p ∈ D ++ q ↔ d p ≠ 17
  nodup : (D ++ q).Nodup
  inP : ∀ p ∈ D ++ q, p ∈ P16
  zero : d to = 0
  parent : ∀ p ∈ D ++ q, p ≠ to → ∃ r ∈ D, d p = d r + 1 ∧ 0 < C p r
  done : ∀ r ∈ D, ∀ p ∈ P16, 0 < C p r → d p ≠ 17 ∧ d p ≤ d r + 1
  small : ∀ p ∈ D ++ q, d p < (D ++ q).length
  sorted : q.Pairwise (fun a b => d a ≤ d b)
  near : ∀ a ∈ q, ∀ b ∈ q, d b ≤ d a + 1
  before : ∀ r ∈ D, ∀ a ∈ q, d r ≤ d a

theorem Front.start (C : Caps) {to : Nat} (h : to ∈ P16) : Front C to (upd (fun _ => 17) to 0) [] [to] where
  told p := by
    by_cases e : p = to
    · subst e; simp [upd]
    · simp [upd, e]
  nodup := by simp
  inP p hp := by simp at hp; subst hp; exact h
  zero := upd_same _ _ _
  parent p hp hne := by simp at hp; exact absurd hp hne
  done r hr := by simp at hr
  small p hp := by simp at hp; subst hp; simp [upd]
  sorted := by simp
  near a ha b hb := by simp at ha hb; subst ha; subst hb; omega
  before r hr := by simp at hr

theorem Front.mid {C : Caps} {to : Nat} {d : Nat → Nat} {D q : List Nat} {x : Nat} (h : Front C to d D (x :: q)) : Mid C to d D x q [] where
  told := h.told
  nodup := h.nodup
  inP := h.inP
  zero := h.zero
  parent p hp hne := by
    obtain ⟨r, hr, h1⟩ := h.parent p hp hne
    exact ⟨r, by simp [hr], h1⟩
  done := h.done
  half p hp := by simp at hp
  small := h.small
  sorted := h.sorted
  near p hp := h.near x (by simp) p (by simp [hp])
  before r hr := h.before r hr x (by simp)

theorem Mid.front {C : Caps} {to : Nat} {d : Nat → Nat} {D q : List Nat} {x : Nat} (h : Mid C to d D x q P16) : Front C to d (D ++ [x]) q := by
  have e : D ++ [x] ++ q = D ++ x :: q := by simp
  refine ⟨?_, ?_, ?_, h.zero, ?_, ?_, ?_, ?_, ?_, ?_⟩
  · rw [e]; exact h.told
  · rw [e]; exact h.nodup
  · rw [e]; exact h.inP
  · rw [e]; exact h.parent
  · intro r hr p hp hC
    rw [List.mem_append] at hr
    rcases hr with hr | hr
    · exact h.done r hr p hp hC
    · simp at hr; subst hr; exact h.half p hp hC
  · rw [e]; exact h.small
  · exact (List.pairwise_cons.1 h.sorted).2
  · intro a ha b hb
    have h1 := (List.pairwise_cons.1 h.sorted).1 a ha
    have h2 := h.near b hb
    omega
  · intro r hr a ha
    have h1 := (List.pairwise_cons.1 h.sorted).1 a ha
    rw [List.mem_append] at hr
    rcases hr with hr | hr
    · have := h.before r hr; omega
    · simp at hr; subst hr; exact h1

theorem Front.step {C : Caps} {to : Nat} {d : Nat → Nat} {D q : List Nat} {x : Nat} (h : Front C to d D (x :: q)) :
    Front C to (scan C x P16 (d, q)).1 (D ++ [x]) (scan C x P16 (d, q)).2 :=
  Mid.front (by simpa using h.mid.scan P16 [] (fun _ hp => hp))

theorem Front.len {C : Caps} {to : Nat} {d : Nat → Nat} {D q : List Nat} (h : Front C to d D q) : (D ++ q).length ≤ 16 := length_le16 h.nodup h.inP

/-- How far each one is from 'to', over edges that have a capacity; 17: no way. -/
structure Dist (C : Caps) (to : Nat) (d : Nat → Nat) : Prop where
  zero : d to = 0
  small : ∀ p, d p ≠ 17 → d p ≤ 15
  inP : ∀ p, d p ≠ 17 → p ∈ P16
  parent : ∀ p, d p ≠ 17 → p ≠ to → ∃ r, d r ≠ 17 ∧ d p = d r + 1 ∧ 0 < C p r
  edge : ∀ r p, d r ≠ 17 → p ∈ P16 → 0 < C p r → d p ≠ 17 ∧ d p ≤ d r + 1

theorem Front.dist {C : Caps} {to : Nat} {d : Nat → Nat} {D : List Nat} (h : Front C to d D []) : Dist C to d := by
  have e : ∀ p, p ∈ D ↔ d p ≠ 17 := by simpa using h.told
  have hl : D.length ≤ 16 := by simpa using h.len
  refine ⟨h.zero, ?_, ?_, ?_, ?_⟩
  · intro p hp
    have := h.small p (by simpa using (e p).2 hp)
    simp at this; omega
  · intro p hp; exact h.inP p (by simpa using (e p).2 hp)
  · intro p hp hne
    obtain ⟨r, hr, h1, h2⟩ := h.parent p (by simpa using (e p).2 hp) hne
    exact ⟨r, (e r).1 hr, h1, h2⟩
  · intro r p hr hp hC
    exact h.done r ((e r).2 hr) p hp hC

/-- The walk of it. -/
def bfs (C : Caps) : Nat → (Nat → Nat) → List Nat → (Nat → Nat)
  | 0, d, _ => d
  | _ + 1, d, [] => d
  | k + 1, d, x :: q => bfs C k (scan C x P16 (d, q)).1 (scan C x P16 (d, q)).2

def hops (C : Caps) (to : Nat) : Nat → Nat := bfs C 17 (upd (fun _ => 17) to 0) [to]

theorem bfs_dist {C : Caps} {to : Nat} : ∀ (k : Nat) {d : Nat → Nat} {D q : List Nat}, Front C to d D q → 16 < k + D.length → Dist C to (bfs C k d q)
  | 0, d, D, q, h, hk => by have := h.len; simp at this; omega
  | _ + 1, d, D, [], h, _ => h.dist
  | k + 1, d, D, x :: q, h, hk => bfs_dist k h.step (by simp; omega)

theorem hops_dist (C : Caps) {to : Nat} (h : to ∈ P16) : Dist C to (hops C to) := bfs_dist 17 (Front.start C h) (by simp)

/-- The distances are what they are. -/
theorem Dist.unique {C : Caps} {to : Nat} {d e : Nat → Nat} (h : Dist C to d) (h' : Dist C to e) : ∀ p, d p = e p := by
  have key : ∀ {d e : Nat → Nat}, Dist C to d → Dist C to e → ∀ n p, d p = n → d p ≠ 17 → e p ≠ 17 ∧ e p ≤ d p := by
    intro d e h h' n
    induction n with
    | zero =>
      intro p hp h17
      have : p = to := Classical.byContradiction fun hne => by
        obtain ⟨r, _, h1, _⟩ := h.parent p h17 hne
        omega
      subst this
      rw [h'.zero, h.zero]; omega
    | succ n ih =>
      intro p hp h17
      have hne : p ≠ to := by rintro rfl; rw [h.zero] at hp; omega
      obtain ⟨r, hr, h1, hC⟩ := h.parent p h17 hne
      obtain ⟨i1, i2⟩ := ih r (by omega) hr
      obtain ⟨j1, j2⟩ := h'.edge r p i1 (h.inP p h17) hC
      exact ⟨j1, by omega⟩
  intro p
  by_cases h17 : d p = 17
  · by_cases e17 : e p = 17
    · rw [h17, e17]
    · exact absurd h17 (key h' h _ p rfl e17).1
  · obtain ⟨a, b⟩ := key h h' _ p rfl h17
    obtain ⟨_, c⟩ := key h' h _ p rfl a
    omega

/-- The least party a step nearer. -/
def nxt (C : Caps) (d : Nat → Nat) (a : Nat) : Nat := (P16.find? fun p => decide (d p + 1 = d a ∧ 0 < C a p)).getD 0

theorem nxt_spec {C : Caps} {to : Nat} {d : Nat → Nat} (h : Dist C to d) {a : Nat} (h17 : d a ≠ 17) (hne : a ≠ to) :
    d (nxt C d a) + 1 = d a ∧ 0 < C a (nxt C d a) ∧ nxt C d a ∈ P16 ∧ P16.find? (fun p => decide (d p + 1 = d a ∧ 0 < C a p)) = some (nxt C d a) := by
  obtain ⟨r, hr, h1, hC⟩ := h.parent a h17 hne
  unfold nxt
  cases hf : P16.find? fun p => decide (d p + 1 = d a ∧ 0 < C a p) with
  | none =>
    have := List.find?_eq_none.1 hf r (h.inP r hr)
    simp at this
    omega
  | some p =>
    have h2 := List.find?_some hf
    simp at h2
    exact ⟨h2.1, h2.2, List.mem_of_find?_eq_some hf, rfl⟩

/-- The way from a, so many steps. -/
def way (C : Caps) (d : Nat → Nat) : Nat → Nat → List Nat
  | 0, a => [a]
  | k + 1, a => a :: way C d k (nxt C d a)

theorem way_cons (C : Caps) (d : Nat → Nat) (k a : Nat) : ∃ l, way C d k a = a :: l := by cases k <;> exact ⟨_, rfl⟩

/-- The shortest way; none: []. -/
def short (C : Caps) (s t : Nat) : List Nat :=
  if s ∈ P16 ∧ t ∈ P16 ∧ s ≠ t ∧ hops C t s ≠ 17 then way C (hops C t) (hops C t s) s else []

theorem way_length (C : Caps) (d : Nat → Nat) : ∀ k a, (way C d k a).length = k + 1
  | 0, _ => rfl
  | k + 1, a => by simp [way, way_length C d k]

/-- Each step of a way goes along an edge. -/
def Chain (C : Caps) : List Nat → Prop
  | a :: b :: l => 0 < C a b ∧ Chain C (b :: l)
  | _ => True

theorem way_good {C : Caps} {to : Nat} {d : Nat → Nat} (h : Dist C to d) : ∀ k a, d a = k → d a ≠ 17 →
    Chain C (way C d k a) ∧ (way C d k a).getLast? = some to ∧ (∀ p ∈ way C d k a, p ∈ P16 ∧ d p ≤ k) ∧ (way C d k a).Nodup := by
  intro k
  induction k with
  | zero =>
    intro a ha h17
    have : a = to := Classical.byContradiction fun hne => by
      obtain ⟨r, _, h1, _⟩ := h.parent a h17 hne
      omega
    subst this
    refine ⟨trivial, rfl, ?_, by simp [way]⟩
    intro p hp
    simp [way] at hp; subst hp
    exact ⟨h.inP p h17, by omega⟩
  | succ k ih =>
    intro a ha h17
    have hne : a ≠ to := by rintro rfl; rw [h.zero] at ha; omega
    obtain ⟨h1, h2, h3, _⟩ := nxt_spec h h17 hne
    have h15 := h.small a h17
    obtain ⟨i1, i2, i3, i4⟩ := ih (nxt C d a) (by omega) (by omega)
    obtain ⟨l, hl⟩ := way_cons C d k (nxt C d a)
    refine ⟨?_, ?_, ?_, ?_⟩
    · rw [way, hl]; rw [hl] at i1; exact ⟨h2, i1⟩
    · rw [way, hl]; rw [hl] at i2; simpa using i2
    · intro p hp
      rw [way] at hp
      rcases List.mem_cons.1 hp with rfl | hp
      · exact ⟨h.inP p h17, by omega⟩
      · have := i3 p hp; exact ⟨this.1, by omega⟩
    · rw [way, List.nodup_cons]
      refine ⟨fun hm => ?_, i4⟩
      have := (i3 a hm).2; omega

/-- What a shortest way is good for. -/
structure Way (C : Caps) (s t : Nat) (l : List Nat) : Prop where
  chain : Chain C l
  first : l.head? = some s
  last : l.getLast? = some t
  inP : ∀ p ∈ l, p ∈ P16
  nodup : l.Nodup
  ends : s ≠ t

attribute [local irreducible] hops

theorem short_way {C : Caps} {s t : Nat} (h : short C s t ≠ []) : Way C s t (short C s t) := by
  unfold short at h ⊢
  split at h
  · rename_i hc
    rw [if_pos hc]
    obtain ⟨hs, ht, hne, h17⟩ := hc
    obtain ⟨h1, h2, h3, h4⟩ := way_good (hops_dist C ht) _ s rfl h17
    obtain ⟨l, hl⟩ := way_cons C (hops C t) (hops C t s) s
    exact ⟨h1, (congrArg List.head? hl).trans (List.head?_cons), h2, fun p hp => (h3 p hp).1, h4, hne⟩
  · exact absurd rfl h

/-- Where there is no way, who can come to t lets nobody in. -/
theorem short_none {C : Caps} {s t : Nat} (hs : s ∈ P16) (ht : t ∈ P16) (hne : s ≠ t) (h : short C s t = []) :
    ∃ S : Nat → Bool, S s = true ∧ S t = false ∧ ∀ a ∈ P16, ∀ b ∈ P16, S a = true → S b = false → C a b ≤ 0 := by
  have hd := hops_dist C ht
  have h17 : hops C t s = 17 := Classical.byContradiction fun hh => by
    unfold short at h
    rw [if_pos ⟨hs, ht, hne, hh⟩] at h
    obtain ⟨l, hl⟩ := way_cons C (hops C t) (hops C t s) s
    exact absurd (hl.symm.trans h) (List.cons_ne_nil _ _)
  generalize hops C t = d at hd h17
  refine ⟨fun p => decide (d p = 17), by simpa using h17, by simp [hd.zero], ?_⟩
  intro a ha b hb h1 h2
  simp at h1 h2
  refine Int.not_lt.1 fun hC => ?_
  exact (hd.edge b a h2 ha hC).1 h1

end Go.Proofs.Ytofnaigkfhfhoaa.Pl
