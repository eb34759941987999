/-
  Plain law: the route of so much, and what it gets: the least cut. No Go in sight.
-/
import Derived.Test.YtofnaigkfhfhoaaPlBfs
namespace Go.Proofs.Ytofnaigkfhfhoaa.Pl

/-- The least capacity along a way, but no more than is wanted. -/
def least (C : Caps) : List Nat → Int → Int
  | a :: b :: l, w => least C (b :: l) (min w (C a b))
  | _, w => w

/-- Each step bears so much. -/
def Bears (C : Caps) (n : Int) : List Nat → Prop
  | a :: b :: l => n ≤ C a b ∧ Bears C n (b :: l)
  | _ => True

theorem Bears.mono {C : Caps} {n m : Int} (h : m ≤ n) : ∀ {l : List Nat}, Bears C n l → Bears C m l
  | [], _ => trivial
  | [_], _ => trivial
  | _ :: _ :: _, ⟨h1, h2⟩ => ⟨by omega, Bears.mono h h2⟩

theorem least_le (C : Caps) : ∀ (l : List Nat) (w : Int), least C l w ≤ w
  | [], w => by simp [least]
  | [_], w => by simp [least]
  | a :: b :: l, w => by
    have := least_le C (b :: l) (min w (C a b))
    rw [least]; omega

theorem least_bears (C : Caps) : ∀ (l : List Nat) (w : Int), Bears C (least C l w) l
  | [], _ => trivial
  | [_], _ => trivial
  | a :: b :: l, w => by
    rw [least]
    refine ⟨?_, least_bears C (b :: l) _⟩
    have := least_le C (b :: l) (min w (C a b))
    omega

theorem least_pos (C : Caps) : ∀ (l : List Nat) (w : Int), Chain C l → 1 ≤ w → 1 ≤ least C l w
  | [], _, _, h => by simpa [least] using h
  | [_], _, _, h => by simpa [least] using h
  | a :: b :: l, w, hc, h => by
    rw [least]
    have h1 := hc.1
    exact least_pos C (b :: l) _ hc.2 (by omega)

/-- Pushes that may be done, one behind the other. -/
def Valid : Caps → List Fl → Prop
  | _, [] => True
  | C, x :: ps => x.ok ∧ 1 ≤ x.n ∧ x.n ≤ C x.f x.t ∧ Valid (push C x.f x.t x.n) ps

theorem Valid.append : ∀ {C : Caps} {ps qs : List Fl}, Valid C ps → Valid (pushAll C ps) qs → Valid C (ps ++ qs)
  | _, [], _, _, h => h
  | _, _ :: _, _, ⟨h1, h2, h3, h4⟩, h => ⟨h1, h2, h3, Valid.append h4 h⟩

theorem Valid.oks : ∀ {C : Caps} {ps : List Fl}, Valid C ps → ∀ x ∈ ps, x.ok
  | _, [], _, _, h => by simp at h
  | _, y :: ps, ⟨h1, _, _, h4⟩, x, h => by
    rcases List.mem_cons.1 h with rfl | h
    · exact h1
    · exact Valid.oks h4 x h

theorem push_other {C : Caps} {f t a b : Nat} {n : Int} (h1 : a ≠ f ∨ b ≠ t) (h2 : a ≠ t ∨ b ≠ f) : push C f t n a b = C a b := by
  unfold push
  rw [if_neg (by omega), if_neg (by omega)]
theorem push_there {C : Caps} {f t : Nat} {n : Int} : push C f t n f t = C f t - n := by simp [push]
theorem push_back {C : Caps} {f t : Nat} {n : Int} (h : f ≠ t) : push C f t n t f = C t f + n := by
  unfold push
  rw [if_neg (by omega), if_pos (by simp)]

theorem Bears.push {C : Caps} {n m : Int} {a b : Nat} : ∀ {l : List Nat}, a ∉ l → Bears C n l → Bears (push C a b m) n l
  | [], _, _ => trivial
  | [_], _, _ => trivial
  | x :: y :: l, hn, ⟨h1, h2⟩ => by
    simp only [List.mem_cons, not_or] at hn
    refine ⟨?_, Bears.push (by simp [hn]) h2⟩
    rw [push_other (by omega) (by omega)]; exact h1

theorem along_valid {n : Int} (hn : 1 ≤ n) : ∀ {l : List Nat} {C : Caps}, Bears C n l → l.Nodup → (∀ p ∈ l, p ∈ P16) → Valid C (along l n)
  | [], _, _, _, _ => trivial
  | [_], _, _, _, _ => trivial
  | a :: b :: l, C, ⟨h1, h2⟩, hd, hp => by
    rw [List.nodup_cons] at hd
    refine ⟨⟨hp a (by simp), hp b (by simp), ?_⟩, hn, h1, along_valid hn (h2.push hd.1) hd.2 (fun p h => hp p (by simp [h]))⟩
    show a ≠ b
    rintro rfl; exact hd.1 (by simp)

/-- Capacities as a graph has them: none below 0, both ways of a pair together B at most, none of who is no party, or to oneself. -/
structure CapOk (B : Int) (C : Caps) : Prop where
  nonneg : ∀ a b, 0 ≤ C a b
  pair : ∀ a b, C a b + C b a ≤ B
  off : ∀ a b, a ∉ P16 ∨ b ∉ P16 ∨ a = b → C a b = 0

theorem CapOk.le {B : Int} {C : Caps} (h : CapOk B C) (a b : Nat) : C a b ≤ B := by
  have h1 := h.pair a b; have h2 := h.nonneg b a; omega

theorem CapOk.push {B : Int} {C : Caps} (h : CapOk B C) {x : Fl} (hx : x.ok) (h1 : 1 ≤ x.n) (h2 : x.n ≤ C x.f x.t) : CapOk B (push C x.f x.t x.n) := by
  obtain ⟨hf, ht, hne⟩ := hx
  refine ⟨?_, ?_, ?_⟩
  · intro a b
    have h0 := h.nonneg a b
    unfold Pl.push
    split
    · rename_i e; obtain ⟨rfl, rfl⟩ := e; omega
    · split <;> omega
  · intro a b
    have hp := h.pair a b
    by_cases e1 : a = x.f ∧ b = x.t
    · obtain ⟨rfl, rfl⟩ := e1
      rw [push_there, push_back hne]; omega
    · by_cases e2 : a = x.t ∧ b = x.f
      · obtain ⟨rfl, rfl⟩ := e2
        rw [push_there, push_back hne]; omega
      · rw [push_other (by omega) (by omega), push_other (by omega) (by omega)]; exact hp
  · intro a b hab
    rw [push_other]
    · exact h.off a b hab
    · by_cases e : a = x.f
      · subst e
        refine .inr ?_
        rintro rfl
        rcases hab with e | e | e
        · exact e hf
        · exact e ht
        · exact hne e
      · exact .inl e
    · by_cases e : a = x.t
      · subst e
        refine .inr ?_
        rintro rfl
        rcases hab with e | e | e
        · exact e ht
        · exact e hf
        · exact hne e.symm
      · exact .inl e

theorem CapOk.pushAll {B : Int} {ps : List Fl} : ∀ {C : Caps}, CapOk B C → Valid C ps → CapOk B (Pl.pushAll C ps) := by
  induction ps with
  | nil => intro C h _; exact h
  | cons x ps ih =>
    intro C h hv
    obtain ⟨h1, h2, h3, h4⟩ := hv
    exact ih (h.push h1 h2 h3) h4

/-- The route: its pushes; how much it got; what is left of the capacities. (So many rounds at most.) -/
def route (s t : Nat) : Nat → Caps → Int → List Fl × Int × Caps
  | 0, C, _ => ([], 0, C)
  | k + 1, C, w =>
    if w ≤ 0 then ([], 0, C) else
    match short C s t with
    | [] => ([], 0, C)
    | a :: l =>
      let n := least C (a :: l) w
      let r := route s t k (pushAll C (along (a :: l) n)) (w - n)
      (along (a :: l) n ++ r.1, n + r.2.1, r.2.2)

theorem route_done (s t : Nat) (k : Nat) (C : Caps) {w : Int} (h : w ≤ 0) : route s t k C w = ([], 0, C) := by
  cases k
  · rfl
  · rw [route, if_pos h]
theorem route_none (s t : Nat) (k : Nat) {C : Caps} (w : Int) (h : short C s t = []) : route s t k C w = ([], 0, C) := by
  cases k
  · rfl
  · rw [route, h]; split <;> rfl
theorem route_step (s t : Nat) (k : Nat) {C : Caps} {w : Int} (hw : 0 < w) {a : Nat} {l : List Nat} (h : short C s t = a :: l) :
    route s t (k + 1) C w = (along (a :: l) (least C (a :: l) w) ++ (route s t k (pushAll C (along (a :: l) (least C (a :: l) w))) (w - least C (a :: l) w)).1,
      least C (a :: l) w + (route s t k (pushAll C (along (a :: l) (least C (a :: l) w))) (w - least C (a :: l) w)).2.1,
      (route s t k (pushAll C (along (a :: l) (least C (a :: l) w))) (w - least C (a :: l) w)).2.2) := by
  rw [route, h, if_neg (by omega)]

/-- What a round of the route does. -/
structure Round (C : Caps) (s t : Nat) (w : Int) (l : List Nat) : Prop where
  pos : 1 ≤ least C l w
  le : least C l w ≤ w
  valid : Valid C (along l (least C l w))
  into : ∀ S, into (along l (least C l w)) S = least C l w * (ind S t - ind S s)

theorem round_of {C : Caps} {s t : Nat} {w : Int} (hw : 0 < w) (h : short C s t ≠ []) : Round C s t w (short C s t) := by
  have hW := short_way h
  generalize short C s t = l at hW h
  obtain ⟨c, hf, hl, hp, hd, hne⟩ := hW
  refine ⟨least_pos C l w c (by omega), least_le C l w, along_valid (least_pos C l w c (by omega)) (least_bears C l w) hd hp, fun S => ?_⟩
  cases l with
  | nil => exact absurd rfl h
  | cons a l =>
    simp at hf; subst hf
    exact into_along S _ l a t hl

/-- The route's pushes may be done; what it got has moved; it got what was wanted, or there is no way left. -/
structure Routed (C : Caps) (s t : Nat) (w : Int) (r : List Fl × Int × Caps) : Prop where
  valid : Valid C r.1
  caps : r.2.2 = pushAll C r.1
  into : ∀ S, into r.1 S = r.2.1 * (ind S t - ind S s)
  nonneg : 0 ≤ r.2.1
  le : r.2.1 ≤ max w 0
  full : r.2.1 = w ∨ short r.2.2 s t = [] ∨ w ≤ 0

theorem routed (s t : Nat) : ∀ (k : Nat) (C : Caps) (w : Int), w ≤ k → Routed C s t w (route s t k C w)
  | k, C, w, hk => by
    by_cases hw : w ≤ 0
    · rw [route_done s t k C hw]
      exact ⟨trivial, rfl, fun S => by simp, by simp, by simp; omega, .inr (.inr hw)⟩
    · by_cases hs : short C s t = []
      · rw [route_none s t k w hs]
        exact ⟨trivial, rfl, fun S => by simp, by simp, by simp; omega, .inr (.inl hs)⟩
      · cases k with
        | zero => omega
        | succ k =>
          have hR := round_of (w := w) (by omega) hs
          obtain ⟨a, l, e⟩ : ∃ a l, short C s t = a :: l := by
            cases hh : short C s t with
            | nil => exact absurd hh hs
            | cons a l => exact ⟨a, l, rfl⟩
          rw [route_step s t k (by omega) e]
          rw [e] at hR
          obtain ⟨r1, r2, r3, r4⟩ := hR
          generalize least C (a :: l) w = n at *
          have ih := routed s t k (pushAll C (along (a :: l) n)) (w - n) (by omega)
          generalize route s t k (pushAll C (along (a :: l) n)) (w - n) = r at ih
          obtain ⟨i1, i2, i3, i4, i5, i6⟩ := ih
          refine ⟨r3.append i1, ?_, ?_, ?_, ?_, ?_⟩
          · rw [pushAll_append]; exact i2
          · intro S
            rw [into_append, r4, i3, ← Int.add_mul]
          · show 0 ≤ n + r.2.1; omega
          · show n + r.2.1 ≤ _; omega
          · show n + r.2.1 = w ∨ _
            rcases i6 with h | h | h
            · left; omega
            · exact .inr (.inl h)
            · left; omega

/-- Whatever is taken, from among them, to not: no more goes. -/
theorem Routed.le_cut {B : Int} {C : Caps} {s t : Nat} {w : Int} {r : List Fl × Int × Caps} (h : Routed C s t w r) (hC : CapOk B C) {S : Nat → Bool} (hs : S s = true) (ht : S t = false) :
    r.2.1 ≤ cut C S ∧ cut r.2.2 S = cut C S - r.2.1 := by
  have e := cut_pushAll r.1 S h.valid.oks C
  have hg := (hC.pushAll h.valid).nonneg
  have h0 := cut_nonneg hg S
  rw [h.into S] at e
  have hi : ind S t - ind S s = -1 := by simp [ind, hs, ht]
  rw [hi] at e
  rw [h.caps]
  omega

theorem cut_zero {C : Caps} {S : Nat → Bool} (h : ∀ a ∈ P16, ∀ b ∈ P16, S a = true → S b = false → C a b ≤ 0) : cut C S ≤ 0 := by
  have : cut C S ≤ sum P16 (fun _ => sum P16 (fun _ => 0)) := by
    unfold cut
    refine sum_le fun a ha => sum_le fun b hb => ?_
    split
    · rename_i e
      simp at e
      exact h a ha b hb e.1 e.2
    · omega
  simpa [sum_zero] using this

/-- Where less was got than wanted, some cut lets out no more. -/
theorem Routed.cut {B : Int} {C : Caps} {s t : Nat} {w : Int} {r : List Fl × Int × Caps} (h : Routed C s t w r) (hC : CapOk B C) (hs : s ∈ P16) (ht : t ∈ P16) (hne : s ≠ t) (hw : 0 ≤ w) (hlt : r.2.1 < w) :
    ∃ S : Nat → Bool, S s = true ∧ S t = false ∧ Pl.cut C S = r.2.1 := by
  have hn : short r.2.2 s t = [] := by
    rcases h.full with e | e | e
    · omega
    · exact e
    · have := h.nonneg; omega
  obtain ⟨S, h1, h2, h3⟩ := short_none hs ht hne hn
  have hz := cut_zero h3
  have h0 := cut_nonneg ((hC.pushAll h.valid).nonneg) S
  rw [← h.caps] at h0
  have := (h.le_cut hC h1 h2).2
  exact ⟨S, h1, h2, by omega⟩

theorem sum_const (l : List Nat) (c : Int) : sum l (fun _ => c) = l.length * c := by
  induction l with
  | nil => simp
  | cons a l ih => simp only [sum_cons, ih, List.length_cons, Int.natCast_succ, Int.add_mul]; omega

theorem cut_le {B : Int} (hB : 0 ≤ B) {C : Caps} (hC : CapOk B C) (S : Nat → Bool) : Pl.cut C S ≤ 256 * B := by
  have : Pl.cut C S ≤ sum P16 (fun _ => sum P16 (fun _ => B)) := by
    unfold Pl.cut
    refine sum_le fun a ha => sum_le fun b hb => ?_
    split
    · exact hC.le a b
    · exact hB
  rw [sum_const, sum_const] at this
  simp [P16] at this
  omega

/-- The most that goes. -/
def mostOf (C : Caps) (s t : Nat) : Int := (route s t 9223372036854775807 C 9223372036854775807).2.1

theorem most_facts {B : Int} (hB : 0 ≤ B) (hB' : B < 36028797018963968) {C : Caps} (hC : CapOk B C) {s t : Nat} (hs : s ∈ P16) (ht : t ∈ P16) (hne : s ≠ t) {k : Nat} {w : Int} (hk : w ≤ k) (hw : 256 * B < w) :
    0 ≤ (route s t k C w).2.1 ∧ (∀ S : Nat → Bool, S s = true → S t = false → (route s t k C w).2.1 ≤ cut C S) ∧ ∃ S : Nat → Bool, S s = true ∧ S t = false ∧ cut C S = (route s t k C w).2.1 := by
  have h := routed s t k C w hk
  refine ⟨h.nonneg, fun S h1 h2 => (h.le_cut hC h1 h2).1, ?_⟩
  refine h.cut hC hs ht hne (by omega) ?_
  have h1 : (fun p => decide (p = s)) s = true := by simp
  have h2 : (fun p => decide (p = s)) t = false := by simp [Ne.symm hne]
  have := (h.le_cut (S := fun p => decide (p = s)) hC h1 h2).1
  have := cut_le hB hC (fun p => decide (p = s))
  omega

theorem most_unique {C : Caps} {s t : Nat} {m n : Int} (hm : ∀ S : Nat → Bool, S s = true → S t = false → m ≤ cut C S) (hm' : ∃ S : Nat → Bool, S s = true ∧ S t = false ∧ cut C S = m)
    (hn : ∀ S : Nat → Bool, S s = true → S t = false → n ≤ cut C S) (hn' : ∃ S : Nat → Bool, S s = true ∧ S t = false ∧ cut C S = n) : m = n := by
  obtain ⟨S, h1, h2, h3⟩ := hm'
  obtain ⟨T, k1, k2, k3⟩ := hn'
  have := hm T k1 k2
  have := hn S h1 h2
  omega

end Go.Proofs.Ytofnaigkfhfhoaa.Pl
