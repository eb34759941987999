/-
  Plain law: what holds between two rounds of the route, and that it comes to 'route'.
-/
import Derived.Test.YtfpdkeokdojejaaPlBound
namespace Go.Proofs.Ytfpdkeokdojejaa.Pl

attribute [local irreducible] hops

/-- k rounds are over: the capacities now, the pushes, what is got. -/
structure RS (C0 : Caps) (s t K0 : Nat) (w : Int) (k : Nat) (C : Caps) (ps : List Fl) (got : Int) : Prop where
  good : CapOk 4398046511104 C
  nn : (k : Int) ≤ got
  le : got ≤ w
  fuel : w ≤ K0
  num : ps.length ≤ 15 * k
  few : k ≤ 70161
  pot : got < w → k ≤ phi C (hops C t)
  rest : route s t K0 C0 w = (ps ++ (route s t (K0 - k) C (w - got)).1, got + (route s t (K0 - k) C (w - got)).2.1, (route s t (K0 - k) C (w - got)).2.2)

theorem RS.start {C : Caps} (s t K0 : Nat) {w : Int} (hC : CapOk 4398046511104 C) (hw : 0 ≤ w) (hk : w ≤ K0) : RS C s t K0 w 0 C [] 0 :=
  ⟨hC, by simp, hw, hk, by simp, by omega, fun _ => Nat.zero_le _, by simp⟩

theorem along_length : ∀ (l : List Nat) (n : Int), (along l n).length = l.length - 1
  | [], _ => rfl
  | [_], _ => rfl
  | a :: b :: l, n => by
    have := along_length (b :: l) n
    show (along (b :: l) n).length + 1 = _
    rw [this]; simp

theorem RS.step {C0 C : Caps} {s t K0 k : Nat} {w got : Int} {ps : List Fl} (h : RS C0 s t K0 w k C ps got) (ht : t ∈ P16) (hlt : got < w) (hs : short C s t ≠ []) :
    RS C0 s t K0 w (k + 1) (pushAll C (along (short C s t) (least C (short C s t) (w - got)))) (ps ++ along (short C s t) (least C (short C s t) (w - got))) (got + least C (short C s t) (w - got)) := by
  have hR := round_of (w := w - got) (by omega) hs
  have hW := short_way hs
  have hlen : (short C s t).length ≤ 16 := length_le16 hW.nodup hW.inP
  have hrise := round_rises (w := w - got) ht hs (by have := hR.pos; omega)
  have hp := h.pot hlt
  have hphi := phi_le (hops_dist C ht)
  have hnum := h.num
  have hf := h.fuel
  have hnn := h.nn
  obtain ⟨a, l, e⟩ : ∃ a l, short C s t = a :: l := by
    cases hh : short C s t with
    | nil => exact absurd hh hs
    | cons a l => exact ⟨a, l, rfl⟩
  have hstep := route_step s t (K0 - (k + 1)) (C := C) (w := w - got) (by omega) e
  rw [show K0 - (k + 1) + 1 = K0 - k from by omega] at hstep
  have hrest := h.rest
  rw [hstep] at hrest
  rw [← e] at hrest
  have hgood := h.good.pushAll hR.valid
  have h1 := hR.pos
  have h2 := hR.le
  have hal := along_length (short C s t) (least C (short C s t) (w - got))
  generalize least C (short C s t) (w - got) = n at *
  refine ⟨hgood, by simp; omega, by omega, hf, by rw [List.length_append, hal]; omega, by omega, fun hlt2 => ?_, ?_⟩
  · have := hrise (by omega); omega
  · rw [hrest, show w - (got + n) = w - got - n from by omega, List.append_assoc, Int.add_assoc]

/-- It got what is wanted: that is the route. -/
theorem RS.full {C0 C : Caps} {s t K0 k : Nat} {w : Int} {ps : List Fl} (h : RS C0 s t K0 w k C ps w) : route s t K0 C0 w = (ps, w, C) := by
  have := h.rest
  rw [route_done s t _ C (by omega)] at this
  simpa using this
/-- There is no way left: that is the route. -/
theorem RS.none {C0 C : Caps} {s t K0 k : Nat} {w got : Int} {ps : List Fl} (h : RS C0 s t K0 w k C ps got) (hs : short C s t = []) : route s t K0 C0 w = (ps, got, C) := by
  have := h.rest
  rw [route_none s t _ _ hs] at this
  simpa using this

/-- One round, by the way that came. -/
def stepR (w : Int) (r : Caps × List Fl × Int) (l : List Nat) : Caps × List Fl × Int :=
  (pushAll r.1 (along l (least r.1 l (w - r.2.2))), r.2.1 ++ along l (least r.1 l (w - r.2.2)), r.2.2 + least r.1 l (w - r.2.2))
/-- Behind these ways. -/
def stR (C : Caps) (w : Int) (ls : List (List Nat)) : Caps × List Fl × Int := ls.foldl (stepR w) (C, [], 0)
theorem stR_nil (C : Caps) (w : Int) : stR C w [] = (C, [], 0) := rfl
theorem stR_snoc (C : Caps) (w : Int) (ls : List (List Nat)) (l : List Nat) : stR C w (ls ++ [l]) = stepR w (stR C w ls) l := by simp [stR, List.foldl_append]

/-- What holds behind these ways. -/
def RSL (C0 : Caps) (s t K0 : Nat) (w : Int) (ls : List (List Nat)) : Prop := RS C0 s t K0 w ls.length (stR C0 w ls).1 (stR C0 w ls).2.1 (stR C0 w ls).2.2
theorem RSL.start {C : Caps} (s t K0 : Nat) {w : Int} (hC : CapOk 4398046511104 C) (hw : 0 ≤ w) (hk : w ≤ K0) : RSL C s t K0 w [] := RS.start s t K0 hC hw hk
theorem RSL.step {C0 : Caps} {s t K0 : Nat} {w : Int} {ls : List (List Nat)} {l : List Nat} (h : RSL C0 s t K0 w ls) (ht : t ∈ P16) (hlt : (stR C0 w ls).2.2 < w) (hl : l = short (stR C0 w ls).1 s t) (hne : l ≠ []) : RSL C0 s t K0 w (ls ++ [l]) := by
  subst hl
  unfold RSL
  rw [stR_snoc, List.length_append]
  exact RS.step h ht hlt hne

theorem along_take : ∀ (l : List Nat) (n : Int) (k : Nat) (h : k + 1 < l.length), along (l.take (k + 2)) n = along (l.take (k + 1)) n ++ [⟨l[k], l[k + 1], n⟩]
  | [], _, _, h => by simp at h
  | [_], _, _, h => by simp at h
  | a :: b :: l, n, 0, _ => by simp [along]
  | a :: b :: l, n, k + 1, h => by
    have ih := along_take (b :: l) n k (by simpa using h)
    have e1 : (a :: b :: l).take (k + 1 + 2) = a :: (b :: l).take (k + 2) := rfl
    have e2 : (a :: b :: l).take (k + 1 + 1) = a :: (b :: l).take (k + 1) := rfl
    rw [e1, e2]
    have e3 : (b :: l).take (k + 2) = b :: l.take (k + 1) := rfl
    have e4 : (b :: l).take (k + 1) = b :: l.take k := rfl
    rw [e3, e4] at ih ⊢
    have c1 : along (a :: b :: l.take (k + 1)) n = ⟨a, b, n⟩ :: along (b :: l.take (k + 1)) n := rfl
    have c2 : along (a :: b :: l.take k) n = ⟨a, b, n⟩ :: along (b :: l.take k) n := rfl
    rw [c1, c2, ih]
    rfl
theorem valid_at {x : Fl} {ys : List Fl} : ∀ {xs : List Fl} {C : Caps}, Valid C (xs ++ x :: ys) → 1 ≤ x.n ∧ x.n ≤ pushAll C xs x.f x.t
  | [], _, h => ⟨h.2.1, h.2.2.1⟩
  | y :: xs, C, h => by
    have h' : Valid (push C y.f y.t y.n) (xs ++ x :: ys) := h.2.2.2
    have r := valid_at (xs := xs) h'
    exact r
end Go.Proofs.Ytfpdkeokdojejaa.Pl
