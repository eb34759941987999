/-
  Plain law: how often the shortest way is taken at most: a potential that rises each time.
  Plain law: what holds between two rounds of the route, and that it comes to 'route'.
  Plain law: who is reached over edges that have a capacity, as bits of a number, by passes over all pairs.
  Plain law: what the route's pushes come to for each party; how many there are; who is reached behind it.
-/
import Derived.Test.YtofnaigkfhfhoaaPlFlow
namespace Go.Proofs.Ytofnaigkfhfhoaa.Pl

/-- Distances never fall, when edges are new only against the way. -/
theorem dist_mono {C D : Caps} {t : Nat} {d e : Nat → Nat} (hd : Dist C t d) (he : Dist D t e) (hnew : ∀ a b, 0 < D a b → 0 < C a b ∨ d b = d a + 1) : ∀ p, d p ≤ e p ∨ e p = 17 := by
  have key : ∀ n p, e p = n → e p ≠ 17 → d p ≠ 17 ∧ d p ≤ e p := by
    intro n
    induction n with
    | zero =>
      intro p hp h17
      have : p = t := Classical.byContradiction fun hne => by
        obtain ⟨r, _, h1, _⟩ := he.parent p h17 hne
        omega
      subst this
      rw [hd.zero]; omega
    | succ n ih =>
      intro p hp h17
      have hne : p ≠ t := by rintro rfl; rw [he.zero] at hp; omega
      obtain ⟨r, hr, h1, hD⟩ := he.parent p h17 hne
      obtain ⟨i1, i2⟩ := ih r (by omega) hr
      rcases hnew p r hD with hC | hr2
      · obtain ⟨j1, j2⟩ := hd.edge r p i1 (he.inP p h17) hC
        exact ⟨j1, by omega⟩
      · have := hd.small r i1
        exact ⟨by omega, by omega⟩
  intro p
  by_cases h : e p = 17
  · exact .inr h
  · exact .inl (key _ p rfl h).2

def pairs : List (Nat × Nat) := P16.flatMap fun a => P16.map fun b => (a, b)
theorem mem_pairs {a b : Nat} (ha : a ∈ P16) (hb : b ∈ P16) : (a, b) ∈ pairs := by
  unfold pairs
  rw [List.mem_flatMap]
  exact ⟨a, ha, List.mem_map.2 ⟨b, hb, rfl⟩⟩
theorem pairs_len : pairs.length = 256 := by decide +kernel
def admB (C : Caps) (d : Nat → Nat) (x : Nat × Nat) : Bool := decide (0 < C x.1 x.2 ∧ d x.1 = d x.2 + 1)
/-- How many edges lead a step nearer. -/
def adm (C : Caps) (d : Nat → Nat) : Nat := pairs.countP (admB C d)
theorem adm_le (C : Caps) (d : Nat → Nat) : adm C d ≤ 256 := by
  have := List.countP_le_length (p := admB C d) (l := pairs)
  rwa [pairs_len] at this
def dsum (d : Nat → Nat) : Nat := (P16.map d).sum

theorem sum_le_of {l : List Nat} {f g : Nat → Nat} (h : ∀ p ∈ l, f p ≤ g p) : (l.map f).sum ≤ (l.map g).sum := by
  induction l with
  | nil => simp
  | cons a l ih =>
    have h1 := h a (by simp)
    have h2 := ih fun p hp => h p (by simp [hp])
    simp only [List.map_cons, List.sum_cons]; omega
theorem sum_lt_of {l : List Nat} {f g : Nat → Nat} (h : ∀ p ∈ l, f p ≤ g p) {q : Nat} (hq : q ∈ l) (hlt : f q < g q) : (l.map f).sum < (l.map g).sum := by
  induction l with
  | nil => simp at hq
  | cons a l ih =>
    have h1 := h a (by simp)
    have h2 : ∀ p ∈ l, f p ≤ g p := fun p hp => h p (by simp [hp])
    simp only [List.map_cons, List.sum_cons]
    by_cases e : q = a
    · subst e
      have := sum_le_of h2; omega
    · have := ih h2 (by simpa [e] using hq); omega
theorem countP_lt {l : List (Nat × Nat)} {p q : Nat × Nat → Bool} (h : ∀ x ∈ l, q x = true → p x = true) {y : Nat × Nat} (hy : y ∈ l) (h1 : p y = true) (h2 : q y = false) : l.countP q < l.countP p := by
  induction l with
  | nil => simp at hy
  | cons a l ih =>
    have hl : ∀ x ∈ l, q x = true → p x = true := fun x hx => h x (by simp [hx])
    have hle : l.countP q ≤ l.countP p := List.countP_mono_left hl
    rw [List.countP_cons, List.countP_cons]
    by_cases e : y = a
    · subst e
      rw [h1, h2]; simp; omega
    · have := ih hl (by simpa [e] using hy)
      have ha := h a (by simp)
      cases hqa : q a with
      | false => simp; split <;> omega
      | true => rw [ha hqa]; simp; omega

/-- What rises with each round. -/
def phi (C : Caps) (d : Nat → Nat) : Nat := 257 * dsum d + (256 - adm C d)
theorem Dist.le17 {C : Caps} {t : Nat} {d : Nat → Nat} (h : Dist C t d) (p : Nat) : d p ≤ 17 := by
  by_cases e : d p = 17
  · omega
  · have := h.small p e; omega
theorem phi_le {C : Caps} {t : Nat} {d : Nat → Nat} (h : Dist C t d) : phi C d ≤ 70160 := by
  have h1 : dsum d ≤ (P16.map fun _ => 17).sum := sum_le_of fun p _ => h.le17 p
  have h2 : (P16.map fun _ => 17).sum = 272 := by decide +kernel
  unfold phi; omega

theorem phi_rises {C D : Caps} {t : Nat} {d e : Nat → Nat} (hd : Dist C t d) (he : Dist D t e) (hnew : ∀ a b, 0 < D a b → 0 < C a b ∨ d b = d a + 1)
    {a b : Nat} (ha : a ∈ P16) (hb : b ∈ P16) (h1 : 0 < C a b) (h2 : d a = d b + 1) (h3 : D a b ≤ 0) : phi C d < phi D e := by
  have hle : ∀ p ∈ P16, d p ≤ e p := fun p _ => by
    rcases dist_mono hd he hnew p with h | h
    · exact h
    · rw [h]; exact hd.le17 p
  have ha1 := adm_le C d
  have ha2 := adm_le D e
  by_cases hall : ∀ p ∈ P16, e p = d p
  · have hs : dsum e = dsum d := by
      unfold dsum
      rw [List.map_congr_left hall]
    have hlt : adm D e < adm C d := by
      refine countP_lt (fun x hx hq => ?_) (mem_pairs ha hb) ?_ ?_
      · unfold pairs at hx
        simp only [List.mem_flatMap, List.mem_map] at hx
        obtain ⟨u, hu, v, hv, rfl⟩ := hx
        unfold admB at hq ⊢
        simp only [decide_eq_true_eq] at hq ⊢
        rw [hall u hu, hall v hv] at hq
        rcases hnew u v hq.1 with h | h
        · exact ⟨h, hq.2⟩
        · omega
      · unfold admB; simp only [decide_eq_true_eq]; exact ⟨h1, h2⟩
      · unfold admB; simp only [decide_eq_false_iff_not]; exact fun h => by omega
    unfold phi; omega
  · obtain ⟨p, hp⟩ := Classical.not_forall.1 hall
    obtain ⟨hp16, hne⟩ := Classical.not_imp.1 hp
    have hlt : dsum d < dsum e := sum_lt_of hle hp16 (by have := hle p hp16; omega)
    unfold phi; omega

/-- u is followed by v on the way. -/
def Con : List Nat → Nat → Nat → Prop
  | a :: b :: l, u, v => (u = a ∧ v = b) ∨ Con (b :: l) u v
  | _, _, _ => False
theorem Con.mem : ∀ {l : List Nat} {u v : Nat}, Con l u v → u ∈ l ∧ v ∈ l
  | [], _, _, h => h.elim
  | [_], _, _, h => h.elim
  | a :: b :: l, u, v, h => by
    rcases h with ⟨rfl, rfl⟩ | h
    · simp
    · have := Con.mem h
      exact ⟨List.mem_cons_of_mem _ this.1, List.mem_cons_of_mem _ this.2⟩
theorem pushAll_along (C : Caps) (a b : Nat) (l : List Nat) (n : Int) : pushAll C (along (a :: b :: l) n) = pushAll (push C a b n) (along (b :: l) n) := rfl
theorem along_far : ∀ {l : List Nat} {n : Int} {C : Caps} {u v : Nat}, (u ∉ l ∨ v ∉ l) → pushAll C (along l n) u v = C u v
  | [], _, _, _, _, _ => rfl
  | [_], _, _, _, _, _ => rfl
  | a :: b :: l, n, C, u, v, h => by
    rw [pushAll_along, along_far (l := b :: l) (by
      rcases h with h | h
      · exact .inl fun hm => h (List.mem_cons_of_mem _ hm)
      · exact .inr fun hm => h (List.mem_cons_of_mem _ hm))]
    refine push_other ?_ ?_
    · rcases h with h | h
      · left; rintro rfl; exact h (by simp)
      · right; rintro rfl; exact h (by simp)
    · rcases h with h | h
      · left; rintro rfl; exact h (by simp)
      · right; rintro rfl; exact h (by simp)
theorem along_new : ∀ {l : List Nat} {n : Int} {C : Caps} {u v : Nat}, 0 ≤ n → 0 < pushAll C (along l n) u v → 0 < C u v ∨ Con l v u
  | [], _, _, _, _, _, h => .inl h
  | [_], _, _, _, _, _, h => .inl h
  | a :: b :: l, n, C, u, v, hn, h => by
    rw [pushAll_along] at h
    rcases along_new hn h with h | h
    · unfold push at h
      split at h
      · left; rename_i e; rw [e.1, e.2]; rw [e.1, e.2] at h; omega
      · split at h
        · rename_i e; right; left; exact ⟨e.2, e.1⟩
        · exact .inl h
    · exact .inr (.inr h)
theorem along_step : ∀ {l : List Nat} {n : Int} {C : Caps} {u v : Nat}, l.Nodup → Con l u v → pushAll C (along l n) u v = C u v - n
  | [], _, _, _, _, _, h => h.elim
  | [_], _, _, _, _, _, h => h.elim
  | a :: b :: l, n, C, u, v, hd, h => by
    rw [List.nodup_cons] at hd
    rw [pushAll_along]
    rcases h with ⟨rfl, rfl⟩ | h
    · rw [along_far (.inl hd.1)]; exact push_there
    · rw [along_step hd.2 h]
      have hm := h.mem
      rw [push_other]
      · left; rintro rfl; exact hd.1 hm.1
      · right; rintro rfl; exact hd.1 hm.2
theorem least_full : ∀ {l : List Nat} {C : Caps} {w : Int}, least C l w < w → ∃ u v, Con l u v ∧ C u v = least C l w
  | [], C, w, h => by simp [least] at h
  | [_], C, w, h => by simp [least] at h
  | a :: b :: l, C, w, h => by
    rw [least] at h ⊢
    have hle := least_le C (b :: l) (min w (C a b))
    by_cases hlt : least C (b :: l) (min w (C a b)) < min w (C a b)
    · obtain ⟨u, v, h1, h2⟩ := least_full hlt
      exact ⟨u, v, .inr h1, h2⟩
    · exact ⟨a, b, .inl ⟨rfl, rfl⟩, by omega⟩
theorem way_con {C : Caps} {t : Nat} {d : Nat → Nat} (h : Dist C t d) : ∀ (k a : Nat), d a = k → d a ≠ 17 → ∀ {u v : Nat}, Con (way C d k a) u v → d u = d v + 1 ∧ 0 < C u v
  | 0, a, _, _, u, v, hc => hc.elim
  | k + 1, a, hk, h17, u, v, hc => by
    have hne : a ≠ t := by rintro rfl; rw [h.zero] at hk; omega
    have hs := nxt_spec h h17 hne
    have h15 := h.small a h17
    obtain ⟨l, hl⟩ := way_cons C d k (nxt C d a)
    have hw : way C d (k + 1) a = a :: way C d k (nxt C d a) := rfl
    rw [hw] at hc
    have hc' : (u = a ∧ v = nxt C d a) ∨ Con (way C d k (nxt C d a)) u v := by rw [hl] at hc ⊢; exact hc
    rcases hc' with ⟨rfl, rfl⟩ | hc'
    · exact ⟨by omega, hs.2.1⟩
    · exact way_con h k _ (by omega) (by omega) hc'

attribute [local irreducible] hops

/-- A round that does not get all that is wanted: the potential rises. -/
theorem round_rises {C : Caps} {s t : Nat} {w : Int} (ht : t ∈ P16) (h : short C s t ≠ []) (hn : 0 ≤ least C (short C s t) w) (hlt : least C (short C s t) w < w) :
    phi C (hops C t) < phi (pushAll C (along (short C s t) (least C (short C s t) w))) (hops (pushAll C (along (short C s t) (least C (short C s t) w))) t) := by
  have hW := short_way h
  have hd := hops_dist C ht
  have he := hops_dist (pushAll C (along (short C s t) (least C (short C s t) w))) ht
  have hcon : ∀ {u v : Nat}, Con (short C s t) u v → hops C t u = hops C t v + 1 ∧ 0 < C u v := by
    intro u v hc
    unfold short at hc h
    split at hc
    · rename_i hh
      exact way_con hd _ _ rfl hh.2.2.2 hc
    · exact hc.elim
  obtain ⟨u, v, h1, h2⟩ := least_full hlt
  obtain ⟨c1, c2⟩ := hcon h1
  have hm := h1.mem
  refine phi_rises hd he (fun a b hab => ?_) (hW.inP _ hm.1) (hW.inP _ hm.2) c2 c1 ?_
  · rcases along_new hn hab with h | h
    · exact .inl h
    · exact .inr (hcon h).1
  · rw [along_step hW.nodup h1, h2]; omega
end Go.Proofs.Ytofnaigkfhfhoaa.Pl
namespace Go.Proofs.Ytofnaigkfhfhoaa.Pl

attribute [local irreducible] hops

/-- k rounds are over: the capacities now, the pushes, what is got. -/
structure RS (C0 : Caps) (s t K0 : Nat) (w : Int) (k : Nat) (C : Caps) (ps : List Fl) (got : Int) : Prop where
  good : CapOk 4398046511104 C
  nn : (k : Int) ≤ got
  le : got ≤ w
  fuel : w ≤ K0
  num : ps.length ≤ 15 * k
  few : k ≤ 70161
  pot : got < w → k ≤ phi C (hops C t)
  rest : route s t K0 C0 w = (ps ++ (route s t (K0 - k) C (w - got)).1, got + (route s t (K0 - k) C (w - got)).2.1, (route s t (K0 - k) C (w - got)).2.2)

theorem RS.start {C : Caps} (s t K0 : Nat) {w : Int} (hC : CapOk 4398046511104 C) (hw : 0 ≤ w) (hk : w ≤ K0) : RS C s t K0 w 0 C [] 0 :=
  ⟨hC, by simp, hw, hk, by simp, by omega, fun _ => Nat.zero_le _, by simp⟩

theorem along_length : ∀ (l : List Nat) (n : Int), (along l n).length = l.length - 1
  | [], _ => rfl
  | [_], _ => rfl
  | a :: b :: l, n => by
    have := along_length (b :: l) n
    show (along (b :: l) n).length + 1 = _
    rw [this]; simp

theorem RS.step {C0 C : Caps} {s t K0 k : Nat} {w got : Int} {ps : List Fl} (h : RS C0 s t K0 w k C ps got) (ht : t ∈ P16) (hlt : got < w) (hs : short C s t ≠ []) :
    RS C0 s t K0 w (k + 1) (pushAll C (along (short C s t) (least C (short C s t) (w - got)))) (ps ++ along (short C s t) (least C (short C s t) (w - got))) (got + least C (short C s t) (w - got)) := by
  have hR := round_of (w := w - got) (by omega) hs
  have hW := short_way hs
  have hlen : (short C s t).length ≤ 16 := length_le16 hW.nodup hW.inP
  have hrise := round_rises (w := w - got) ht hs (by have := hR.pos; omega)
  have hp := h.pot hlt
  have hphi := phi_le (hops_dist C ht)
  have hnum := h.num
  have hf := h.fuel
  have hnn := h.nn
  obtain ⟨a, l, e⟩ : ∃ a l, short C s t = a :: l := by
    cases hh : short C s t with
    | nil => exact absurd hh hs
    | cons a l => exact ⟨a, l, rfl⟩
  have hstep := route_step s t (K0 - (k + 1)) (C := C) (w := w - got) (by omega) e
  rw [show K0 - (k + 1) + 1 = K0 - k from by omega] at hstep
  have hrest := h.rest
  rw [hstep] at hrest
  rw [← e] at hrest
  have hgood := h.good.pushAll hR.valid
  have h1 := hR.pos
  have h2 := hR.le
  have hal := along_length (short C s t) (least C (short C s t) (w - got))
  generalize least C (short C s t) (w - got) = n at *
  refine ⟨hgood, by simp; omega, by omega, hf, by rw [List.length_append, hal]; omega, by omega, fun hlt2 => ?_, ?_⟩
  · have := hrise (by omega); omega
  · rw [hrest, show w - (got + n) = w - got - n from by omega, List.append_assoc, Int.add_assoc]

/-- It got what is wanted: that is the route. -/
theorem RS.full {C0 C : Caps} {s t K0 k : Nat} {w : Int} {ps : List Fl} (h : RS C0 s t K0 w k C ps w) : route s t K0 C0 w = (ps, w, C) := by
  have := h.rest
  rw [route_done s t _ C (by omega)] at this
  simpa using this
/-- There is no way left: that is the route. -/
theorem RS.none {C0 C : Caps} {s t K0 k : Nat} {w got : Int} {ps : List Fl} (h : RS C0 s t K0 w k C ps got) (hs : short C s t = []) : route s t K0 C0 w = (ps, got, C) := by
  have := h.rest
  rw [route_none s t _ _ hs] at this
  simpa using this

/-- One round, by the way that came. -/
def stepR (w : Int) (r : Caps × List Fl × Int) (l : List Nat) : Caps × List Fl × Int :=
  (pushAll r.1 (along l (least r.1 l (w - r.2.2))), r.2.1 ++ along l (least r.1 l (w - r.2.2)), r.2.2 + least r.1 l (w - r.2.2))
/-- Behind these ways. -/
def stR (C : Caps) (w : Int) (ls : List (List Nat)) : Caps × List Fl × Int := ls.foldl (stepR w) (C, [], 0)
theorem stR_nil (C : Caps) (w : Int) : stR C w [] = (C, [], 0) := rfl
theorem stR_snoc (C : Caps) (w : Int) (ls : List (List Nat)) (l : List Nat) : stR C w (ls ++ [l]) = stepR w (stR C w ls) l := by simp [stR, List.foldl_append]

/-- What holds behind these ways. -/
def RSL (C0 : Caps) (s t K0 : Nat) (w : Int) (ls : List (List Nat)) : Prop := RS C0 s t K0 w ls.length (stR C0 w ls).1 (stR C0 w ls).2.1 (stR C0 w ls).2.2
theorem RSL.start {C : Caps} (s t K0 : Nat) {w : Int} (hC : CapOk 4398046511104 C) (hw : 0 ≤ w) (hk : w ≤ K0) : RSL C s t K0 w [] := RS.start s t K0 hC hw hk
theorem RSL.step {C0 : Caps} {s t K0 : Nat} {w : Int} {ls : List (List Nat)} {l : List Nat} (h : RSL C0 s t K0 w ls) (ht : t ∈ P16) (hlt : (stR C0 w ls).2.2 < w) (hl : l = short (stR C0 w ls).1 s t) (hne : l ≠ []) : RSL C0 s t K0 w (ls ++ [l]) := by
  subst hl
  unfold RSL
  rw [stR_snoc, List.length_append]
  exact RS.step h ht hlt hne

theorem along_take : ∀ (l : List Nat) (n : Int) (k : Nat) (h : k + 1 < l.length), along (l.take (k + 2)) n = along (l.take (k + 1)) n ++ [⟨l[k], l[k + 1], n⟩]
  | [], _, _, h => by simp at h
  | [_], _, _, h => by simp at h
  | a :: b :: l, n, 0, _ => by simp [along]
  | a :: b :: l, n, k + 1, h => by
    have ih := along_take (b :: l) n k (by simpa using h)
    have e1 : (a :: b :: l).take (k + 1 + 2) = a :: (b :: l).take (k + 2) := rfl
    have e2 : (a :: b :: l).take (k + 1 + 1) = a :: (b :: l).take (k + 1) := rfl
    rw [e1, e2]
    have e3 : (b :: l).take (k + 2) = b :: l.take (k + 1) := rfl
    have e4 : (b :: l).take (k + 1) = b :: l.take k := rfl
    rw [e3, e4] at ih ⊢
    have c1 : along (a :: b :: l.take (k + 1)) n = ⟨a, b, n⟩ :: along (b :: l.take (k + 1)) n := rfl
    have c2 : along (a :: b :: l.take k) n = ⟨a, b, n⟩ :: along (b :: l.take k) n := rfl
    rw [c1, c2, ih]
    rfl
theorem valid_at {x : Fl} {ys : List Fl} : ∀ {xs : List Fl} {C : Caps}, Valid C (xs ++ x :: ys) → 1 ≤ x.n ∧ x.n ≤ pushAll C xs x.f x.t
  | [], _, h => ⟨h.2.1, h.2.2.1⟩
  | y :: xs, C, h => by
    have h' : Valid (push C y.f y.t y.n) (xs ++ x :: ys) := h.2.2.2
    have r := valid_at (xs := xs) h'
    exact r
end Go.Proofs.Ytofnaigkfhfhoaa.Pl
namespace Go.Proofs.Ytofnaigkfhfhoaa.Pl

def reachS (C : Caps) (a : Nat) (m b : Nat) : Nat := if m.testBit a && decide (0 < C a b) then m ||| 2 ^ b else m
def reachR (C : Caps) (a j m : Nat) : Nat := (List.range' 1 j).foldl (reachS C a) m
def reachT (C : Caps) (k m : Nat) : Nat := (List.range' 1 k).foldl (fun m a => reachR C a 16 m) m
def reachN (C : Caps) : Nat → Nat → Nat
  | 0, m => m
  | n + 1, m => reachT C 16 (reachN C n m)
theorem reachR_zero (C : Caps) (a m : Nat) : reachR C a 0 m = m := rfl
theorem reachR_succ (C : Caps) (a j m : Nat) : reachR C a (j + 1) m = reachS C a (reachR C a j m) (j + 1) := by
  simp [reachR, List.range'_concat, Nat.add_comm]
theorem reachT_succ (C : Caps) (k m : Nat) : reachT C (k + 1) m = reachR C (k + 1) 16 (reachT C k m) := by
  simp [reachT, List.range'_concat, Nat.add_comm]

/-- All bits of m are bits of m'. -/
def Sub (m m' : Nat) : Prop := ∀ p, m.testBit p = true → m'.testBit p = true
theorem Sub.refl (m : Nat) : Sub m m := fun _ h => h
theorem Sub.trans {a b c : Nat} (h : Sub a b) (k : Sub b c) : Sub a c := fun p hp => k p (h p hp)
theorem tb_or (m b p : Nat) : (m ||| 2 ^ b).testBit p = (m.testBit p || decide (b = p)) := by
  rw [Nat.testBit_or, Nat.testBit_two_pow]
theorem reachS_sub (C : Caps) (a m b : Nat) : Sub m (reachS C a m b) := by
  intro p h
  unfold reachS
  split
  · rw [tb_or, h]; rfl
  · exact h
theorem foldl_sub {f : Nat → Nat → Nat} (hf : ∀ m b, Sub m (f m b)) : ∀ (l : List Nat) (m : Nat), Sub m (l.foldl f m)
  | [], m => Sub.refl m
  | b :: l, m => (hf m b).trans (foldl_sub hf l (f m b))
theorem foldl_at {f : Nat → Nat → Nat} (hf : ∀ m b, Sub m (f m b)) {Q : Nat → Prop} (hQ : ∀ m m', Sub m m' → Q m → Q m') {x : Nat} : ∀ (l : List Nat) (m : Nat), x ∈ l → (∀ m', Sub m m' → Q (f m' x)) → Q (l.foldl f m)
  | b :: l, m, hx, h => by
    by_cases e : x = b
    · subst e
      exact hQ _ _ (foldl_sub hf l (f m x)) (h m (Sub.refl m))
    · exact foldl_at hf hQ l (f m b) (by simpa [e] using hx) (fun m' hm => h m' ((hf m b).trans hm))
theorem reachR_sub (C : Caps) (a j m : Nat) : Sub m (reachR C a j m) := foldl_sub (reachS_sub C a) _ m
theorem reachT_sub (C : Caps) (k m : Nat) : Sub m (reachT C k m) := foldl_sub (fun m a => reachR_sub C a 16 m) _ m
theorem reachN_sub (C : Caps) : ∀ (n m : Nat), Sub m (reachN C n m)
  | 0, m => Sub.refl m
  | n + 1, m => (reachN_sub C n m).trans (reachT_sub C 16 _)

/-- Nobody who is in lets out to who is not. -/
def Closed (C : Caps) (m : Nat) : Prop := ∀ a ∈ P16, ∀ b ∈ P16, m.testBit a = true → 0 < C a b → m.testBit b = true

theorem reachT_new {C : Caps} {m a b : Nat} (ha : a ∈ P16) (hb : b ∈ P16) (h : m.testBit a = true) (hC : 0 < C a b) : (reachT C 16 m).testBit b = true := by
  refine foldl_at (Q := fun m => m.testBit b = true) (fun m a => reachR_sub C a 16 m) (fun m m' hs h => hs b h) (x := a) _ m ha fun m' hm => ?_
  refine foldl_at (Q := fun m => m.testBit b = true) (reachS_sub C a) (fun m m' hs h => hs b h) (x := b) _ m' hb fun m2 hm2 => ?_
  unfold reachS
  rw [if_pos (by simp [hm2 a (hm a h), hC]), tb_or]
  simp

theorem foldl_keep {f : Nat → Nat → Nat} : ∀ (l : List Nat) (m : Nat), (∀ b ∈ l, f m b = m) → l.foldl f m = m
  | [], _, _ => rfl
  | b :: l, m, h => by
    rw [List.foldl_cons, h b (by simp)]
    exact foldl_keep l m fun c hc => h c (by simp [hc])
theorem or_same {m b : Nat} (h : m.testBit b = true) : m ||| 2 ^ b = m := by
  refine Nat.eq_of_testBit_eq fun p => ?_
  rw [tb_or]
  by_cases e : b = p
  · subst e; simp [h]
  · simp [e]
theorem reachT_closed {C : Caps} {m : Nat} (h : Closed C m) : reachT C 16 m = m := by
  refine foldl_keep _ m fun a ha => foldl_keep _ m fun b hb => ?_
  unfold reachS
  split
  · rename_i e
    simp at e
    exact or_same (h a ha b hb e.1 e.2)
  · rfl

/-- What bounds it: whoever holds m and lets nobody out. -/
theorem reachS_in {C : Caps} {S : Nat → Bool} (hS : ∀ a ∈ P16, ∀ b ∈ P16, S a = true → S b = false → C a b ≤ 0) {a m b : Nat} (ha : a ∈ P16) (hb : b ∈ P16) (h : ∀ p, m.testBit p = true → S p = true) : ∀ p, (reachS C a m b).testBit p = true → S p = true := by
  intro p hp
  unfold reachS at hp
  split at hp
  · rename_i e
    simp at e
    rw [tb_or] at hp
    simp at hp
    rcases hp with hp | rfl
    · exact h p hp
    · cases hs : S b with
      | true => rfl
      | false => have := hS a ha b hb (h a e.1) hs; omega
  · exact h p hp
theorem foldl_in {f : Nat → Nat → Nat} {Q : Nat → Prop} : ∀ (l : List Nat) (m : Nat), (∀ b ∈ l, ∀ m, Q m → Q (f m b)) → Q m → Q (l.foldl f m)
  | [], _, _, h => h
  | b :: l, m, hf, h => foldl_in l (f m b) (fun c hc => hf c (by simp [hc])) (hf b (by simp) m h)
theorem reachT_in {C : Caps} {S : Nat → Bool} (hS : ∀ a ∈ P16, ∀ b ∈ P16, S a = true → S b = false → C a b ≤ 0) {m : Nat} (h : ∀ p, m.testBit p = true → S p = true) : ∀ p, (reachT C 16 m).testBit p = true → S p = true :=
  foldl_in (Q := fun m => ∀ p, m.testBit p = true → S p = true) _ m (fun _ ha m hm => foldl_in (Q := fun m => ∀ p, m.testBit p = true → S p = true) _ m (fun _ hb _ hm => reachS_in hS ha hb hm) hm) h
theorem reachN_in {C : Caps} {S : Nat → Bool} (hS : ∀ a ∈ P16, ∀ b ∈ P16, S a = true → S b = false → C a b ≤ 0) : ∀ (n m : Nat), (∀ p, m.testBit p = true → S p = true) → ∀ p, (reachN C n m).testBit p = true → S p = true
  | 0, _, h => h
  | n + 1, m, h => reachT_in hS (reachN_in hS n m h)

/-- It stays below 2^17. -/
theorem reachS_lt {C : Caps} {a m b : Nat} (hb : b ≤ 16) (h : m < 131072) : reachS C a m b < 131072 := by
  unfold reachS
  split
  · exact Nat.or_lt_two_pow (n := 17) h (Nat.pow_lt_pow_right (by decide) (by omega))
  · exact h
theorem reachR_lt {C : Caps} {a j m : Nat} (hj : j ≤ 16) (h : m < 131072) : reachR C a j m < 131072 :=
  foldl_in (Q := fun m => m < 131072) _ m (fun b hb m hm => reachS_lt (by rw [List.mem_range'_1] at hb; omega) hm) h
theorem reachT_lt {C : Caps} {k m : Nat} (h : m < 131072) : reachT C k m < 131072 :=
  foldl_in (Q := fun m => m < 131072) _ m (fun a _ m hm => reachR_lt (by omega) hm) h
theorem reachN_lt {C : Caps} : ∀ {n m : Nat}, m < 131072 → reachN C n m < 131072
  | 0, _, h => h
  | n + 1, _, h => reachT_lt (reachN_lt (n := n) h)

/-- How many of the parties are in. -/
def many (l : List Nat) (m : Nat) : Nat := (l.filter fun p => m.testBit p).length
theorem many_le {m m' : Nat} (h : Sub m m') : ∀ l, many l m ≤ many l m'
  | [] => Nat.le_refl _
  | p :: l => by
    have ih := many_le h l
    unfold many at *
    simp only [List.filter_cons]
    cases h1 : m.testBit p
    · cases h2 : m'.testBit p <;> simp <;> omega
    · rw [h p h1]; simp; omega
theorem many_lt {m m' b : Nat} (h : Sub m m') (h1 : m.testBit b = false) (h2 : m'.testBit b = true) : ∀ l, b ∈ l → many l m + 1 ≤ many l m'
  | p :: l, hb => by
    by_cases e : b = p
    · subst e
      have := many_le h l
      unfold many at *
      simp only [List.filter_cons, h1, h2]
      simp; omega
    · have ih := many_lt h h1 h2 l (by simpa [e] using hb)
      unfold many at *
      simp only [List.filter_cons]
      cases h3 : m.testBit p
      · cases h4 : m'.testBit p <;> simp <;> omega
      · rw [h p h3]; simp; omega
theorem many_le16 (m : Nat) : many P16 m ≤ 16 := by
  have := List.length_filter_le (fun p => m.testBit p) P16
  unfold many
  simp [P16] at *
  exact this

theorem reachN_or (C : Caps) (m : Nat) (h1 : 1 ≤ many P16 m) : ∀ n, Closed C (reachN C n m) ∨ n + 1 ≤ many P16 (reachN C n m)
  | 0 => .inr h1
  | n + 1 => by
    have ih := reachN_or C m h1 n
    show Closed C (reachT C 16 (reachN C n m)) ∨ _
    by_cases hc : Closed C (reachN C n m)
    · left; rw [reachT_closed hc]; exact hc
    · right
      rcases ih with ih | ih
      · exact absurd ih hc
      · have : ∃ a b, a ∈ P16 ∧ b ∈ P16 ∧ (reachN C n m).testBit a = true ∧ 0 < C a b ∧ (reachN C n m).testBit b = false := by
          refine Classical.byContradiction fun hno => hc fun a ha b hb h1 h2 => ?_
          cases h3 : (reachN C n m).testBit b with
          | true => rfl
          | false => exact absurd ⟨a, b, ha, hb, h1, h2, h3⟩ hno
        obtain ⟨a, b, ha, hb, h2, h3, h4⟩ := this
        have := many_lt (reachT_sub C 16 (reachN C n m)) h4 (reachT_new ha hb h2 h3) P16 hb
        show n + 1 + 1 ≤ many P16 (reachT C 16 (reachN C n m))
        omega
/-- Who is reached from a party. -/
def reached (C : Caps) (s : Nat) : Nat := reachN C 16 (2 ^ (s % 32))
theorem reached_closed (C : Caps) {s : Nat} (hs : s ∈ P16) : Closed C (reached C s) ∧ (reached C s).testBit s = true := by
  have e : s % 32 = s := Nat.mod_eq_of_lt (by have := mem_P16.1 hs; omega)
  have hb : (2 ^ s).testBit s = true := by rw [Nat.testBit_two_pow]; simp
  have h1 : 1 ≤ many P16 (2 ^ s) := by
    unfold many
    exact List.length_pos_iff.2 (List.ne_nil_of_mem (List.mem_filter.2 ⟨hs, hb⟩))
  unfold reached
  rw [e]
  refine ⟨?_, reachN_sub C 16 _ s hb⟩
  rcases reachN_or C (2 ^ s) h1 16 with h | h
  · exact h
  · have := many_le16 (reachN C 16 (2 ^ s)); omega
theorem reached_in {C : Caps} {S : Nat → Bool} (hS : ∀ a ∈ P16, ∀ b ∈ P16, S a = true → S b = false → C a b ≤ 0) {s : Nat} (hs : s ∈ P16) (h : S s = true) : ∀ p, (reached C s).testBit p = true → S p = true := by
  have e : s % 32 = s := Nat.mod_eq_of_lt (by have := mem_P16.1 hs; omega)
  unfold reached
  rw [e]
  refine reachN_in hS 16 _ fun p hp => ?_
  rw [Nat.testBit_two_pow] at hp
  simp at hp
  subst hp
  exact h
theorem reached_lt (C : Caps) {s : Nat} (hs : s ∈ P16) : reached C s < 131072 := by
  have := mem_P16.1 hs
  have e : s % 32 = s := Nat.mod_eq_of_lt (by omega)
  unfold reached
  rw [e]
  exact reachN_lt (Nat.pow_lt_pow_right (n := 17) (by decide) (by omega))
end Go.Proofs.Ytofnaigkfhfhoaa.Pl
namespace Go.Proofs.Ytofnaigkfhfhoaa.Pl

attribute [local irreducible] hops

theorem RS.len {C0 : Caps} {s t K0 : Nat} {w : Int} (ht : t ∈ P16) : ∀ (d k : Nat) {C : Caps} {ps : List Fl} {got : Int}, k + d = 70162 → RS C0 s t K0 w k C ps got → (route s t K0 C0 w).1.length ≤ 1052415
  | 0, k, C, ps, got, hd, h => by have := h.few; omega
  | d + 1, k, C, ps, got, hd, h => by
    have hn := h.num
    have hf := h.few
    by_cases hfull : got = w
    · subst hfull
      rw [h.full]
      show ps.length ≤ _; omega
    · by_cases hs : short C s t = []
      · rw [h.none hs]
        show ps.length ≤ _; omega
      · exact RS.len ht d (k + 1) (by omega) (h.step ht (by have := h.le; omega) hs)
theorem route_len {C : Caps} (hC : CapOk 4398046511104 C) (s t : Nat) {w : Int} : (route s t w.toNat C w).1.length ≤ 1052415 := by
  by_cases hw : w ≤ 0
  · rw [route_done s t _ C hw]; simp
  · by_cases ht : t ∈ P16
    · exact RS.len ht 70162 0 (by omega) (RS.start s t w.toNat hC (by omega) (by omega))
    · have : short C s t = [] := by
        unfold short
        rw [if_neg]
        rintro ⟨_, h2, _⟩
        exact ht h2
      rw [route_none s t _ w this]; simp

/-- What a party has of pushes. -/
def hasOf (ps : List Fl) (p : Nat) : Int := into ps (fun q => decide (q = p))
theorem hasOf_snoc (ps : List Fl) (x : Fl) (p : Nat) : hasOf (ps ++ [x]) p = hasOf ps p + x.n * ((if x.t = p then 1 else 0) - (if x.f = p then 1 else 0)) := by
  unfold hasOf
  rw [into_append]
  simp [ind]
theorem hasOf_le {C : Caps} {B : Int} (hB : 0 ≤ B) : ∀ (ps : List Fl) (p : Nat), (∀ x ∈ ps, 0 ≤ x.n ∧ x.n ≤ B) → - (ps.length * B) ≤ hasOf ps p ∧ hasOf ps p ≤ ps.length * B
  | [], p, _ => by simp [hasOf]
  | x :: ps, p, h => by
    have ih := hasOf_le (C := C) hB ps p fun y hy => h y (by simp [hy])
    have h0 := h x (by simp)
    unfold hasOf at *
    rw [into_cons, List.length_cons, Int.natCast_succ, Int.add_mul, Int.one_mul]
    generalize (ps.length : Int) * B = L at *
    generalize Pl.into ps (fun q => decide (q = p)) = I at *
    have hi1 := ind_01 (fun q => decide (q = p)) x.t
    have hi2 := ind_01 (fun q => decide (q = p)) x.f
    rcases hi1 with e1 | e1 <;> rcases hi2 with e2 | e2 <;> rw [e1, e2] <;> simp <;> omega

theorem valid_n {B : Int} : ∀ {ps : List Fl} {C : Caps}, CapOk B C → Valid C ps → ∀ x ∈ ps, 0 ≤ x.n ∧ x.n ≤ B
  | [], _, _, _, x, hx => by simp at hx
  | y :: ps, C, hC, hv, x, hx => by
    rw [List.mem_cons] at hx
    rcases hx with rfl | hx
    · have h1 := hv.2.1
      have h2 := hv.2.2.1
      have := hC.le x.f x.t
      omega
    · exact valid_n (hC.push hv.1 hv.2.1 hv.2.2.1) hv.2.2.2 x hx

/-- The route of what is wanted, from one to another: all that the statement asks. -/
structure MostF (C : Caps) (s t : Nat) (want : Int) : Prop where
  valid : Valid C (route s t want.toNat C want).1
  lo : 0 ≤ (route s t want.toNat C want).2.1
  hi : (route s t want.toNat C want).2.1 ≤ want
  has : ∀ p, hasOf (route s t want.toNat C want).1 p = (if p = t then (route s t want.toNat C want).2.1 else if p = s then -(route s t want.toNat C want).2.1 else 0)
  least : (route s t want.toNat C want).2.1 = min want (mostOf C s t)
  off : (route s t want.toNat C want).2.1 < want → (reached (pushAll C (route s t want.toNat C want).1) s).testBit t = false
  cut : (route s t want.toNat C want).2.1 < want → cut C (fun p => (reached (pushAll C (route s t want.toNat C want).1) s).testBit p) ≤ (route s t want.toNat C want).2.1

theorem mostF_of {C : Caps} (hC : CapOk 4398046511104 C) {s t : Nat} (hs : s ∈ P16) (ht : t ∈ P16) (hne : s ≠ t) {want : Int} (hw : 1 ≤ want) : MostF C s t want := by
  have hR := routed s t want.toNat C want (by omega)
  have hM := most_facts (B := 4398046511104) (by decide) (by decide) hC hs ht hne (k := 9223372036854775807) (w := 9223372036854775807) (by omega) (by omega)
  have hM' : mostOf C s t = (route s t 9223372036854775807 C 9223372036854775807).2.1 := rfl
  rw [← hM'] at hM
  clear hM'
  obtain ⟨m, hm⟩ : ∃ m, m = mostOf C s t := ⟨_, rfl⟩
  rw [← hm] at hM
  obtain ⟨hM1, hM2, hM3⟩ := hM
  have hle := hR.le
  have hcut := fun (h : (route s t want.toNat C want).2.1 < want) => hR.cut hC hs ht hne (by omega) h
  have hlec := fun (S : Nat → Bool) (h1 : S s = true) (h2 : S t = false) => hR.le_cut hC h1 h2
  have hval := hR.valid
  have hcaps := hR.caps
  have hnn := hR.nonneg
  have hfull := hR.full
  have hin := hR.into
  generalize hr : route s t want.toNat C want = r at *
  have hshort : r.2.1 < want → short r.2.2 s t = [] := fun hlt => by
    rcases hfull with e | e | e
    · omega
    · exact e
    · omega
  have hgood := hC.pushAll hval
  have hhi : r.2.1 ≤ want := by clear hM3 hM2 hM1 hcut hlec hfull; omega
  refine ⟨by rw [hr]; exact hval, by rw [hr]; exact hnn, by rw [hr]; exact hhi, fun p => ?_, ?_, ?_, ?_⟩
  · rw [hr]
    unfold hasOf
    rw [hin]
    unfold ind
    by_cases h1 : p = t
    · subst h1
      simp [hne]
    · by_cases h2 : p = s
      · subst h2
        simp [Ne.symm h1, h1]
      · simp [h1, h2, Ne.symm h1, Ne.symm h2]
  · rw [hr, ← hm]
    by_cases hlt : r.2.1 < want
    · have e := most_unique (fun S h1 h2 => (hlec S h1 h2).1) (hcut hlt) hM2 hM3
      clear hM3 hM2 hM1 hcut hlec hfull
      omega
    · obtain ⟨S, h1, h2, h3⟩ := hM3
      have := (hlec S h1 h2).1
      clear hM2 hM1 hcut hlec hfull
      omega
  · intro hlt
    rw [hr] at hlt ⊢
    obtain ⟨S, h1, h2, h3⟩ := short_none hs ht hne (hshort hlt)
    rw [hcaps] at h3
    cases hb : (reached (pushAll C r.1) s).testBit t with
    | false => rfl
    | true => have := reached_in h3 hs h1 t hb; rw [h2] at this; cases this
  · intro hlt
    rw [hr] at hlt ⊢
    obtain ⟨S, h1, h2, h3⟩ := short_none hs ht hne (hshort hlt)
    rw [hcaps] at h3
    have hcl := reached_closed (pushAll C r.1) hs
    have hoff : (reached (pushAll C r.1) s).testBit t = false := by
      cases hb : (reached (pushAll C r.1) s).testBit t with
      | false => rfl
      | true => have := reached_in h3 hs h1 t hb; rw [h2] at this; cases this
    have hz : Pl.cut (pushAll C r.1) (fun p => (reached (pushAll C r.1) s).testBit p) ≤ 0 := cut_zero fun a ha b hb h1 h2 => by
      refine Int.not_lt.1 fun hlt => ?_
      have := hcl.1 a ha b hb h1 hlt
      rw [this] at h2
      cases h2
    have := (hlec (fun p => (reached (pushAll C r.1) s).testBit p) hcl.2 hoff).2
    rw [hcaps] at this
    omega

/-- What goes at most goes in two asks, one behind the other. -/
theorem most_less {C : Caps} (hC : CapOk 4398046511104 C) {s t : Nat} (hs : s ∈ P16) (ht : t ∈ P16) (hne : s ≠ t) (want : Int) :
    mostOf (pushAll C (route s t want.toNat C want).1) s t = mostOf C s t - (route s t want.toNat C want).2.1 := by
  have hR := routed s t want.toNat C want (by omega)
  have hgood := hC.pushAll hR.valid
  obtain ⟨_, a2, a3⟩ := most_facts (B := 4398046511104) (by decide) (by decide) hC hs ht hne (k := 9223372036854775807) (w := 9223372036854775807) (by omega) (by omega)
  obtain ⟨_, b2, b3⟩ := most_facts (B := 4398046511104) (by decide) (by decide) hgood hs ht hne (k := 9223372036854775807) (w := 9223372036854775807) (by omega) (by omega)
  have hle := fun (S : Nat → Bool) (h1 : S s = true) (h2 : S t = false) => hR.le_cut hC h1 h2
  rw [hR.caps] at hle
  refine most_unique (C := pushAll C (route s t want.toNat C want).1) (s := s) (t := t) b2 b3 (fun S h1 h2 => ?_) ?_
  · have h3 := a2 S h1 h2
    have h4 := (hle S h1 h2).2
    unfold mostOf
    omega
  · obtain ⟨S, h1, h2, h3⟩ := a3
    refine ⟨S, h1, h2, ?_⟩
    have h4 := (hle S h1 h2).2
    unfold mostOf
    omega
theorem most_bounds {C : Caps} (hC : CapOk 4398046511104 C) {s t : Nat} (hs : s ∈ P16) (ht : t ∈ P16) (hne : s ≠ t) :
    0 ≤ mostOf C s t ∧ mostOf C s t ≤ 1125899906842624 ∧ ∀ S : Nat → Bool, S s = true → S t = false → mostOf C s t ≤ cut C S := by
  obtain ⟨a1, a2, a3⟩ := most_facts (B := 4398046511104) (by decide) (by decide) hC hs ht hne (k := 9223372036854775807) (w := 9223372036854775807) (by omega) (by omega)
  refine ⟨a1, ?_, a2⟩
  obtain ⟨S, h1, h2, h3⟩ := a3
  have := cut_le (B := 4398046511104) (by decide) hC S
  unfold mostOf
  omega
end Go.Proofs.Ytofnaigkfhfhoaa.Pl
