/-
  Plain law: how often the shortest way is taken at most: a potential that rises each time.
-/
import Derived.Test.YtfpdkeokdojejaaPlRoute
namespace Go.Proofs.Ytfpdkeokdojejaa.Pl

/-- Distances never fall, when edges are new only against the way. -/
theorem dist_mono {C D : Caps} {t : Nat} {d e : Nat → Nat} (hd : Dist C t d) (he : Dist D t e) (hnew : ∀ a b, 0 < D a b → 0 < C a b ∨ d b = d a + 1) : ∀ p, d p ≤ e p ∨ e p = 17 := by
  have key : ∀ n p, e p = n → e p ≠ 17 → d p ≠ 17 ∧ d p ≤ e p := by
    intro n
    induction n with
    | zero =>
      intro p hp h17
      have : p = t := Classical.byContradiction fun hne => by
        obtain ⟨r, _, h1, _⟩ := he.parent p h17 hne
        omega
      subst this
      rw [hd.zero]; omega
    | succ n ih =>
      intro p hp h17
      have hne : p ≠ t := by rintro rfl; rw [he.zero] at hp; omega
      obtain ⟨r, hr, h1, hD⟩ := he.parent p h17 hne
      obtain ⟨i1, i2⟩ := ih r (by omega) hr
      rcases hnew p r hD with hC | hr2
      · obtain ⟨j1, j2⟩ := hd.edge r p i1 (he.inP p h17) hC
        exact ⟨j1, by omega⟩
      · have := hd.small r i1
        exact ⟨by omega, by omega⟩
  intro p
  by_cases h : e p = 17
  · exact .inr h
  · exact .inl (key _ p rfl h).2

def pairs : List (Nat × Nat) := P16.flatMap fun a => P16.map fun b => (a, b)
theorem mem_pairs {a b : Nat} (ha : a ∈ P16) (hb : b ∈ P16) : (a, b) ∈ pairs := by
  unfold pairs
  rw [List.mem_flatMap]
  exact ⟨a, ha, List.mem_map.2 ⟨b, hb, rfl⟩⟩
theorem pairs_len : pairs.length = 256 := by decide +kernel
def admB (C : Caps) (d : Nat → Nat) (x : Nat × Nat) : Bool := decide (0 < C x.1 x.2 ∧ d x.1 = d x.2 + 1)
/-- How many edges lead a step nearer. -/
def adm (C : Caps) (d : Nat → Nat) : Nat := pairs.countP (admB C d)
theorem adm_le (C : Caps) (d : Nat → Nat) : adm C d ≤ 256 := by
  have := List.countP_le_length (p := admB C d) (l := pairs)
  rwa [pairs_len] at this
def dsum (d : Nat → Nat) : Nat := (P16.map d).sum

theorem sum_le_of {l : List Nat} {f g : Nat → Nat} (h : ∀ p ∈ l, f p ≤ g p) : (l.map f).sum ≤ (l.map g).sum := by
  induction l with
  | nil => simp
  | cons a l ih =>
    have h1 := h a (by simp)
    have h2 := ih fun p hp => h p (by simp [hp])
    simp only [List.map_cons, List.sum_cons]; omega
theorem sum_lt_of {l : List Nat} {f g : Nat → Nat} (h : ∀ p ∈ l, f p ≤ g p) {q : Nat} (hq : q ∈ l) (hlt : f q < g q) : (l.map f).sum < (l.map g).sum := by
  induction l with
  | nil => simp at hq
  | cons a l ih =>
    have h1 := h a (by simp)
    have h2 : ∀ p ∈ l, f p ≤ g p := fun p hp => h p (by simp [hp])
    simp only [List.map_cons, List.sum_cons]
    by_cases e : q = a
    · subst e
      have := sum_le_of h2; omega
    · have := ih h2 (by simpa [e] using hq); omega
theorem countP_lt {l : List (Nat × Nat)} {p q : Nat × Nat → Bool} (h : ∀ x ∈ l, q x = true → p x = true) {y : Nat × Nat} (hy : y ∈ l) (h1 : p y = true) (h2 : q y = false) : l.countP q < l.countP p := by
  induction l with
  | nil => simp at hy
  | cons a l ih =>
    have hl : ∀ x ∈ l, q x = true → p x = true := fun x hx => h x (by simp [hx])
    have hle : l.countP q ≤ l.countP p := List.countP_mono_left hl
    rw [List.countP_cons, List.countP_cons]
    by_cases e : y = a
    · subst e
      rw [h1, h2]; simp; omega
    · have := ih hl (by simpa [e] using hy)
      have ha := h a (by simp)
      cases hqa : q a with
      | false => simp; split <;> omega
      | true => rw [ha hqa]; simp; omega

/-- What rises with each round. -/
def phi (C : Caps) (d : Nat → Nat) : Nat := 257 * dsum d + (256 - adm C d)
theorem Dist.le17 {C : Caps} {t : Nat} {d : Nat → Nat} (h : Dist C t d) (p : Nat) : d p ≤ 17 := by
  by_cases e : d p = 17
  · omega
  · have := h.small p e; omega
theorem phi_le {C : Caps} {t : Nat} {d : Nat → Nat} (h : Dist C t d) : phi C d ≤ 70160 := by
  have h1 : dsum d ≤ (P16.map fun _ => 17).sum := sum_le_of fun p _ => h.le17 p
  have h2 : (P16.map fun _ => 17).sum = 272 := by decide +kernel
  unfold phi; omega

theorem phi_rises {C D : Caps} {t : Nat} {d e : Nat → Nat} (hd : Dist C t d) (he : Dist D t e) (hnew : ∀ a b, 0 < D a b → 0 < C a b ∨ d b = d a + 1)
    {a b : Nat} (ha : a ∈ P16) (hb : b ∈ P16) (h1 : 0 < C a b) (h2 : d a = d b + 1) (h3 : D a b ≤ 0) : phi C d < phi D e := by
  have hle : ∀ p ∈ P16, d p ≤ e p := fun p _ => by
    rcases dist_mono hd he hnew p with h | h
    · exact h
    · rw [h]; exact hd.le17 p
  have ha1 := adm_le C d
  have ha2 := adm_le D e
  by_cases hall : ∀ p ∈ P16, e p = d p
  · have hs : dsum e = dsum d := by
      unfold dsum
      rw [List.map_congr_left hall]
    have hlt : adm D e < adm C d := by
      refine countP_lt (fun x hx hq => ?_) (mem_pairs ha hb) ?_ ?_
      · unfold pairs at hx
        simp only [List.mem_flatMap, List.mem_map] at hx
        obtain ⟨u, hu, v, hv, rfl⟩ := hx
        unfold admB at hq ⊢
        simp only [decide_eq_true_eq] at hq ⊢
        rw [hall u hu, hall v hv] at hq
        rcases hnew u v hq.1 with h | h
        · exact ⟨h, hq.2⟩
        · omega
      · unfold admB; simp only [decide_eq_true_eq]; exact ⟨h1, h2⟩
      · unfold admB; simp only [decide_eq_false_iff_not]; exact fun h => by omega
    unfold phi; omega
  · obtain ⟨p, hp⟩ := Classical.not_forall.1 hall
    obtain ⟨hp16, hne⟩ := Classical.not_imp.1 hp
    have hlt : dsum d < dsum e := sum_lt_of hle hp16 (by have := hle p hp16; omega)
    unfold phi; omega

/-- u is followed by v on the way. -/
def Con : List Nat → Nat → Nat → Prop
  | a :: b :: l, u, v => (u = a ∧ v = b) ∨ Con (b :: l) u v
  | _, _, _ => False
theorem Con.mem : ∀ {l : List Nat} {u v : Nat}, Con l u v → u ∈ l ∧ v ∈ l
  | [], _, _, h => h.elim
  | [_], _, _, h => h.elim
  | a :: b :: l, u, v, h => by
    rcases h with ⟨rfl, rfl⟩ | h
    · simp
    · have := Con.mem h
      exact ⟨List.mem_cons_of_mem _ this.1, List.mem_cons_of_mem _ this.2⟩
theorem pushAll_along (C : Caps) (a b : Nat) (l : List Nat) (n : Int) : pushAll C (along (a :: b :: l) n) = pushAll (push C a b n) (along (b :: l) n) := rfl
theorem along_far : ∀ {l : List Nat} {n : Int} {C : Caps} {u v : Nat}, (u ∉ l ∨ v ∉ l) → pushAll C (along l n) u v = C u v
  | [], _, _, _, _, _ => rfl
  | [_], _, _, _, _, _ => rfl
  | a :: b :: l, n, C, u, v, h => by
    rw [pushAll_along, along_far (l := b :: l) (by
      rcases h with h | h
      · exact .inl fun hm => h (List.mem_cons_of_mem _ hm)
      · exact .inr fun hm => h (List.mem_cons_of_mem _ hm))]
    refine push_other ?_ ?_
    · rcases h with h | h
      · left; rintro rfl; exact h (by simp)
      · right; rintro rfl; exact h (by simp)
    · rcases h with h | h
      · left; rintro rfl; exact h (by simp)
      · right; rintro rfl; exact h (by simp)
theorem along_new : ∀ {l : List Nat} {n : Int} {C : Caps} {u v : Nat}, 0 ≤ n → 0 < pushAll C (along l n) u v → 0 < C u v ∨ Con l v u
  | [], _, _, _, _, _, h => .inl h
  | [_], _, _, _, _, _, h => .inl h
  | a :: b :: l, n, C, u, v, hn, h => by
    rw [pushAll_along] at h
    rcases along_new hn h with h | h
    · unfold push at h
      split at h
      · left; rename_i e; rw [e.1, e.2]; rw [e.1, e.2] at h; omega
      · split at h
        · rename_i e; right; left; exact ⟨e.2, e.1⟩
        · exact .inl h
    · exact .inr (.inr h)
theorem along_step : ∀ {l : List Nat} {n : Int} {C : Caps} {u v : Nat}, l.Nodup → Con l u v → pushAll C (along l n) u v = C u v - n
  | [], _, _, _, _, _, h => h.elim
  | [_], _, _, _, _, _, h => h.elim
  | a :: b :: l, n, C, u, v, hd, h => by
    rw [List.nodup_cons] at hd
    rw [pushAll_along]
    rcases h with ⟨rfl, rfl⟩ | h
    · rw [along_far (.inl hd.1)]; exact push_there
    · rw [along_step hd.2 h]
      have hm := h.mem
      rw [push_other]
      · left; rintro rfl; exact hd.1 hm.1
      · right; rintro rfl; exact hd.1 hm.2
theorem least_full : ∀ {l : List Nat} {C : Caps} {w : Int}, least C l w < w → ∃ u v, Con l u v ∧ C u v = least C l w
  | [], C, w, h => by simp [least] at h
  | [_], C, w, h => by simp [least] at h
  | a :: b :: l, C, w, h => by
    rw [least] at h ⊢
    have hle := least_le C (b :: l) (min w (C a b))
    by_cases hlt : least C (b :: l) (min w (C a b)) < min w (C a b)
    · obtain ⟨u, v, h1, h2⟩ := least_full hlt
      exact ⟨u, v, .inr h1, h2⟩
    · exact ⟨a, b, .inl ⟨rfl, rfl⟩, by omega⟩
theorem way_con {C : Caps} {t : Nat} {d : Nat → Nat} (h : Dist C t d) : ∀ (k a : Nat), d a = k → d a ≠ 17 → ∀ {u v : Nat}, Con (way C d k a) u v → d u = d v + 1 ∧ 0 < C u v
  | 0, a, _, _, u, v, hc => hc.elim
  | k + 1, a, hk, h17, u, v, hc => by
    have hne : a ≠ t := by rintro rfl; rw [h.zero] at hk; omega
    have hs := nxt_spec h h17 hne
    have h15 := h.small a h17
    obtain ⟨l, hl⟩ := way_cons C d k (nxt C d a)
    have hw : way C d (k + 1) a = a :: way C d k (nxt C d a) := rfl
    rw [hw] at hc
    have hc' : (u = a ∧ v = nxt C d a) ∨ Con (way C d k (nxt C d a)) u v := by rw [hl] at hc ⊢; exact hc
    rcases hc' with ⟨rfl, rfl⟩ | hc'
    · exact ⟨by omega, hs.2.1⟩
    · exact way_con h k _ (by omega) (by omega) hc'

attribute [local irreducible] hops

/-- A round that does not get all that is wanted: the potential rises. -/
theorem round_rises {C : Caps} {s t : Nat} {w : Int} (ht : t ∈ P16) (h : short C s t ≠ []) (hn : 0 ≤ least C (short C s t) w) (hlt : least C (short C s t) w < w) :
    phi C (hops C t) < phi (pushAll C (along (short C s t) (least C (short C s t) w))) (hops (pushAll C (along (short C s t) (least C (short C s t) w))) t) := by
  have hW := short_way h
  have hd := hops_dist C ht
  have he := hops_dist (pushAll C (along (short C s t) (least C (short C s t) w))) ht
  have hcon : ∀ {u v : Nat}, Con (short C s t) u v → hops C t u = hops C t v + 1 ∧ 0 < C u v := by
    intro u v hc
    unfold short at hc h
    split at hc
    · rename_i hh
      exact way_con hd _ _ rfl hh.2.2.2 hc
    · exact hc.elim
  obtain ⟨u, v, h1, h2⟩ := least_full hlt
  obtain ⟨c1, c2⟩ := hcon h1
  have hm := h1.mem
  refine phi_rises hd he (fun a b hab => ?_) (hW.inP _ hm.1) (hW.inP _ hm.2) c2 c1 ?_
  · rcases along_new hn hab with h | h
    · exact .inl h
    · exact .inr (hcon h).1
  · rw [along_step hW.nodup h1, h2]; omega
end Go.Proofs.Ytfpdkeokdojejaa.Pl
