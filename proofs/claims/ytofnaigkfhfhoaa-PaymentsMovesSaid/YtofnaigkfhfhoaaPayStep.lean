/-
  Plain law: what a payment does to a ledger's lines: its caps, positions, keys; what is paid back; what goes at most behind it.
  Moved and Sound (package countinghouselaw09), of a ledger and its copy.
-/
import Derived.Test.YtofnaigkfhfhoaaPay
import Derived.Test.YtofnaigkfhfhoaaPlRoom
import Derived.Test.YtofnaigkfhfhoaaPlPos
import Derived.Test.YtofnaigkfhfhoaaTwoL
import Derived.Deep.QuietTactic
import Derived.BigQuiet
namespace Go.Proofs.Ytofnaigkfhfhoaa
open Go.RowKit Go.Maps Pl

/-- A line without its debt. -/
def keyL (x : Ln) : Nat × Nat × Nat × Int := (x.cr, x.db, x.cu, x.lim)
theorem keys_set {x y : Ln} : ∀ (L : List Ln), Sorted L → findR L x.rank = some y → keyL x = keyL y → (setL L x).map keyL = L.map keyL := by
  intro L
  induction L with
  | nil => intro _ hf _; cases hf
  | cons z l ih =>
    intro hs hf hk
    obtain ⟨h1, h2⟩ := List.pairwise_cons.1 hs
    rw [find_cons] at hf
    rw [setL]
    by_cases e1 : x.rank < z.rank
    · rw [if_neg (by omega), find_lt (fun w hw => Nat.lt_trans e1 (h1 w hw))] at hf
      cases hf
    · rw [if_neg e1]
      by_cases e2 : x.rank = z.rank
      · rw [if_pos e2.symm] at hf
        cases hf
        rw [if_pos e2, List.map_cons, List.map_cons, hk]
      · rw [if_neg (fun e => e2 e.symm)] at hf
        rw [if_neg e2, List.map_cons, List.map_cons, ih h2 hf hk]
theorem keys_add {L : List Ln} (hs : Sorted L) (hsm : ∀ x ∈ L, x.small) {c d u : Nat} (hc : c < 256) (hd : d < 256) {n : Int} (hx : n = 0 ∨ (findR L (rk c d u)).isSome) :
    (addL L c d u n).map keyL = L.map keyL := by
  unfold addL
  by_cases h0 : n = 0
  · rw [if_pos h0]
  · rw [if_neg h0]
    rcases hx with hx | hx
    · exact absurd hx h0
    · obtain ⟨y, hy⟩ := Option.isSome_iff_exists.1 hx
      have hm := find_mem hy
      have hsx := hsm y hm.1
      obtain ⟨k1, k2, k3⟩ := rk_inj hsx.1 hsx.2.1 hc hd hm.2
      refine keys_set (y := y) L hs hy ?_
      unfold keyL owedAt
      rw [hy, k1, k2, k3]

section
variable {S : Nat → Bool} {L : List Ln}
theorem keys_pushed (h : GoodL S L) (hs : Sorted L) (hsm : ∀ x ∈ L, x.small) {f t u : Nat} (hf : f < 256) (ht : t < 256) (hu : u < 256) {n : Int} (h1 : 1 ≤ n) (h2 : n ≤ room L f t u) :
    (pushed L f t u n).map keyL = L.map keyL := by
  obtain ⟨hne, _⟩ := room_in (u := u) h hsm hf ht (by omega)
  obtain ⟨_, _, hs1, hsm1⟩ := push_facts h hs hsm hf ht hu h1 h2
  have b1 := h.at (rk f t u)
  have b2 := h.at (rk t f u)
  have hfall : fallOf L f t u n = min n (owedAt L (rk f t u)).2 := rfl
  have hroom : room L f t u = (owedAt L (rk f t u)).2 + (owedAt L (rk t f u)).1 - (owedAt L (rk t f u)).2 := rfl
  have e2 : owedAt (addL L f t u (-fallOf L f t u n)) (rk t f u) = owedAt L (rk t f u) := by
    rw [owedAt_add hs, if_neg (rk_ne hne)]
  unfold pushed
  rw [keys_add hs1 hsm1 ht hf, keys_add hs hsm hf ht]
  · by_cases e : fallOf L f t u n = 0
    · left; omega
    · right
      obtain ⟨x, hx, _⟩ := owedAt_some (L := L) (r := rk f t u) (.inr (by omega))
      rw [hx]; rfl
  · by_cases e : n - fallOf L f t u n = 0
    · left; exact e
    · right
      obtain ⟨x, hx, _⟩ := owedAt_some (L := addL L f t u (-fallOf L f t u n)) (r := rk t f u) (.inl (by rw [e2]; omega))
      rw [hx]; rfl
end

/-- What so many pushes that may be done leave of a ledger. -/
structure PayF (S : Nat → Bool) (L L' : List Ln) (u : Nat) (ps : List Fl) : Prop where
  good : GoodL S L'
  sorted : Sorted L'
  small : ∀ x ∈ L', x.small
  caps : capsL S L' u = pushAll (capsL S L u) ps
  pos : ∀ p v, posOf L' p v = posOf L p v + if v = u then hasOf ps p else 0
  keys : L'.map keyL = L.map keyL

theorem payF {S : Nat → Bool} {u : Nat} (hu : u < 256) : ∀ (ps : List Fl) {L : List Ln}, GoodL S L → Sorted L → (∀ x ∈ L, x.small) → Valid (capsL S L u) ps → PayF S L (pushLs L u ps) u ps
  | [], L, h, hs, hsm, _ => ⟨h, hs, hsm, rfl, fun p v => by simp [hasOf, pushLs], rfl⟩
  | x :: ps, L, h, hs, hsm, hv => by
    obtain ⟨⟨o1, o2, o3⟩, h1, h2, h3⟩ := hv
    rw [mem_P16] at o1 o2
    rw [capsL_room h hsm (by omega) (by omega)] at h2
    have hE : lpushL L x.f x.t u x.n = pushed L x.f x.t u x.n := by
      have : lpushE L x.f x.t u x.n = 0 := by unfold lpushE; rw [if_neg (by omega), if_neg (by omega)]
      unfold lpushL
      rw [if_pos this]
    have hc := capsL_pushed h hs hsm (by omega : x.f < 256) (by omega : x.t < 256) h1 h2 u
    rw [if_pos rfl] at hc
    have hp := push_facts h hs hsm (by omega : x.f < 256) (by omega : x.t < 256) hu h1 h2
    have hs2 : Sorted (pushed L x.f x.t u x.n) := sorted_add (sorted_add hs _ _ _ _) _ _ _ _
    have hsm2 : ∀ y ∈ pushed L x.f x.t u x.n, y.small := small_add (small_add hsm (by omega) (by omega) hu _) (by omega) (by omega) hu _
    rw [← hc] at h3
    obtain ⟨i1, i2, i3, i4, i5, i6⟩ := payF hu ps hp.2.1 hs2 hsm2 h3
    have e : pushLs L u (x :: ps) = pushLs (pushed L x.f x.t u x.n) u ps := by
      show pushLs (lpushL L x.f x.t u x.n) u ps = _
      rw [hE]
    rw [e]
    refine ⟨i1, i2, i3, ?_, fun p v => ?_, ?_⟩
    · rw [i4, hc]; rfl
    · rw [i5, pos_pushed h hs hsm (by omega) (by omega) hu h1 h2]
      have hh : hasOf (x :: ps) p = x.n * (ind (fun q => decide (q = p)) x.t - ind (fun q => decide (q = p)) x.f) + hasOf ps p := by
        unfold hasOf; rw [into_cons]
      rw [hh]
      by_cases hv : v = u
      · subst hv
        simp only [if_true, ind, decide_eq_true_eq]
        by_cases a : x.t = p
        · have b : x.f ≠ p := fun b => o3 (b.trans a.symm)
          simp only [a, b, if_true, if_false]; omega
        · by_cases b : x.f = p
          · simp only [a, b, if_true, if_false]; omega
          · simp only [a, b, if_false]; omega
      · have hv' : u ≠ v := fun e => hv e.symm
        simp only [hv, hv', if_false]; omega
    · rw [i6, keys_pushed h hs hsm (by omega) (by omega) hu h1 h2]

theorem cut_ge {C : Caps} (h : ∀ a b, 0 ≤ C a b) {S : Nat → Bool} {a b : Nat} (ha : a ∈ P16) (hb : b ∈ P16) (h1 : S a = true) (h2 : S b = false) : C a b ≤ cut C S := by
  have e : C a b = sum P16 (fun a' => if a' = a then sum P16 (fun b' => if b' = b then C a' b' else 0) else 0) := by
    rw [sum_single nodup_P16 ha (fun a' => sum P16 (fun b' => if b' = b then C a' b' else 0)), sum_single nodup_P16 hb (fun b' => C a b')]
  rw [e]
  unfold cut
  refine sum_le fun a' _ => ?_
  by_cases ea : a' = a
  · subst ea
    rw [if_pos rfl]
    refine sum_le fun b' _ => ?_
    by_cases eb : b' = b
    · subst eb
      rw [if_pos rfl, if_pos (by simp [h1, h2])]
      exact Int.le_refl _
    · rw [if_neg eb]
      split
      · exact h _ _
      · omega
  · rw [if_neg ea]
    exact sum_nonneg fun b' _ => by split; exact h _ _; omega

/-- Where nothing goes any more, who is wanted is not reached, and who is reached lets out nothing. -/
theorem most_none {C : Caps} (hC : CapOk 4398046511104 C) {s t : Nat} (hs : s ∈ P16) (ht : t ∈ P16) (hne : s ≠ t) (h0 : mostOf C s t = 0) :
    (reached C s).testBit t = false ∧ cut C (fun p => (reached C s).testBit p) ≤ 0 ∧ (reached C s).testBit s = true := by
  obtain ⟨_, _, S, h1, h2, h3⟩ := most_facts (B := 4398046511104) (by decide) (by decide) hC hs ht hne (k := 9223372036854775807) (w := 9223372036854775807) (by omega) (by omega)
  have h3' : Pl.cut C S = mostOf C s t := h3
  have hz : ∀ a ∈ P16, ∀ b ∈ P16, S a = true → S b = false → C a b ≤ 0 := fun a ha b hb k1 k2 => by
    have := cut_ge hC.nonneg ha hb k1 k2
    omega
  have hcl := reached_closed C hs
  refine ⟨?_, ?_, hcl.2⟩
  · cases hb : (reached C s).testBit t with
    | false => rfl
    | true => have := reached_in hz hs h1 t hb; rw [h2] at this; cases this
  · refine cut_zero fun a ha b hb k1 k2 => ?_
    refine Int.not_lt.1 fun hlt => ?_
    have := hcl.1 a ha b hb k1 hlt
    rw [this] at k2
    cases k2

section
variable {S : Nat → Bool} {L : List Ln} {f t u : Nat} {n : Int}
/-- A payment that goes. -/
structure Paid (S : Nat → Bool) (L : List Ln) (f t u : Nat) (n : Int) : Prop where
  ok : ¬ badP f t u n
  sf : S f = true
  st : S t = true
  got : payG S L f t u n = n
  l : payL S L f t u n = pushLs L u (payR S L f t u n)
  cnt : payN S L f t u n = (payR S L f t u n).length
  pf : PayF S L (payL S L f t u n) u (payR S L f t u n)
  most : n ≤ mostF (capsL S L u) f t
  some : 1 ≤ (payR S L f t u n).length
  into : ∀ T, Pl.into (payR S L f t u n) T = n * (ind T t - ind T f)
  has : ∀ p, hasOf (payR S L f t u n) p = if p = t then n else if p = f then -n else 0

theorem most_is (C : Caps) (s t : Nat) : mostF C s t = mostOf C s t := rfl

theorem got_is (h : GoodL S L) (hsm : ∀ x ∈ L, x.small) (hb : ¬ badP f t u n) : payG S L f t u n = min n (mostF (capsL S L u) f t) ∧ 0 ≤ mostF (capsL S L u) f t := by
  obtain ⟨b1, b2, b3, b4, b5, b6, b7⟩ := not_bad hb
  have hC := capsL_good h hsm u
  have hM := mostF_of hC (mem_P16.2 b1) (mem_P16.2 b2) b3 b6
  exact ⟨hM.least, (most_bounds hC (mem_P16.2 b1) (mem_P16.2 b2) b3).1⟩

theorem paid_of (h : GoodL S L) (hs : Sorted L) (hsm : ∀ x ∈ L, x.small) (hu : u < 256) (hE : payE S L f t u n = 0) : Paid S L f t u n := by
  have hb : ¬ badP f t u n := fun hb => by unfold payE at hE; rw [if_pos hb] at hE; cases hE
  have hst : (S f && S t) = true := by
    cases hst : (S f && S t) with
    | true => rfl
    | false => unfold payE at hE; rw [if_neg hb, if_pos hst] at hE; cases hE
  have hg : ¬ payG S L f t u n < n := fun hg => by
    unfold payE at hE
    rw [if_neg hb, if_neg (by rw [hst]; decide), if_pos hg] at hE
    cases hE
  obtain ⟨b1, b2, b3, b4, b5, b6, b7⟩ := not_bad hb
  have hC := capsL_good h hsm u
  have hR := routed f t n.toNat (capsL S L u) n (by omega)
  have hM := mostF_of hC (mem_P16.2 b1) (mem_P16.2 b2) b3 b6
  have hgot : payG S L f t u n = n := by have := hM.hi; unfold payG at hg ⊢; omega
  have hin : ∀ T, Pl.into (payR S L f t u n) T = n * (ind T t - ind T f) := fun T => by
    have := hR.into T
    rw [show (route f t n.toNat (capsL S L u) n).2.1 = n from hgot] at this
    exact this
  have hL : payL S L f t u n = pushLs L u (payR S L f t u n) := by unfold payL; rw [if_pos hE]
  have hf := payF hu (payR S L f t u n) h hs hsm hR.valid
  rw [Bool.and_eq_true] at hst
  refine ⟨hb, hst.1, hst.2, hgot, hL, by unfold payN; rw [if_pos hE], by rw [hL]; exact hf, ?_, ?_, hin, fun p => ?_⟩
  · have := (got_is h hsm hb).1
    rw [hgot] at this
    omega
  · have e := hin (fun p => decide (p = t))
    cases hps : payR S L f t u n with
    | cons x l => simp
    | nil =>
      rw [hps] at e
      simp [ind, b3] at e
      omega
  · have := hM.has p
    rw [show (route f t n.toNat (capsL S L u) n).2.1 = n from hgot] at this
    exact this

theorem pay_ok (h : GoodL S L) (hsm : ∀ x ∈ L, x.small) (hb : ¬ badP f t u n) (h1 : S f = true) (h2 : S t = true) (hm : n ≤ mostF (capsL S L u) f t) : payE S L f t u n = 0 := by
  have := (got_is h hsm hb).1
  unfold payE
  rw [if_neg hb, if_neg (by rw [h1, h2]; decide), if_neg (by omega)]

theorem bad_swap (h : ¬ badP f t u n) : ¬ badP t f u n := fun h2 => by
  have := not_bad h
  exact h2 (by omega)

/-- The cuts behind a payment. -/
theorem Paid.cut (h : Paid S L f t u n) (T : Nat → Bool) : Pl.cut (capsL S (payL S L f t u n) u) T = Pl.cut (capsL S L u) T + n * (ind T t - ind T f) := by
  have hv : Valid (capsL S L u) (payR S L f t u n) := pay_valid (not_bad h.ok).2.2.2.2.2.1
  rw [h.pf.caps, cut_pushAll _ _ hv.oks, h.into]

/-- What was paid may be paid back. -/
theorem pay_back (h : GoodL S L) (hs : Sorted L) (hsm : ∀ x ∈ L, x.small) (hu : u < 256) (hE : payE S L f t u n = 0) :
    payE S (payL S L f t u n) t f u n = 0 ∧ GoodL S (payL S (payL S L f t u n) t f u n) ∧ (payL S (payL S L f t u n) t f u n).map keyL = L.map keyL ∧
    (∀ p, posOf (payL S (payL S L f t u n) t f u n) p u = posOf L p u) ∧ mostF (capsL S (payL S (payL S L f t u n) t f u n) u) f t = mostF (capsL S L u) f t := by
  have hP := paid_of h hs hsm hu hE
  obtain ⟨b1, b2, b3, b4, b5, b6, b7⟩ := not_bad hP.ok
  have hC := capsL_good h hsm u
  have hC1 := capsL_good hP.pf.good hP.pf.small u
  have hm : n ≤ mostF (capsL S (payL S L f t u n) u) t f := by
    obtain ⟨_, _, T, t1, t2, t3⟩ := most_facts (B := 4398046511104) (by decide) (by decide) hC1 (mem_P16.2 b2) (mem_P16.2 b1) (Ne.symm b3) (k := 9223372036854775807) (w := 9223372036854775807) (by omega) (by omega)
    have e : Pl.cut (capsL S (payL S L f t u n) u) T = mostF (capsL S (payL S L f t u n) u) t f := t3
    rw [hP.cut] at e
    have := cut_nonneg hC.nonneg T
    simp [ind, t1, t2] at e
    omega
  have hE2 := pay_ok hP.pf.good hP.pf.small (bad_swap hP.ok) hP.st hP.sf hm
  have hQ := paid_of hP.pf.good hP.pf.sorted hP.pf.small hu hE2
  refine ⟨hE2, hQ.pf.good, hQ.pf.keys.trans hP.pf.keys, fun p => ?_, ?_⟩
  · rw [hQ.pf.pos, hP.pf.pos, if_pos rfl, if_pos rfl, hQ.has, hP.has]
    by_cases e1 : p = f
    · subst e1
      simp [b3]
      omega
    · by_cases e2 : p = t
      · subst e2
        simp [Ne.symm b3]
        omega
      · simp [e1, e2]
  · have hC2 := capsL_good hQ.pf.good hQ.pf.small u
    obtain ⟨_, a2, a3⟩ := most_facts (B := 4398046511104) (by decide) (by decide) hC (mem_P16.2 b1) (mem_P16.2 b2) b3 (k := 9223372036854775807) (w := 9223372036854775807) (by omega) (by omega)
    obtain ⟨_, c2, c3⟩ := most_facts (B := 4398046511104) (by decide) (by decide) hC2 (mem_P16.2 b1) (mem_P16.2 b2) b3 (k := 9223372036854775807) (w := 9223372036854775807) (by omega) (by omega)
    have e : ∀ T, Pl.cut (capsL S (payL S (payL S L f t u n) t f u n) u) T = Pl.cut (capsL S L u) T := fun T => by
      rw [hQ.cut, hP.cut]
      have : n * (ind T f - ind T t) = -(n * (ind T t - ind T f)) := by rw [← Int.mul_neg]; congr 1; omega
      omega
    simp only [e] at c2 c3
    exact most_unique c2 c3 a2 a3

theorem cut_aux {A B m : Int} (h : A = B + m * (-1)) (h0 : A ≤ 0) : B ≤ m := by omega
/-- As much as goes, paid where more was asked for, leaves nothing to go. -/
theorem pay_rest (h : GoodL S L) (hs : Sorted L) (hsm : ∀ x ∈ L, x.small) (hu : u < 256) (hE : payE S L f t u n = 11) :
    mostF (capsL S L u) f t < n ∧ 0 ≤ mostF (capsL S L u) f t ∧ (1 ≤ f ∧ f ≤ 16) ∧ (1 ≤ t ∧ t ≤ 16) ∧
    (0 < mostF (capsL S L u) f t → payE S L f t u (mostF (capsL S L u) f t) = 0) ∧
    ∀ L', L' = (if 0 < mostF (capsL S L u) f t then payL S L f t u (mostF (capsL S L u) f t) else L) →
      (reached (capsL S L' u) f).testBit t = false ∧ Pl.cut (capsL S L u) (fun p => (reached (capsL S L' u) f).testBit p) ≤ mostF (capsL S L u) f t := by
  have hb : ¬ badP f t u n := fun hb => by unfold payE at hE; rw [if_pos hb] at hE; cases hE
  have hst : (S f && S t) = true := by
    cases hst : (S f && S t) with
    | true => rfl
    | false => unfold payE at hE; rw [if_neg hb, if_pos hst] at hE; cases hE
  have hg : payG S L f t u n < n := Classical.byContradiction fun hg => by
    unfold payE at hE
    rw [if_neg hb, if_neg (by rw [hst]; decide), if_neg hg] at hE
    cases hE
  obtain ⟨b1, b2, b3, b4, b5, b6, b7⟩ := not_bad hb
  have hC := capsL_good h hsm u
  obtain ⟨g1, g2⟩ := got_is h hsm hb
  rw [Bool.and_eq_true] at hst
  obtain ⟨m, hm⟩ : ∃ m, m = mostF (capsL S L u) f t := ⟨_, rfl⟩
  rw [← hm] at g1 g2 ⊢
  have hlt : m < n := by omega
  have hok : 0 < m → payE S L f t u m = 0 := fun h0 => pay_ok h hsm (fun h2 => h2 (by omega)) hst.1 hst.2 (by omega)
  refine ⟨hlt, g2, b1, b2, hok, fun L' hL' => ?_⟩
  by_cases h0 : 0 < m
  · rw [if_pos h0] at hL'
    subst hL'
    have hP := paid_of h hs hsm hu (hok h0)
    have hC1 := capsL_good hP.pf.good hP.pf.small u
    have hml := most_less hC (mem_P16.2 b1) (mem_P16.2 b2) b3 m
    have hgot : (route f t m.toNat (capsL S L u) m).2.1 = m := hP.got
    have hcaps : capsL S (payL S L f t u m) u = pushAll (capsL S L u) (route f t m.toNat (capsL S L u) m).1 := hP.pf.caps
    rw [← hcaps, hgot, ← most_is, ← most_is, ← hm, Int.sub_self] at hml
    obtain ⟨k1, k2, k3⟩ := most_none hC1 (mem_P16.2 b1) (mem_P16.2 b2) b3 hml
    refine ⟨k1, ?_⟩
    have := hP.cut (fun p => (reached (capsL S (payL S L f t u m) u) f).testBit p)
    have hi : ind (fun p => (reached (capsL S (payL S L f t u m) u) f).testBit p) t - ind (fun p => (reached (capsL S (payL S L f t u m) u) f).testBit p) f = -1 := by
      simp [ind, k1, k3]
    rw [hi] at this
    exact cut_aux this k2
  · rw [if_neg h0] at hL'
    subst hL'
    obtain ⟨k1, k2, k3⟩ := most_none hC (mem_P16.2 b1) (mem_P16.2 b2) b3 (by rw [← most_is]; omega)
    exact ⟨k1, by omega⟩
end
end Go.Proofs.Ytofnaigkfhfhoaa
namespace Go.Proofs.Ytofnaigkfhfhoaa
open Go.RowKit Go.Maps Pl
attribute [local go_sem ↓] Go.wp_at_zero Go.wp_at_succ

theorem pos_bd {S : Nat → Bool} {L : List Ln} (h : GoodL S L) (p v : Nat) : -70368744177664 ≤ posOf L p v ∧ posOf L p v ≤ 70368744177664 := by
  have := sum_take_bd h (posF p v) (posF_bd h p v) L.length
  rwa [List.take_length] at this

section
variable {a w : World} {lb mb cb nb : Nat} {S S' : Nat → Bool} {L L' : List Ln}
set_option maxRecDepth 100000 in
set_option maxHeartbeats 2000000 in
theorem moved_c (h : TL a w lb mb cb nb S L S' L') (p c : Nat) {b : Int} (hb : -1099511627776 ≤ b ∧ b ≤ 1099511627776) (hE : posOf L p c = posOf L' p c + b) :
    Calls Try.prog 31 #[.pointer (some ⟨lb, 0, none⟩), .pointer (some ⟨cb, 0, none⟩), .int .u8 p, .int .u8 c, .int .i64 b] w fun e w' => e = .returned (.bool true) ∧ Chg [] w w' := by
  have H1 := Lib.hid (lposition h.l p c)
  have H2 := Lib.hid (fun W (k : Chg [] w W) => lposition (h.c.chg0 k) p c)
  have hb2 := pos_bd h.c.good p c
  rw [hE] at H1
  generalize posOf L' p c = q at *
  clear h hE
  go_enter Try.func31, Try.ntmps31
  go_wp2_with fail
  refine H1.out.mono ?_; rintro e w1 ⟨rfl, hc⟩
  have HC := Lib.hid hc
  clear hc
  go_wp2_with fail
  refine (H2.out _ HC.out).mono ?_; rintro e w2 ⟨rfl, hc⟩
  have HC2 := Lib.hid (HC.out.trans hc)
  clear hc
  go_wp2
  go_ret
  exact ⟨rfl, HC2.out⟩

theorem own_open {w : World} {base : Nat} {t : TypeId} {v : Value} {l : List Ln} (h : w.ownsRow base t 5 v l.length (lnsCells l)) :
    ∃ ao cap, v = .slice ao l.length cap ∧ (0 < l.length → ∃ g cs, ao = some ⟨g, 0, none⟩ ∧ base ≤ g ∧ Blk w g t cs ∧ ∀ i (hi : i < l.length) j u, (lnCells l[i])[j]? = some u → cs[i * 5 + j]? = some u) := by
  obtain ⟨hl, ⟨rfl, h0⟩ | ⟨g, cap, cs, rfl, hb, hg, hn, hm, hs, ht⟩⟩ := h
  · exact ⟨none, 0, by rw [h0], fun h => by omega⟩
  · refine ⟨_, _, rfl, fun _ => ⟨g, cs, rfl, hb, hg, fun i hi j u hu => ?_⟩⟩
    have hj : j < 5 := by
      have := (List.getElem?_eq_some_iff.1 hu).1
      rwa [lnCells_len] at this
    have hlt : i * 5 + j < l.length * 5 := by omega
    have e := flat_get lnCells_len l i hi j hj
    have e' : (lnsCells l)[i * 5 + j]? = some u := e.trans hu
    rw [← ht, List.getElem?_take_of_lt hlt] at e'
    simpa using e'

/-- A row of lines, from the k-th on. -/
def RowFrom (W : World) (g : Nat) (t : TypeId) (k : Nat) (l : List Ln) : Prop := ∃ cs, Blk W g t cs ∧ ∀ i, k ≤ i → ∀ (hi : i < l.length) j u, (lnCells l[i])[j]? = some u → cs[i * 5 + j]? = some u
theorem RowFrom.isLn {W : World} {g k : Nat} {t : TypeId} {l : List Ln} (h : RowFrom W g t k l) (hk : k < l.length) :
    (W.cell? ⟨g, k * 5, none⟩ = some (.int .u8 l[k].cr) ∧ W.cell? ⟨g, k * 5 + 1, none⟩ = some (.int .u8 l[k].db) ∧ W.cell? ⟨g, k * 5 + 2, none⟩ = some (.int .u8 l[k].cu) ∧ W.cell? ⟨g, k * 5 + 3, none⟩ = some (.int .i64 l[k].lim) ∧ W.cell? ⟨g, k * 5 + 4, none⟩ = some (.int .i64 l[k].deb)) ∧ W.frozen? ⟨g, k * 5 + 4, none⟩ = false := by
  obtain ⟨cs, hb, hc⟩ := h
  refine ⟨⟨?_, ?_, ?_, ?_, ?_⟩, hb.frozen _⟩
  all_goals rw [hb.cell]
  · exact hc k (Nat.le_refl _) hk 0 _ rfl
  · exact hc k (Nat.le_refl _) hk 1 _ rfl
  · exact hc k (Nat.le_refl _) hk 2 _ rfl
  · exact hc k (Nat.le_refl _) hk 3 _ rfl
  · exact hc k (Nat.le_refl _) hk 4 _ rfl
theorem RowFrom.set {W : World} {g k : Nat} {t : TypeId} {l : List Ln} (h : RowFrom W g t k l) (v : Value) : RowFrom (W.setCell ⟨g, k * 5 + 4, none⟩ v) g t (k + 1) l := by
  obtain ⟨cs, hb, hc⟩ := h
  refine ⟨_, hb.set _ v, fun i hi hl j u hu => ?_⟩
  rw [Array.getElem?_setIfInBounds_ne (by omega)]
  exact hc i (by omega) hl j u hu
theorem RowFrom.far {W : World} {g k : Nat} {t : TypeId} {l : List Ln} (h : RowFrom W g t k l) {a : Addr} (hne : g ≠ a.block) (v : Value) : RowFrom (W.setCell a v) g t k l := by
  obtain ⟨cs, hb, hc⟩ := h
  exact ⟨cs, hb.far hne v, hc⟩
theorem RowFrom.drewN {W : World} {g k : Nat} {t : TypeId} {l : List Ln} (h : RowFrom W g t k l) (n : Nat) : RowFrom (W.drewN n) g t k l := by
  obtain ⟨cs, hb, hc⟩ := h
  exact ⟨cs, hb.drewN n, hc⟩

set_option maxRecDepth 100000 in
set_option maxHeartbeats 4000000 in
theorem sound_c (h : TL a w lb mb cb nb S L S' L') (hk : L.map keyL = L'.map keyL) :
    Calls Try.prog 30 #[.pointer (some ⟨lb, 0, none⟩), .pointer (some ⟨cb, 0, none⟩)] w fun e w' => e = .returned (.bool true) ∧ Chg [] w w' := by
  have hlen : L'.length = L.length := by have := congrArg List.length hk; simpa using this.symm
  have hfew := h.l.good.few
  have HK : Hid (∀ k (h1 : k < L.length) (h2 : k < L'.length), keyL L[k] = keyL L'[k]) := Lib.hid fun k h1 h2 => by
    have := congrArg (fun l => l[k]?) hk
    simp only [List.getElem?_map, List.getElem?_eq_getElem h1, List.getElem?_eq_getElem h2, Option.map_some, Option.some.injEq] at this
    exact this
  have HO := Lib.hid h.l.good.owed
  have H1 := Lib.hid (llines h.l)
  have H2 := Lib.hid (fun W (k : Chg [] w W) => llines (h.c.chg0 k))
  clear h hk
  go_enter Try.func30, Try.ntmps30
  go_wp2_with fail
  refine H1.out.mono ?_; rintro e w1 ⟨⟨v1, rfl, ho1⟩, hc⟩
  have HC := Lib.hid hc
  have HO1 := Lib.hid (own_open ho1)
  clear hc ho1
  go_wp2_with fail
  refine (H2.out _ HC.out).mono ?_; rintro e w2 ⟨⟨v2, rfl, ho2⟩, hc⟩
  have HC2 := Lib.hid hc
  have HO2 := Lib.hid (own_open ho2)
  clear hc ho2
  obtain ⟨ao1, cap1, rfl, h1⟩ := HO1.out
  obtain ⟨ao2, cap2, rfl, h2⟩ := HO2.out
  rw [hlen]
  clear HO1 HO2
  by_cases hn : L.length = 0
  · rw [hn]
    clear h1 h2 HK HO
    go_wp2
    refine wp_loop_rounds 1 ?_
    rw [rounds_succ]
    go_wp2
    go_ret
    exact ⟨rfl, HC.out.trans HC2.out⟩
  obtain ⟨g1, c1, rfl, b1, k1, r1⟩ := h1 (by omega)
  obtain ⟨g2, c2, rfl, b2, k2, r2⟩ := h2 (by omega)
  have hgg : g1 ≠ g2 := by have := k1.lt; omega
  have HB1 : Hid (w.heap.size ≤ g1) := Lib.hid b1
  have HB2 : Hid (w.heap.size ≤ g2) := Lib.hid (Nat.le_trans HC.out.size b2)
  have HR : Hid (RowFrom w2 g1 62 0 L ∧ RowFrom w2 g2 62 0 L') := Lib.hid ⟨⟨c1, k1.chg HC2.out (by simp), fun i _ hi j u hu => r1 i hi j u hu⟩, ⟨c2, k2, fun i _ hi j u hu => r2 i (by omega) j u hu⟩⟩
  have HCC := Lib.hid (HC.out.trans HC2.out)
  clear h1 h2 r1 r2 k1 k2 b1 b2 HC HC2 hn
  go_wp2
  go_loopw [7] (fun i wr => ∃ k : Nat, k ≤ L.length ∧ i = .int .i64 k ∧ Hid (RowFrom wr g1 62 k L ∧ RowFrom wr g2 62 k L' ∧ Chg [] w wr)) (fun i _ => L.length - (intOf i).toNat)
  case atStart => exact ⟨0, by omega, rfl, Lib.hid ⟨HR.out.1, HR.out.2, HCC.out⟩⟩
  case round =>
    obtain ⟨k, hk, rfl, HI⟩ := hrel
    by_cases hlt : k < L.length
    · have hlt2 : k < L'.length := by omega
      obtain ⟨⟨p0, p1, p2, p3, p4⟩, f1⟩ := HI.out.1.isLn hlt
      obtain ⟨⟨q0, q1, q2, q3, q4⟩, f2⟩ := HI.out.2.1.isLn hlt2
      have hkey := HK.out k hlt hlt2
      have ho := HO.out L[k] (List.getElem_mem hlt)
      have HN : Hid (∀ nq : Nat, RowFrom (((wr.drewN nq).setCell ⟨g1, k * 5 + 4, none⟩ (.int .i64 0)).setCell ⟨g2, k * 5 + 4, none⟩ (.int .i64 0)) g1 62 (k + 1) L ∧ RowFrom (((wr.drewN nq).setCell ⟨g1, k * 5 + 4, none⟩ (.int .i64 0)).setCell ⟨g2, k * 5 + 4, none⟩ (.int .i64 0)) g2 62 (k + 1) L' ∧ Chg [] w (((wr.drewN nq).setCell ⟨g1, k * 5 + 4, none⟩ (.int .i64 0)).setCell ⟨g2, k * 5 + 4, none⟩ (.int .i64 0))) :=
        Lib.hid fun nq => ⟨((HI.out.1.drewN nq).set _).far hgg _, ((HI.out.2.1.drewN nq).far (a := ⟨g1, k * 5 + 4, none⟩) (Ne.symm hgg) _).set _, ((HI.out.2.2.drewN nq).setCell (p := ⟨g1, k * 5 + 4, none⟩) (.inr HB1.out) _).setCell (p := ⟨g2, k * 5 + 4, none⟩) (.inr HB2.out) _⟩
      generalize L[k] = x at p0 p1 p2 p3 p4 hkey ho
      generalize L'[k] = y at q0 q1 q2 q3 q4 hkey
      obtain ⟨xc, xd, xu, xl, xn⟩ := x
      obtain ⟨yc, yd, yu, yl, yn⟩ := y
      simp only [keyL, Prod.mk.injEq] at hkey
      obtain ⟨rfl, rfl, rfl, rfl⟩ := hkey
      dsimp only at p0 p1 p2 p3 p4 q0 q1 q2 q3 q4 ho
      have t1 : decide (xn < 0) = false := decide_eq_false (by omega)
      have t2 : decide (xl < xn) = false := decide_eq_false (by omega)
      have hq := fun W => run_neqL ⟨xc, xd, xu, xl, 0⟩ ⟨xc, xd, xu, xl, 0⟩ W
      simp only [ne_eq, not_true_eq_false, decide_false] at hq
      go_wp2_with fail
      go_quiet (fail)
      replace HN := Lib.hid (HN.out nq)
      go_wp2_with fail
      go_quiet (fail)
      go_wp2
      go_roundw
      case rel => exact ⟨k + 1, by omega, by go_num, Lib.hid ⟨HN.out.1.drewN _, HN.out.2.1.drewN _, HN.out.2.2.drewN _⟩⟩
      case measure => simp [intOf]; omega
    · obtain rfl : k = L.length := by omega
      go_wp2
      go_ret
      exact ⟨rfl, HI.out.2.2⟩
end
end Go.Proofs.Ytofnaigkfhfhoaa
