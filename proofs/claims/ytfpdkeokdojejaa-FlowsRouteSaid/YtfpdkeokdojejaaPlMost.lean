/-
  Plain law: what the route's pushes come to for each party; how many there are; who is reached behind it.
-/
import Derived.Test.YtfpdkeokdojejaaPlLoop
import Derived.Test.YtfpdkeokdojejaaPlReach
namespace Go.Proofs.Ytfpdkeokdojejaa.Pl

attribute [local irreducible] hops

theorem RS.len {C0 : Caps} {s t K0 : Nat} {w : Int} (ht : t ∈ P16) : ∀ (d k : Nat) {C : Caps} {ps : List Fl} {got : Int}, k + d = 70162 → RS C0 s t K0 w k C ps got → (route s t K0 C0 w).1.length ≤ 1052415
  | 0, k, C, ps, got, hd, h => by have := h.few; omega
  | d + 1, k, C, ps, got, hd, h => by
    have hn := h.num
    have hf := h.few
    by_cases hfull : got = w
    · subst hfull
      rw [h.full]
      show ps.length ≤ _; omega
    · by_cases hs : short C s t = []
      · rw [h.none hs]
        show ps.length ≤ _; omega
      · exact RS.len ht d (k + 1) (by omega) (h.step ht (by have := h.le; omega) hs)
theorem route_len {C : Caps} (hC : CapOk 4398046511104 C) (s t : Nat) {w : Int} : (route s t w.toNat C w).1.length ≤ 1052415 := by
  by_cases hw : w ≤ 0
  · rw [route_done s t _ C hw]; simp
  · by_cases ht : t ∈ P16
    · exact RS.len ht 70162 0 (by omega) (RS.start s t w.toNat hC (by omega) (by omega))
    · have : short C s t = [] := by
        unfold short
        rw [if_neg]
        rintro ⟨_, h2, _⟩
        exact ht h2
      rw [route_none s t _ w this]; simp

/-- What a party has of pushes. -/
def hasOf (ps : List Fl) (p : Nat) : Int := into ps (fun q => decide (q = p))
theorem hasOf_snoc (ps : List Fl) (x : Fl) (p : Nat) : hasOf (ps ++ [x]) p = hasOf ps p + x.n * ((if x.t = p then 1 else 0) - (if x.f = p then 1 else 0)) := by
  unfold hasOf
  rw [into_append]
  simp [ind]
theorem hasOf_le {C : Caps} {B : Int} (hB : 0 ≤ B) : ∀ (ps : List Fl) (p : Nat), (∀ x ∈ ps, 0 ≤ x.n ∧ x.n ≤ B) → - (ps.length * B) ≤ hasOf ps p ∧ hasOf ps p ≤ ps.length * B
  | [], p, _ => by simp [hasOf]
  | x :: ps, p, h => by
    have ih := hasOf_le (C := C) hB ps p fun y hy => h y (by simp [hy])
    have h0 := h x (by simp)
    unfold hasOf at *
    rw [into_cons, List.length_cons, Int.natCast_succ, Int.add_mul, Int.one_mul]
    generalize (ps.length : Int) * B = L at *
    generalize Pl.into ps (fun q => decide (q = p)) = I at *
    have hi1 := ind_01 (fun q => decide (q = p)) x.t
    have hi2 := ind_01 (fun q => decide (q = p)) x.f
    rcases hi1 with e1 | e1 <;> rcases hi2 with e2 | e2 <;> rw [e1, e2] <;> simp <;> omega

theorem valid_n {B : Int} : ∀ {ps : List Fl} {C : Caps}, CapOk B C → Valid C ps → ∀ x ∈ ps, 0 ≤ x.n ∧ x.n ≤ B
  | [], _, _, _, x, hx => by simp at hx
  | y :: ps, C, hC, hv, x, hx => by
    rw [List.mem_cons] at hx
    rcases hx with rfl | hx
    · have h1 := hv.2.1
      have h2 := hv.2.2.1
      have := hC.le x.f x.t
      omega
    · exact valid_n (hC.push hv.1 hv.2.1 hv.2.2.1) hv.2.2.2 x hx

/-- The route of what is wanted, from one to another: all that the statement asks. -/
structure MostF (C : Caps) (s t : Nat) (want : Int) : Prop where
  valid : Valid C (route s t want.toNat C want).1
  lo : 0 ≤ (route s t want.toNat C want).2.1
  hi : (route s t want.toNat C want).2.1 ≤ want
  has : ∀ p, hasOf (route s t want.toNat C want).1 p = (if p = t then (route s t want.toNat C want).2.1 else if p = s then -(route s t want.toNat C want).2.1 else 0)
  least : (route s t want.toNat C want).2.1 = min want (mostOf C s t)
  off : (route s t want.toNat C want).2.1 < want → (reached (pushAll C (route s t want.toNat C want).1) s).testBit t = false
  cut : (route s t want.toNat C want).2.1 < want → cut C (fun p => (reached (pushAll C (route s t want.toNat C want).1) s).testBit p) ≤ (route s t want.toNat C want).2.1

theorem mostF_of {C : Caps} (hC : CapOk 4398046511104 C) {s t : Nat} (hs : s ∈ P16) (ht : t ∈ P16) (hne : s ≠ t) {want : Int} (hw : 1 ≤ want) : MostF C s t want := by
  have hR := routed s t want.toNat C want (by omega)
  have hM := most_facts (B := 4398046511104) (by decide) (by decide) hC hs ht hne (k := 9223372036854775807) (w := 9223372036854775807) (by omega) (by omega)
  have hM' : mostOf C s t = (route s t 9223372036854775807 C 9223372036854775807).2.1 := rfl
  rw [← hM'] at hM
  clear hM'
  obtain ⟨m, hm⟩ : ∃ m, m = mostOf C s t := ⟨_, rfl⟩
  rw [← hm] at hM
  obtain ⟨hM1, hM2, hM3⟩ := hM
  have hle := hR.le
  have hcut := fun (h : (route s t want.toNat C want).2.1 < want) => hR.cut hC hs ht hne (by omega) h
  have hlec := fun (S : Nat → Bool) (h1 : S s = true) (h2 : S t = false) => hR.le_cut hC h1 h2
  have hval := hR.valid
  have hcaps := hR.caps
  have hnn := hR.nonneg
  have hfull := hR.full
  have hin := hR.into
  generalize hr : route s t want.toNat C want = r at *
  have hshort : r.2.1 < want → short r.2.2 s t = [] := fun hlt => by
    rcases hfull with e | e | e
    · omega
    · exact e
    · omega
  have hgood := hC.pushAll hval
  have hhi : r.2.1 ≤ want := by clear hM3 hM2 hM1 hcut hlec hfull; omega
  refine ⟨by rw [hr]; exact hval, by rw [hr]; exact hnn, by rw [hr]; exact hhi, fun p => ?_, ?_, ?_, ?_⟩
  · rw [hr]
    unfold hasOf
    rw [hin]
    unfold ind
    by_cases h1 : p = t
    · subst h1
      simp [hne]
    · by_cases h2 : p = s
      · subst h2
        simp [Ne.symm h1, h1]
      · simp [h1, h2, Ne.symm h1, Ne.symm h2]
  · rw [hr, ← hm]
    by_cases hlt : r.2.1 < want
    · have e := most_unique (fun S h1 h2 => (hlec S h1 h2).1) (hcut hlt) hM2 hM3
      clear hM3 hM2 hM1 hcut hlec hfull
      omega
    · obtain ⟨S, h1, h2, h3⟩ := hM3
      have := (hlec S h1 h2).1
      clear hM2 hM1 hcut hlec hfull
      omega
  · intro hlt
    rw [hr] at hlt ⊢
    obtain ⟨S, h1, h2, h3⟩ := short_none hs ht hne (hshort hlt)
    rw [hcaps] at h3
    cases hb : (reached (pushAll C r.1) s).testBit t with
    | false => rfl
    | true => have := reached_in h3 hs h1 t hb; rw [h2] at this; cases this
  · intro hlt
    rw [hr] at hlt ⊢
    obtain ⟨S, h1, h2, h3⟩ := short_none hs ht hne (hshort hlt)
    rw [hcaps] at h3
    have hcl := reached_closed (pushAll C r.1) hs
    have hoff : (reached (pushAll C r.1) s).testBit t = false := by
      cases hb : (reached (pushAll C r.1) s).testBit t with
      | false => rfl
      | true => have := reached_in h3 hs h1 t hb; rw [h2] at this; cases this
    have hz : Pl.cut (pushAll C r.1) (fun p => (reached (pushAll C r.1) s).testBit p) ≤ 0 := cut_zero fun a ha b hb h1 h2 => by
      refine Int.not_lt.1 fun hlt => ?_
      have := hcl.1 a ha b hb h1 hlt
      rw [this] at h2
      cases h2
    have := (hlec (fun p => (reached (pushAll C r.1) s).testBit p) hcl.2 hoff).2
    rw [hcaps] at this
    omega

/-- What goes at most goes in two asks, one behind the other. -/
theorem most_less {C : Caps} (hC : CapOk 4398046511104 C) {s t : Nat} (hs : s ∈ P16) (ht : t ∈ P16) (hne : s ≠ t) (want : Int) :
    mostOf (pushAll C (route s t want.toNat C want).1) s t = mostOf C s t - (route s t want.toNat C want).2.1 := by
  have hR := routed s t want.toNat C want (by omega)
  have hgood := hC.pushAll hR.valid
  obtain ⟨_, a2, a3⟩ := most_facts (B := 4398046511104) (by decide) (by decide) hC hs ht hne (k := 9223372036854775807) (w := 9223372036854775807) (by omega) (by omega)
  obtain ⟨_, b2, b3⟩ := most_facts (B := 4398046511104) (by decide) (by decide) hgood hs ht hne (k := 9223372036854775807) (w := 9223372036854775807) (by omega) (by omega)
  have hle := fun (S : Nat → Bool) (h1 : S s = true) (h2 : S t = false) => hR.le_cut hC h1 h2
  rw [hR.caps] at hle
  refine most_unique (C := pushAll C (route s t want.toNat C want).1) (s := s) (t := t) b2 b3 (fun S h1 h2 => ?_) ?_
  · have h3 := a2 S h1 h2
    have h4 := (hle S h1 h2).2
    unfold mostOf
    omega
  · obtain ⟨S, h1, h2, h3⟩ := a3
    refine ⟨S, h1, h2, ?_⟩
    have h4 := (hle S h1 h2).2
    unfold mostOf
    omega
theorem most_bounds {C : Caps} (hC : CapOk 4398046511104 C) {s t : Nat} (hs : s ∈ P16) (ht : t ∈ P16) (hne : s ≠ t) :
    0 ≤ mostOf C s t ∧ mostOf C s t ≤ 1125899906842624 ∧ ∀ S : Nat → Bool, S s = true → S t = false → mostOf C s t ≤ cut C S := by
  obtain ⟨a1, a2, a3⟩ := most_facts (B := 4398046511104) (by decide) (by decide) hC hs ht hne (k := 9223372036854775807) (w := 9223372036854775807) (by omega) (by omega)
  refine ⟨a1, ?_, a2⟩
  obtain ⟨S, h1, h2, h3⟩ := a3
  have := cut_le (B := 4398046511104) (by decide) hC S
  unfold mostOf
  omega
end Go.Proofs.Ytfpdkeokdojejaa.Pl
