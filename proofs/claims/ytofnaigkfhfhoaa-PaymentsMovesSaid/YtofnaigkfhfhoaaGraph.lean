/-
  The package graphs: a graph in memory, and what may, there, Cap, Push, Copy do to it.
-/
import Derived.Test.YtofnaigkfhfhoaaBase
import Derived.Test.YtofnaigkfhfhoaaPlFlow
namespace Go.Proofs.Ytofnaigkfhfhoaa
open Go.RowKit Pl

/-- A graph's first 289 cells. -/
def capsA (C : Caps) : List Value := (List.range 289).map fun k => .int .i64 (C (k / 17) (k % 17))
theorem capsA_length (C : Caps) : (capsA C).length = 289 := by simp [capsA]
/-- All its cells. -/
def gcells (C : Caps) (m : Bool) : Array Value := (capsA C ++ [Value.bool m]).toArray
theorem gcells_size (C : Caps) (m : Bool) : (gcells C m).size = 290 := by simp [gcells, capsA_length]
theorem gcells_get (C : Caps) (m : Bool) {i j : Nat} (hi : i < 17) (hj : j < 17) : (gcells C m)[i * 17 + j]? = some (.int .i64 (C i j)) := by
  have h : i * 17 + j < 289 := by omega
  have e1 : (i * 17 + j) / 17 = i := by omega
  have e2 : (i * 17 + j) % 17 = j := by omega
  simp only [gcells, List.getElem?_toArray]
  rw [List.getElem?_append_left (by rw [capsA_length]; exact h)]
  simp [capsA, List.getElem?_map, List.getElem?_range h, e1, e2]
theorem gcells_made (C : Caps) (m : Bool) : (gcells C m)[289]? = some (.bool m) := by
  simp only [gcells, List.getElem?_toArray]
  rw [List.getElem?_append_right (by rw [capsA_length]; exact Nat.le_refl _), capsA_length]
  rfl
def set2 (C : Caps) (i j : Nat) (v : Int) : Caps := fun a b => if a = i ∧ b = j then v else C a b
theorem gcells_set (C : Caps) (m : Bool) {i j : Nat} (hi : i < 17) (hj : j < 17) (v : Int) : (gcells C m).setIfInBounds (i * 17 + j) (.int .i64 v) = gcells (set2 C i j v) m := by
  apply Array.ext_getElem?
  intro k
  rw [Array.getElem?_setIfInBounds]
  by_cases hk : k < 289
  · obtain ⟨a, c, ha, hc, rfl⟩ : ∃ a c, a < 17 ∧ c < 17 ∧ k = a * 17 + c := ⟨k / 17, k % 17, by omega, by omega, by omega⟩
    rw [gcells_get _ _ ha hc, gcells_get _ _ ha hc]
    by_cases e : i * 17 + j = a * 17 + c
    · obtain rfl : i = a := by omega
      obtain rfl : j = c := by omega
      rw [if_pos rfl, if_pos (by rw [gcells_size]; omega)]
      simp [set2]
    · rw [if_neg e]
      have : ¬ (a = i ∧ c = j) := by rintro ⟨rfl, rfl⟩; exact e rfl
      simp [set2, this]
  · rw [if_neg (by omega)]
    by_cases e : k = 289
    · subst e; rw [gcells_made, gcells_made]
    · rw [Array.getElem?_eq_none (by rw [gcells_size]; omega), Array.getElem?_eq_none (by rw [gcells_size]; omega)]

theorem set2_push (C : Caps) {f t : Nat} (hne : f ≠ t) (n : Int) : set2 (set2 C f t (C f t - n)) t f (C t f + n) = push C f t n := by
  funext a b
  unfold set2 push
  by_cases h1 : a = t ∧ b = f
  · obtain ⟨rfl, rfl⟩ := h1
    rw [if_pos ⟨rfl, rfl⟩, if_neg (by omega), if_pos ⟨rfl, rfl⟩]
  · rw [if_neg h1]
    by_cases h2 : a = f ∧ b = t
    · obtain ⟨rfl, rfl⟩ := h2
      rw [if_pos ⟨rfl, rfl⟩, if_pos ⟨rfl, rfl⟩]
    · rw [if_neg h2, if_neg h2, if_neg h1]

/-- Block b is a graph with these capacities. -/
structure IsG (w : World) (b : Nat) (C : Caps) : Prop where
  blk : Blk w b 164 (gcells C true)
  good : CapOk 4398046511104 C

section
variable {w w' : World} {b : Nat} {C : Caps}
theorem IsG.same (h : IsG w b C) (e : w'.heap[b]? = w.heap[b]?) : IsG w' b C := ⟨h.blk.same e, h.good⟩
theorem IsG.chg {s : List Nat} (h : IsG w b C) (k : Chg s w w') (hn : b ∉ s) : IsG w' b C := ⟨h.blk.chg k hn, h.good⟩
theorem IsG.alloc (h : IsG w b C) (o : Obj) : IsG (w.alloc o) b C := ⟨h.blk.alloc o, h.good⟩
theorem IsG.drew (h : IsG w b C) : IsG w.drew b C := ⟨h.blk, h.good⟩
theorem IsG.drewN (h : IsG w b C) (n : Nat) : IsG (w.drewN n) b C := ⟨h.blk, h.good⟩
theorem IsG.lt (h : IsG w b C) : b < w.heap.size := h.blk.lt
theorem IsG.cell (h : IsG w b C) {i j : Nat} (hi : i < 17) (hj : j < 17) : w.cell? ⟨b, i * 17 + j, none⟩ = some (.int .i64 (C i j)) := by rw [h.blk.cell, gcells_get _ _ hi hj]
theorem IsG.made (h : IsG w b C) : w.cell? ⟨b, 289, none⟩ = some (.bool true) := by rw [h.blk.cell, gcells_made]
theorem IsG.frozen (h : IsG w b C) (o : Nat) : w.frozen? ⟨b, o, none⟩ = false := h.blk.frozen o
end

/-! ### may, there -/

theorem gmay_yes (p : Int) (w : World) (h0 : 1 ≤ p) (h1 : p ≤ 16) : Calls Try.prog 131 #[.int .u8 p] w fun e w' => e = .returned (.bool true) ∧ w = w' := by
  go_enter Try.func131, Try.ntmps131
  go_wp2
  go_ret
  have : decide (p ≤ 16) = true := by simpa using h1
  exact ⟨by rw [← this]; rfl, rfl⟩

theorem gmay_no (p : Int) (w : World) (h0 : p < 1 ∨ 16 < p) : Calls Try.prog 131 #[.int .u8 p] w fun e w' => e = .returned (.bool false) ∧ w = w' := by
  rcases h0 with h | h
  · go_enter Try.func131, Try.ntmps131
    go_wp2
    go_ret
    exact ⟨rfl, rfl⟩
  · go_enter Try.func131, Try.ntmps131
    have h1 : 1 ≤ p := by omega
    go_wp2
    go_ret
    have : decide (p ≤ 16) = false := by simpa using h
    exact ⟨by rw [← this]; rfl, rfl⟩

theorem gthere_yes {b : Nat} {w : World} (h : w.cell? ⟨b, 289, none⟩ = some (.bool true)) : Calls Try.prog 130 #[.pointer (some ⟨b, 0, none⟩)] w fun e w' => e = .returned (.bool true) ∧ w = w' := by
  go_enter Try.func130, Try.ntmps130
  go_wp2
  go_ret
  exact ⟨rfl, rfl⟩

/-- A graph that is not there: nil, or one that no call made. -/
def VoidG (w : World) (v : Value) : Prop := v = .pointer none ∨ ∃ b, v = .pointer (some ⟨b, 0, none⟩) ∧ w.cell? ⟨b, 289, none⟩ = some (.bool false)

theorem gthere_no {v : Value} {w : World} (h : VoidG w v) : Calls Try.prog 130 #[v] w fun e w' => e = .returned (.bool false) ∧ w = w' := by
  rcases h with rfl | ⟨b, rfl, h⟩
  · go_enter Try.func130, Try.ntmps130
    go_wp2
    go_ret
    exact ⟨rfl, rfl⟩
  · go_enter Try.func130, Try.ntmps130
    go_wp2
    go_ret
    exact ⟨rfl, rfl⟩

/-! ### Cap -/

set_option maxHeartbeats 400000 in
theorem gcap {w : World} {b : Nat} {C : Caps} (h : IsG w b C) {p q : Int} {f t : Nat} (hp : p = f) (hq : q = t) :
    Calls Try.prog 107 #[.pointer (some ⟨b, 0, none⟩), .int .u8 p, .int .u8 q] w fun e w' => e = .returned (.int .i64 (C f t)) ∧ w = w' := by
  have hm := h.made
  by_cases hp1 : 1 ≤ f ∧ f ≤ 16
  · by_cases hq1 : 1 ≤ t ∧ t ≤ 16
    · have hcc : w.cell? ⟨b, p.toNat * 17 + q.toNat, none⟩ = some (.int .i64 (C f t)) := by
        rw [hp, hq]; exact h.cell (by omega) (by omega)
      obtain ⟨h1, h2⟩ : 1 ≤ p ∧ p ≤ 16 := by omega
      obtain ⟨h3, h4⟩ : 1 ≤ q ∧ q ≤ 16 := by omega
      clear hp hq hp1 hq1
      go_enter Try.func107, Try.ntmps107
      go_wp2_with (first | (go_at_call 130; refine (gthere_yes hm).mono ?_; rintro e w' ⟨rfl, rfl⟩) | (go_at_call 131; refine (gmay_yes _ _ (by omega) (by omega)).mono ?_; rintro e w' ⟨rfl, rfl⟩))
      go_ret
      exact ⟨rfl, rfl⟩
    · have e : C f t = 0 := h.good.off f t (.inr (.inl (by rw [mem_P16]; omega)))
      rw [e]
      have hq' : q < 1 ∨ 16 < q := by omega
      have hp' : 1 ≤ p ∧ p ≤ 16 := by omega
      clear e hp hq hp1 hq1
      go_enter Try.func107, Try.ntmps107
      go_wp2_with fail
      refine (gthere_yes hm).mono ?_; rintro e w' ⟨rfl, rfl⟩
      go_wp2_with fail
      refine (gmay_yes _ _ (by omega) (by omega)).mono ?_; rintro e w' ⟨rfl, rfl⟩
      go_wp2_with fail
      refine (gmay_no _ _ hq').mono ?_; rintro e w' ⟨rfl, rfl⟩
      go_wp2
      go_ret
      exact ⟨rfl, rfl⟩
  · have e : C f t = 0 := h.good.off f t (.inl (by rw [mem_P16]; omega))
    rw [e]
    have hp' : p < 1 ∨ 16 < p := by omega
    clear e hp hp1
    go_enter Try.func107, Try.ntmps107
    go_wp2_with fail
    refine (gthere_yes hm).mono ?_; rintro e w' ⟨rfl, rfl⟩
    go_wp2_with fail
    refine (gmay_no _ _ hp').mono ?_; rintro e w' ⟨rfl, rfl⟩
    go_wp2
    go_ret
    exact ⟨rfl, rfl⟩

theorem gcap_void {w : World} {v : Value} (h : VoidG w v) (p q : Int) :
    Calls Try.prog 107 #[v, .int .u8 p, .int .u8 q] w fun e w' => e = .returned (.int .i64 0) ∧ w = w' := by
  go_enter Try.func107, Try.ntmps107
  go_wp2_with (go_at_call 130; refine (gthere_no h).mono ?_; rintro e w' ⟨rfl, rfl⟩)
  go_ret
  exact ⟨rfl, rfl⟩

/-! ### Push -/

/-- What a push answers. -/
def pushE (C : Caps) (f t : Nat) (n : Int) : Int := if n < 1 then 1 else if C f t < n then 11 else 0
/-- The capacities behind it. -/
def pushC (C : Caps) (f t : Nat) (n : Int) : Caps := if pushE C f t n = 0 then push C f t n else C

theorem gpush_void {w : World} {v : Value} (h : VoidG w v) (p q n : Int) :
    Calls Try.prog 114 #[v, .int .u8 p, .int .u8 q, .int .i64 n] w fun e w' => e = .returned (.int .i64 2) ∧ w = w' := by
  go_enter Try.func114, Try.ntmps114
  go_wp2_with (go_at_call 130; refine (gthere_no h).mono ?_; rintro e w' ⟨rfl, rfl⟩)
  go_ret
  exact ⟨rfl, rfl⟩

theorem push_in {C : Caps} {B : Int} (hC : CapOk B C) {f t : Nat} {n : Int} (h1 : 1 ≤ n) (h2 : n ≤ C f t) : f ∈ P16 ∧ t ∈ P16 ∧ f ≠ t := by
  refine ⟨Classical.byContradiction fun e => ?_, Classical.byContradiction fun e => ?_, fun e => ?_⟩
  · have := hC.off f t (.inl e); omega
  · have := hC.off f t (.inr (.inl e)); omega
  · have := hC.off f t (.inr (.inr e)); omega

theorem pushC_good {C : Caps} {B : Int} (hC : CapOk B C) (f t : Nat) (n : Int) : CapOk B (pushC C f t n) := by
  unfold pushC pushE
  by_cases h1 : n < 1
  · simp [h1]; exact hC
  · by_cases h2 : C f t < n
    · simp [h1, h2]; exact hC
    · simp [h1, h2]
      exact hC.push (x := ⟨f, t, n⟩) (push_in hC (Int.not_lt.1 h1) (Int.not_lt.1 h2)) (Int.not_lt.1 h1) (Int.not_lt.1 h2)

set_option maxHeartbeats 1000000 in
theorem gpush_ok {w : World} {b : Nat} {C : Caps} (h : IsG w b C) {f t : Nat} {n : Int} (hn : 1 ≤ n) (hn' : n ≤ C f t) {p q : Int} (hp : p = f) (hq : q = t) :
    Calls Try.prog 114 #[.pointer (some ⟨b, 0, none⟩), .int .u8 p, .int .u8 q, .int .i64 n] w fun e w' => e = .returned (.int .i64 0) ∧ IsG w' b (push C f t n) ∧ Chg [b] w w' := by
  subst hp hq
  obtain ⟨hf, ht, hne⟩ := push_in h.good hn hn'
  have hg' := h.good.push (x := ⟨f, t, n⟩) ⟨hf, ht, hne⟩ hn hn'
  rw [mem_P16] at hf ht
  have hth := gthere_yes h.made
  have H1 := Lib.hid hth
  have hcap := gcap h (p := f) (q := t) rfl rfl
  have H2 := Lib.hid hcap
  have hle := h.good.le f t
  have hle2 := h.good.le t f
  have hnn := h.good.nonneg t f
  have hB := h.blk
  have c1 : w.cell? ⟨b, f * 17 + t, none⟩ = some (.int .i64 (C f t)) := h.cell (by omega) (by omega)
  have c2 : w.cell? ⟨b, t * 17 + f, none⟩ = some (.int .i64 (C t f)) := h.cell (by omega) (by omega)
  have f1 := h.frozen (f * 17 + t)
  have f2 := h.frozen (t * 17 + f)
  have hb1 := hB.set (f * 17 + t) (.int .i64 (C f t - n))
  rw [gcells_set _ _ (by omega) (by omega)] at hb1
  have hb2 := hb1.set (t * 17 + f) (.int .i64 (C t f + n))
  rw [gcells_set _ _ (by omega) (by omega), set2_push C hne] at hb2
  have hC1 : Chg [b] w ((w.setCell ⟨b, f * 17 + t, none⟩ (.int .i64 (C f t - n))).setCell ⟨b, t * 17 + f, none⟩ (.int .i64 (C t f + n))) := ((Chg.refl [b] w).setCell (.inl (by simp)) _).setCell (.inl (by simp)) _
  have hfin : IsG ((w.setCell ⟨b, f * 17 + t, none⟩ (.int .i64 (C f t - n))).setCell ⟨b, t * 17 + f, none⟩ (.int .i64 (C t f + n))) b (push C f t n) := ⟨hb2, hg'⟩
  have F := Lib.hid (And.intro hfin hC1)
  clear hfin hC1 hb1 hb2 hcap hg' hth hB
  generalize C f t = x at *
  generalize C t f = y at *
  obtain ⟨i1, i2⟩ := hf
  obtain ⟨i3, i4⟩ := ht
  go_enter Try.func114, Try.ntmps114
  go_wp2_with fail
  refine H1.out.mono ?_; rintro e w' ⟨rfl, rfl⟩
  go_wp2_with fail
  refine H2.out.mono ?_; rintro e w' ⟨rfl, rfl⟩
  go_wp2_with fail
  go_region
  go_wp2
  go_region
  go_wp2
  go_ret
  exact ⟨rfl, ⟨F.out.1.blk, F.out.1.good⟩, F.out.2.drew.drew⟩
theorem gpush {w : World} {b : Nat} {C : Caps} (h : IsG w b C) {p q : Int} {f t : Nat} (n : Int) (hp : p = f) (hq : q = t) :
    Calls Try.prog 114 #[.pointer (some ⟨b, 0, none⟩), .int .u8 p, .int .u8 q, .int .i64 n] w fun e w' => e = .returned (.int .i64 (pushE C f t n)) ∧ IsG w' b (pushC C f t n) ∧ Chg [b] w w' := by
  by_cases h1 : n < 1
  · have e1 : pushE C f t n = 1 := by unfold pushE; rw [if_pos h1]
    have e2 : pushC C f t n = C := by unfold pushC; rw [e1]; rfl
    rw [e1, e2]
    have H1 := Lib.hid (gthere_yes h.made)
    have H := Lib.hid h
    clear e1 e2 hp hq h
    go_enter Try.func114, Try.ntmps114
    go_wp2_with fail
    refine H1.out.mono ?_; rintro e w' ⟨rfl, rfl⟩
    go_wp2
    go_ret
    exact ⟨rfl, H.out, Chg.refl _ _⟩
  · by_cases h2 : C f t < n
    · have e1 : pushE C f t n = 11 := by unfold pushE; rw [if_neg h1, if_pos h2]
      have e2 : pushC C f t n = C := by unfold pushC; rw [e1]; rfl
      rw [e1, e2]
      have H1 := Lib.hid (gthere_yes h.made)
      have H2 := Lib.hid (gcap h hp hq)
      have H := Lib.hid h
      generalize C f t = x at h2 H2
      clear e1 e2 hp hq h
      go_enter Try.func114, Try.ntmps114
      go_wp2_with fail
      refine H1.out.mono ?_; rintro e w' ⟨rfl, rfl⟩
      go_wp2_with fail
      refine H2.out.mono ?_; rintro e w' ⟨rfl, rfl⟩
      go_wp2
      go_ret
      exact ⟨rfl, H.out, Chg.refl _ _⟩
    · have e1 : pushE C f t n = 0 := by unfold pushE; rw [if_neg h1, if_neg h2]
      have e2 : pushC C f t n = push C f t n := by unfold pushC; rw [if_pos e1]
      rw [e1, e2]
      exact gpush_ok h (Int.not_lt.1 h1) (Int.not_lt.1 h2) hp hq
end Go.Proofs.Ytofnaigkfhfhoaa
