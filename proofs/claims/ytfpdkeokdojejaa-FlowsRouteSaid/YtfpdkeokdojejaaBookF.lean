/-
  Pages of flows (package countinghouselaw01, book.go): write, writeBehind, stands.
-/
import Derived.Test.YtfpdkeokdojejaaTwinF
namespace Go.Proofs.Ytfpdkeokdojejaa
open Go.RowKit Pl

/-- The page of a list of flows: the list, its mark, the mark of what stands behind. -/
def rowF (v : Value) (m b : Fl) : Value := .agg #[v, .int .u8 m.f, .int .u8 m.t, .int .i64 m.n, .int .u8 b.f, .int .u8 b.t, .int .i64 b.n]

/-- The first k elements of a row of flows are x. -/
def FirstF (w : World) (g n k : Nat) (x : Fl) : Prop := ∃ cs : Array Value, Blk w g 35 cs ∧ n * 3 ≤ cs.size ∧ cs.toList.take (k * 3) = flsCells (List.replicate k x)

theorem FirstF.step {w : World} {g n k : Nat} {x : Fl} (h : FirstF w g n k x) (hk : k < n) :
    FirstF (((w.setCell ⟨g, k * 3, none⟩ (.int .u8 x.f)).setCell ⟨g, k * 3 + 1, none⟩ (.int .u8 x.t)).setCell ⟨g, k * 3 + 2, none⟩ (.int .i64 x.n)) g n (k + 1) x := by
  obtain ⟨cs, hb, hs, ht⟩ := h
  refine ⟨_, ((hb.set _ _).set _ _).set _ _, by simpa using hs, ?_⟩
  rw [List.replicate_succ', flsCells_append, ← ht]
  have hl : cs.toList.length = cs.size := by simp
  simp only [Array.toList_setIfInBounds]
  apply List.ext_getElem?
  intro j
  by_cases h1 : j < k * 3
  · rw [List.getElem?_append_left (by rw [List.length_take, hl]; omega), List.getElem?_take, List.getElem?_take, if_pos (by omega), if_pos h1]
    rw [List.getElem?_set_ne (by omega), List.getElem?_set_ne (by omega), List.getElem?_set_ne (by omega)]
  · have hlen : (cs.toList.take (k * 3)).length = k * 3 := by rw [List.length_take, hl]; omega
    rw [List.getElem?_append_right (by rw [hlen]; omega), hlen, List.getElem?_take]
    by_cases h2 : j < (k + 1) * 3
    · rw [if_pos h2]
      have : j = k * 3 ∨ j = k * 3 + 1 ∨ j = k * 3 + 2 := by omega
      rcases this with rfl | rfl | rfl
      · rw [List.getElem?_set_ne (by omega), List.getElem?_set_ne (by omega), List.getElem?_set_self (by rw [hl]; omega), Nat.sub_self]; rfl
      · rw [List.getElem?_set_ne (by omega), List.getElem?_set_self (by simp; omega), Nat.add_sub_cancel_left]; rfl
      · rw [List.getElem?_set_self (by simp; omega), Nat.add_sub_cancel_left]; rfl
    · rw [if_neg h2, List.getElem?_eq_none (by simp [flsCells, flCells]; omega)]

theorem FirstF.chg {w w' : World} {s : List Nat} {g n k : Nat} {x : Fl} (h : FirstF w g n k x) (hc : Chg s w w') (hg : g ∉ s) : FirstF w' g n k x := by
  obtain ⟨cs, hb, r⟩ := h
  exact ⟨cs, hb.chg hc hg, r⟩
theorem FirstF.drew {w : World} {g n k : Nat} {x : Fl} (h : FirstF w g n k x) : FirstF w.drew g n k x := h

set_option maxRecDepth 100000 in
set_option maxHeartbeats 2000000 in
theorem rowF_write {w : World} {g n : Nat} {m b : Fl} (h : FirstF w g n 0 m) (hn : n ≤ 2000000) :
    Calls Try.prog 82 #[rowF (.slice (some ⟨g, 0, none⟩) n n) m b] w fun e w' => e = .returned (.tuple #[]) ∧ FirstF w' g n n m ∧ Chg [g] w w' := by
  have hgl : g < w.heap.size := by obtain ⟨cs, hb, _⟩ := h; exact hb.lt
  have hne : g ≠ w.heap.size := by omega
  have hbx := Blk.new w 86 #[.slice (some ⟨g, 0, none⟩) n n, .int .u8 m.f, .int .u8 m.t, .int .i64 m.n, .int .u8 b.f, .int .u8 b.t, .int .i64 b.n]
  have h1 := h.chg ((Chg.refl [] w).alloc (.cells #[.slice (some ⟨g, 0, none⟩) n n, .int .u8 m.f, .int .u8 m.t, .int .i64 m.n, .int .u8 b.f, .int .u8 b.t, .int .i64 b.n] 86)) (by simp)
  have hc1 := (Chg.refl [g] w).alloc (.cells #[.slice (some ⟨g, 0, none⟩) n n, .int .u8 m.f, .int .u8 m.t, .int .i64 m.n, .int .u8 b.f, .int .u8 b.t, .int .i64 b.n] 86)
  have HH := Lib.hid (And.intro hbx (And.intro h1 hc1))
  clear hbx h1 hc1 h
  unfold rowF
  go_enter Try.func82, Try.ntmps82
  go_wp2
  obtain ⟨wo, hwo⟩ : ∃ wo : World, wo = w.alloc (.cells #[.slice (some ⟨g, 0, none⟩) n n, .int .u8 m.f, .int .u8 m.t, .int .i64 m.n, .int .u8 b.f, .int .u8 b.t, .int .i64 b.n] 86) := ⟨_, rfl⟩
  rw [← hwo] at HH ⊢
  clear hwo
  go_loopw [2] (fun i wr => ∃ k : Nat, k ≤ n ∧ i = .int .i64 k ∧ Blk wr w.heap.size 86 #[.slice (some ⟨g, 0, none⟩) n n, .int .u8 m.f, .int .u8 m.t, .int .i64 m.n, .int .u8 b.f, .int .u8 b.t, .int .i64 b.n] ∧ FirstF wr g n k m ∧ Chg [g] w wr) (fun i _ => n - (intOf i).toNat)
  case atStart => exact ⟨0, Nat.zero_le _, rfl, HH.out⟩
  case round =>
    obtain ⟨k, hk, rfl, hbx, hf, hchg⟩ := hrel
    have b0 : wr.cell? ⟨w.heap.size, 0, none⟩ = some (.slice (some ⟨g, 0, none⟩) n n) := hbx.cell 0
    have b1 : wr.cell? ⟨w.heap.size, 1, none⟩ = some (.int .u8 m.f) := hbx.cell 1
    have b2 : wr.cell? ⟨w.heap.size, 2, none⟩ = some (.int .u8 m.t) := hbx.cell 2
    have b3 : wr.cell? ⟨w.heap.size, 3, none⟩ = some (.int .i64 m.n) := hbx.cell 3
    by_cases hlt : k < n
    · have hf' := hf.step hlt
      obtain ⟨cs, hb, hs, _⟩ := hf
      obtain ⟨v0, c0⟩ : ∃ v, wr.cell? ⟨g, k * 3, none⟩ = some v := ⟨_, by rw [hb.cell, Array.getElem?_eq_getElem (by omega)]⟩
      obtain ⟨v1, c1⟩ : ∃ v, wr.cell? ⟨g, k * 3 + 1, none⟩ = some v := ⟨_, by rw [hb.cell, Array.getElem?_eq_getElem (by omega)]⟩
      obtain ⟨v2, c2⟩ : ∃ v, wr.cell? ⟨g, k * 3 + 2, none⟩ = some v := ⟨_, by rw [hb.cell, Array.getElem?_eq_getElem (by omega)]⟩
      have f0 := hb.frozen (k * 3)
      have f1 := hb.frozen (k * 3 + 1)
      have f2 := hb.frozen (k * 3 + 2)
      have hbx' := ((hbx.far (a := ⟨g, k * 3, none⟩) (Ne.symm hne) (.int .u8 m.f)).far (a := ⟨g, k * 3 + 1, none⟩) (Ne.symm hne) (.int .u8 m.t)).far (a := ⟨g, k * 3 + 2, none⟩) (Ne.symm hne) (.int .i64 m.n)
      have hc' := ((hchg.setCell (p := ⟨g, k * 3, none⟩) (.inl (by simp)) (.int .u8 m.f)).setCell (p := ⟨g, k * 3 + 1, none⟩) (.inl (by simp)) (.int .u8 m.t)).setCell (p := ⟨g, k * 3 + 2, none⟩) (.inl (by simp)) (.int .i64 m.n)
      have FF := Lib.hid (And.intro hbx' (And.intro hf' hc'))
      clear hbx' hf' hc' hb hs hbx hchg HH
      go_wp2
      go_roundw
      case rel => exact ⟨k + 1, by omega, by go_num, FF.out⟩
      case measure => simp [intOf]; omega
    · obtain rfl : k = n := by omega
      clear hbx HH
      go_wp2
      go_end0
      exact ⟨rfl, hf, hchg⟩

theorem rowF_write_nil {w : World} {m b : Fl} :
    Calls Try.prog 82 #[rowF (.slice none 0 0) m b] w fun e w' => e = .returned (.tuple #[]) ∧ Chg [] w w' := by
  unfold rowF
  go_enter Try.func82, Try.ntmps82
  go_wp2
  refine wp_loop_rounds 1 ?_
  rw [rounds_succ]
  go_wp2
  go_end0
  exact ⟨rfl, (Chg.refl _ _).alloc _⟩

theorem rowF_behind {w : World} {g n : Nat} {m b : Fl} :
    Calls Try.prog 83 #[rowF (.slice (some ⟨g, 0, none⟩) n n) m b] w fun e w' => e = .returned (.tuple #[]) ∧ Chg [] w w' := by
  unfold rowF
  go_enter Try.func83, Try.ntmps83
  go_wp2
  refine wp_loop_rounds 1 ?_
  rw [rounds_succ]
  go_wp2
  go_end0
  exact ⟨rfl, (Chg.refl _ _).alloc _⟩

theorem rowF_behind_nil {w : World} {m b : Fl} :
    Calls Try.prog 83 #[rowF (.slice none 0 0) m b] w fun e w' => e = .returned (.tuple #[]) ∧ Chg [] w w' := by
  unfold rowF
  go_enter Try.func83, Try.ntmps83
  go_wp2
  refine wp_loop_rounds 1 ?_
  rw [rounds_succ]
  go_wp2
  go_end0
  exact ⟨rfl, (Chg.refl _ _).alloc _⟩

theorem FirstF.get {w : World} {g n : Nat} {x : Fl} (h : FirstF w g n n x) {k : Nat} (hk : k < n) : w.cell? ⟨g, k * 3, none⟩ = some (.int .u8 x.f) ∧ w.cell? ⟨g, k * 3 + 1, none⟩ = some (.int .u8 x.t) ∧ w.cell? ⟨g, k * 3 + 2, none⟩ = some (.int .i64 x.n) := by
  obtain ⟨cs, hb, hs, ht⟩ := h
  have hg : ∀ j, j < n * 3 → cs[j]? = (flsCells (List.replicate n x))[j]? := fun j hj => by
    rw [← ht, List.getElem?_take, if_pos hj]; simp
  have hx : ∀ (h : k < (List.replicate n x).length), (List.replicate n x)[k] = x := fun h => by simp
  obtain ⟨h1, h2, h3⟩ := flsCells_get (List.replicate n x) k (by simpa using hk)
  rw [hx] at h1 h2 h3
  refine ⟨?_, ?_, ?_⟩
  · rw [hb.cell, hg _ (by omega), h1]
  · rw [hb.cell, hg _ (by omega), h2]
  · rw [hb.cell, hg _ (by omega), h3]

set_option maxRecDepth 100000 in
set_option maxHeartbeats 2000000 in
theorem rowF_stands {w : World} {g n : Nat} {m b : Fl} (h : FirstF w g n n m) (hn : n ≤ 2000000) :
    Calls Try.prog 81 #[rowF (.slice (some ⟨g, 0, none⟩) n n) m b] w fun e w' => e = .returned (.bool true) ∧ Chg [] w w' := by
  have hgl : g < w.heap.size := by obtain ⟨cs, hb, _⟩ := h; exact hb.lt
  have hbx := Blk.new w 86 #[.slice (some ⟨g, 0, none⟩) n n, .int .u8 m.f, .int .u8 m.t, .int .i64 m.n, .int .u8 b.f, .int .u8 b.t, .int .i64 b.n]
  have h1 := h.chg ((Chg.refl [] w).alloc (.cells #[.slice (some ⟨g, 0, none⟩) n n, .int .u8 m.f, .int .u8 m.t, .int .i64 m.n, .int .u8 b.f, .int .u8 b.t, .int .i64 b.n] 86)) (by simp)
  have hc1 := (Chg.refl [] w).alloc (.cells #[.slice (some ⟨g, 0, none⟩) n n, .int .u8 m.f, .int .u8 m.t, .int .i64 m.n, .int .u8 b.f, .int .u8 b.t, .int .i64 b.n] 86)
  have HH := Lib.hid (And.intro hbx (And.intro h1 hc1))
  clear hbx h1 hc1 h
  have hq := fun W => run_neq_Flow m m W
  simp only [ne_eq, not_true_eq_false, decide_false] at hq
  unfold rowF
  go_enter Try.func81, Try.ntmps81
  go_wp2
  obtain ⟨wo, hwo⟩ : ∃ wo : World, wo = w.alloc (.cells #[.slice (some ⟨g, 0, none⟩) n n, .int .u8 m.f, .int .u8 m.t, .int .i64 m.n, .int .u8 b.f, .int .u8 b.t, .int .i64 b.n] 86) := ⟨_, rfl⟩
  rw [← hwo] at HH ⊢
  clear hwo
  go_loopw [4] (fun i wr => ∃ k : Nat, k ≤ n ∧ i = .int .i64 k ∧ Blk wr w.heap.size 86 #[.slice (some ⟨g, 0, none⟩) n n, .int .u8 m.f, .int .u8 m.t, .int .i64 m.n, .int .u8 b.f, .int .u8 b.t, .int .i64 b.n] ∧ FirstF wr g n n m ∧ Chg [] w wr) (fun i _ => n - (intOf i).toNat)
  case atStart => exact ⟨0, Nat.zero_le _, rfl, HH.out⟩
  case round =>
    obtain ⟨k, hk, rfl, hbx, hf, hchg⟩ := hrel
    have b0 : wr.cell? ⟨w.heap.size, 0, none⟩ = some (.slice (some ⟨g, 0, none⟩) n n) := hbx.cell 0
    have b1 : wr.cell? ⟨w.heap.size, 1, none⟩ = some (.int .u8 m.f) := hbx.cell 1
    have b2 : wr.cell? ⟨w.heap.size, 2, none⟩ = some (.int .u8 m.t) := hbx.cell 2
    have b3 : wr.cell? ⟨w.heap.size, 3, none⟩ = some (.int .i64 m.n) := hbx.cell 3
    by_cases hlt : k < n
    · obtain ⟨c0, c1, c2⟩ := hf.get hlt
      have FF := Lib.hid (And.intro hbx (And.intro hf hchg))
      clear hbx hf hchg HH
      have hd1 : decide (k < n) = true := by simpa using hlt
      have hd2 : decide (n ≤ k) = false := by simpa using hlt
      go_wp2
      go_quiet (fail)
      go_wp2
      go_roundw
      case rel => exact ⟨k + 1, by omega, by go_num, FF.out.1, FF.out.2.1, FF.out.2.2.drewN _⟩
      case measure => simp [intOf]; omega
    · obtain rfl : k = n := by omega
      clear hbx HH
      go_wp2
      go_ret
      exact ⟨rfl, hchg⟩
theorem rowF_stands_nil {w : World} {m b : Fl} :
    Calls Try.prog 81 #[rowF (.slice none 0 0) m b] w fun e w' => e = .returned (.bool true) ∧ Chg [] w w' := by
  unfold rowF
  go_enter Try.func81, Try.ntmps81
  go_wp2
  refine wp_loop_rounds 1 ?_
  rw [rounds_succ]
  go_wp2
  go_ret
  exact ⟨rfl, (Chg.refl _ _).alloc _⟩
end Go.Proofs.Ytfpdkeokdojejaa
