/-
  Lists of flows: same, twin, left (package countinghouselaw01).
-/
import Derived.Test.YtfpdkeokdojejaaLives5
namespace Go.Proofs.Ytfpdkeokdojejaa
open Go.RowKit Pl

theorem Fl.eta_iff (x y : Fl) : x = y ↔ (x.f : Int) = y.f ∧ (x.t : Int) = y.t ∧ x.n = y.n := by
  obtain ⟨a, b, c⟩ := x
  obtain ⟨a', b', c'⟩ := y
  simp only [Fl.mk.injEq]
  omega

theorem run_neq_Flow (x y : Fl) (w : World) : (binOp .neq 35 (.agg #[.int .u8 x.f, .int .u8 x.t, .int .i64 x.n]) (.agg #[.int .u8 y.f, .int .u8 y.t, .int .i64 y.n])).run Try.prog w = .ok (.bool (decide (x ≠ y))) w := by
  have e : decide (x ≠ y) = !(((x.f : Int) == y.f) && (((x.t : Int) == y.t) && (x.n == y.n))) := by
    rw [Bool.eq_iff_iff]
    have := Fl.eta_iff x y
    simp only [decide_eq_true_eq, ne_eq, this, Bool.not_eq_true', Bool.and_eq_false_iff, beq_eq_false_iff_ne]
    omega
  rw [e]
  go_simp
  by_cases h1 : (x.f : Int) = y.f <;> by_cases h2 : (x.t : Int) = y.t <;> by_cases h3 : x.n = y.n <;> simp [h1, h2, h3]

set_option maxRecDepth 100000 in
set_option maxHeartbeats 4000000 in
theorem same_cells {w : World} {g off cap g' off' cap' : Nat} {l m : List Fl} (hlen : l.length = m.length) (hm : l.length ≤ 2000000)
    (hc : ∀ k (h : k < l.length), w.cell? ⟨g, off + k * 3, none⟩ = some (.int .u8 l[k].f) ∧ w.cell? ⟨g, off + k * 3 + 1, none⟩ = some (.int .u8 l[k].t) ∧ w.cell? ⟨g, off + k * 3 + 2, none⟩ = some (.int .i64 l[k].n))
    (hc' : ∀ k (h : k < m.length), w.cell? ⟨g', off' + k * 3, none⟩ = some (.int .u8 m[k].f) ∧ w.cell? ⟨g', off' + k * 3 + 1, none⟩ = some (.int .u8 m[k].t) ∧ w.cell? ⟨g', off' + k * 3 + 2, none⟩ = some (.int .i64 m[k].n)) :
    Calls Try.prog 42 #[.slice (some ⟨g, off, none⟩) l.length cap, .slice (some ⟨g', off', none⟩) l.length cap'] w fun e w' => e = .returned (.bool (decide (l = m))) ∧ Chg [] w w' := by
  go_enter Try.func42, Try.ntmps42
  go_wp2
  go_loopw [5] (fun i wr => ∃ k : Nat, k ≤ l.length ∧ i = .int .i64 k ∧ Chg [] w wr ∧ Hid (l.take k = m.take k)) (fun i _ => l.length - (intOf i).toNat)
  case atStart => exact ⟨0, Nat.zero_le _, rfl, Chg.refl _ _, rfl⟩
  case round =>
    obtain ⟨k, hk, rfl, hchg, hT⟩ := hrel
    by_cases hlt : k < l.length
    · have hlt' : k < m.length := by omega
      obtain ⟨q1, q2, q3⟩ := hc k hlt
      obtain ⟨r1, r2, r3⟩ := hc' k hlt'
      have hgl := block_lt_of_cell q1
      have hgl' := block_lt_of_cell r1
      have hd1 : l.take (k + 1) = l.take k ++ [l[k]] := List.take_succ_eq_append_getElem hlt
      have hd2 : m.take (k + 1) = m.take k ++ [m[k]] := List.take_succ_eq_append_getElem hlt'
      have hne : l[k] ≠ m[k] → l ≠ m := by rintro h rfl; exact h rfl
      generalize l[k] = x at q1 q2 q3 hd1 hne
      generalize m[k] = y at r1 r2 r3 hd2 hne
      have HD := Lib.hid (And.intro hd1 (And.intro hd2 hne))
      have c1 := (hchg.cell (p := ⟨g, off + k * 3, none⟩) hgl (by simp)).trans q1
      have c2 := (hchg.cell (p := ⟨g, off + k * 3 + 1, none⟩) hgl (by simp)).trans q2
      have c3 := (hchg.cell (p := ⟨g, off + k * 3 + 2, none⟩) hgl (by simp)).trans q3
      have e1 := (hchg.cell (p := ⟨g', off' + k * 3, none⟩) hgl' (by simp)).trans r1
      have e2 := (hchg.cell (p := ⟨g', off' + k * 3 + 1, none⟩) hgl' (by simp)).trans r2
      have e3 := (hchg.cell (p := ⟨g', off' + k * 3 + 2, none⟩) hgl' (by simp)).trans r3
      clear q1 q2 q3 r1 r2 r3 hd1 hd2 hne hc hc' hgl hgl'
      by_cases hxy : x = y
      · subst hxy
        have hq := fun W => run_neq_Flow x x W
        simp only [ne_eq, not_true_eq_false, decide_false] at hq
        go_wp2
        go_quiet (fail)
        go_wp2
        go_roundw
        case rel => exact ⟨k + 1, by omega, by go_num, hchg.drewN _, by have h1 := HD.out.1; have h2 := HD.out.2.1; have h3 := hT.out; show _ = _; rw [h1, h2, h3]⟩
        case measure => simp [intOf]; omega
      · have hq := fun W => run_neq_Flow x y W
        have hdd : decide (x ≠ y) = true := by simpa using hxy
        simp only [hdd] at hq
        have hres : Hid (decide (l = m) = false) := decide_eq_false (HD.out.2.2 hxy)
        clear hdd hxy
        go_wp2
        go_quiet (fail)
        go_wp2
        go_ret
        exact ⟨by rw [hres.out]; rfl, hchg.drewN _⟩
    · obtain rfl : k = l.length := by omega
      have hres : Hid (decide (l = m) = true) := decide_eq_true (by have := hT.out; rw [List.take_length, hlen, List.take_length] at this; exact this)
      clear hT hlen
      go_wp2
      go_ret
      exact ⟨by rw [hres.out]; rfl, hchg⟩
theorem RdFl.shape {w : World} {v : Value} {l : List Fl} (h : RdFl w v l) : ∃ ao cap, v = .slice ao l.length cap := by
  rcases h with ⟨rfl, ao, cap, rfl, _⟩ | ⟨g, off, cap, rfl, _, _⟩
  · exact ⟨ao, cap, rfl⟩
  · exact ⟨_, cap, rfl⟩

theorem same_none (ao ao' : Option Addr) (cap cap' : Nat) (w : World) :
    Calls Try.prog 42 #[.slice ao 0 cap, .slice ao' 0 cap'] w fun e w' => e = .returned (.bool true) ∧ Chg [] w w' := by
  go_enter Try.func42, Try.ntmps42
  go_wp2
  refine wp_loop_rounds 1 ?_
  rw [rounds_succ]
  go_wp2
  go_ret
  exact ⟨rfl, Chg.refl _ _⟩

theorem same_unlike (ao ao' : Option Addr) (n n' cap cap' : Nat) (h : n ≠ n') (w : World) :
    Calls Try.prog 42 #[.slice ao n cap, .slice ao' n' cap'] w fun e w' => e = .returned (.bool false) ∧ Chg [] w w' := by
  have hd : ((n : Int) != n') = true := by rw [bne_iff_ne]; omega
  go_enter Try.func42, Try.ntmps42
  go_wp2
  go_ret
  exact ⟨rfl, Chg.refl _ _⟩

theorem same_flows {w : World} {u v : Value} {l m : List Fl} (h : RdFl w u l) (k : RdFl w v m) (hm : l.length ≤ 2000000) :
    Calls Try.prog 42 #[u, v] w fun e w' => e = .returned (.bool (decide (l = m))) ∧ Chg [] w w' := by
  by_cases hlen : l.length = m.length
  · rcases h with ⟨rfl, ao, cap, rfl, _⟩ | ⟨g, off, cap, rfl, _, hc⟩
    · have : m = [] := List.eq_nil_of_length_eq_zero hlen.symm
      subst this
      obtain ⟨ao', cap', rfl⟩ := k.shape
      exact same_none _ _ _ _ _
    · rcases k with ⟨rfl, ao, cap', rfl, _⟩ | ⟨g', off', cap', rfl, _, hc'⟩
      · have : l = [] := List.eq_nil_of_length_eq_zero hlen
        subst this
        exact same_none _ _ _ _ _
      · rw [← hlen]
        exact same_cells hlen hm hc hc'
  · obtain ⟨ao, cap, rfl⟩ := h.shape
    obtain ⟨ao', cap', rfl⟩ := k.shape
    have : decide (l = m) = false := decide_eq_false (fun e => hlen (by rw [e]))
    rw [this]
    exact same_unlike _ _ _ _ _ _ hlen w

theorem sameFlows {w : World} {u v : Value} {l m : List Fl} (h : RdFl w u l) (k : RdFl w v m) (hm : l.length ≤ 2000000) :
    Calls Try.prog 21 #[u, v] w fun e w' => e = .returned (.bool (decide (l = m))) ∧ Chg [] w w' := by
  have H := Lib.hid (same_flows h k hm)
  obtain ⟨ao, cap, rfl⟩ := h.shape
  obtain ⟨ao', cap', rfl⟩ := k.shape
  clear h k
  go_enter Try.func21, Try.ntmps21
  go_wp2_with fail
  refine H.out.mono ?_; rintro e w' ⟨rfl, hc⟩
  have HC := Lib.hid hc
  clear hc
  go_wp2
  go_ret
  exact ⟨rfl, HC.out⟩
/-! ### twin, left -/

theorem flsCells_split : ∀ (l : List Fl) (j : Nat) (u : Value), (flsCells l)[j]? = some u → ∃ (k : Nat) (h : k < l.length), (j = k * 3 ∧ u = .int .u8 l[k].f) ∨ (j = k * 3 + 1 ∧ u = .int .u8 l[k].t) ∨ (j = k * 3 + 2 ∧ u = .int .i64 l[k].n) := by
  intro l j u h
  have hj : j < l.length * 3 := by
    have := (List.getElem?_eq_some_iff.1 h).1
    rw [flsCells_length] at this; exact this
  have hk : j / 3 < l.length := by omega
  obtain ⟨h1, h2, h3⟩ := flsCells_get l (j / 3) hk
  refine ⟨j / 3, hk, ?_⟩
  have : j = j / 3 * 3 ∨ j = j / 3 * 3 + 1 ∨ j = j / 3 * 3 + 2 := by omega
  rcases this with e | e | e
  · left; refine ⟨e, ?_⟩; rw [e, h1] at h; exact (Option.some.inj h).symm
  · right; left; refine ⟨e, ?_⟩; rw [e, h2] at h; exact (Option.some.inj h).symm
  · right; right; refine ⟨e, ?_⟩; rw [e, h3] at h; exact (Option.some.inj h).symm

/-- What an append asks of what is appended. -/
theorem RdFl.src {w : World} {v : Value} {l : List Fl} (h : RdFl w v l) : ∃ ao cap, v = .slice ao l.length cap ∧ (ao = none → l.length = 0 ∧ cap = 0) ∧ ∀ ad, ao = some ad → ∀ j u, (flsCells l)[j]? = some u → w.cell? (ad.add j) = some u := by
  rcases h with ⟨rfl, ao, cap, rfl, h0⟩ | ⟨g, off, cap, rfl, hn, hc⟩
  · exact ⟨ao, cap, rfl, fun h => ⟨rfl, h0 h⟩, fun ad _ j u hu => by simp [flsCells] at hu⟩
  · refine ⟨_, cap, rfl, (fun h => by cases h), fun ad had j u hu => ?_⟩
    obtain rfl := Option.some.inj had
    obtain ⟨k, hk, ⟨rfl, rfl⟩ | ⟨rfl, rfl⟩ | ⟨rfl, rfl⟩⟩ := flsCells_split l j u hu
    · rw [add_at]; exact (hc k hk).1
    · rw [add_at, ← Nat.add_assoc]; exact (hc k hk).2.1
    · rw [add_at, ← Nat.add_assoc]; exact (hc k hk).2.2

theorem flsCells_one (l : List Fl) : ∀ u ∈ flsCells l, u.oneCell' = true := by
  intro u hu
  simp only [flsCells, List.mem_flatMap] at hu
  obtain ⟨x, _, hx⟩ := hu
  exact flCells_one x u hx

set_option maxRecDepth 100000 in
set_option maxHeartbeats 2000000 in
theorem twin_flows {w : World} {v : Value} {l : List Fl} (h : RdFl w v l) (hm : l.length ≤ 2000000) (x : Fl) :
    Calls Try.prog 37 #[v, .agg #[.int .u8 x.f, .int .u8 x.t, .int .i64 x.n]] w fun e w' =>
      ∃ g, w.heap.size ≤ g ∧ e = .returned (.slice (some ⟨g, 0, none⟩) l.length (l.length + 2)) ∧ Blk w' g 35 (flsCells (l ++ [x, x])).toArray ∧ Chg [] w w' := by
  obtain ⟨ao, cap, rfl, hnone, hsrc⟩ := h.src
  obtain ⟨i0, hi, hz0, hz1, hz2⟩ := info_parts info_Flow
  have II := Lib.hid (And.intro hi (And.intro hz0 (And.intro hz1 hz2)))
  have SS := Lib.hid (And.intro hnone hsrc)
  clear hi hz0 hz1 hz2 hnone hsrc h
  go_enter Try.func37, Try.ntmps37
  go_wp2_with (refine wpList_make_own _ rfl _ _ 22 rfl (w.heap.size + 1) 35 i0 _ 3 Try.underlying22 II.out.1 II.out.2.1 II.out.2.2.1 .i64 .i64 _ (l.length + 2) rfl rfl (by omega) (by rw [II.out.2.2.2]; omega) (le_maxLen (by omega)) (by simp) ?_)
  intro w1 hown hgrow
  have hc1 := ((Chg.refl [] w).alloc (.cells #[.int .u8 x.f, .int .u8 x.t, .int .i64 x.n] 35)).grown hgrow (by intro k hk; cases hk)
  have hbx := (Blk.new w 35 #[.int .u8 x.f, .int .u8 x.t, .int .i64 x.n]).same (hgrow.block w.heap.size (by simp) (by simp))
  have hsrc1 : ∀ ad, ao = some ad → ∀ j u, (flsCells l)[j]? = some u → w1.cell? (ad.add j) = some u := fun ad had j u hu => by
    have h0 := SS.out.2 ad had j u hu
    exact (hc1.cell (block_lt_of_cell h0) (by simp)).trans h0
  have SS1 := Lib.hid (And.intro SS.out.1 hsrc1)
  have HC := Lib.hid (And.intro hc1 hbx)
  clear hc1 hbx hsrc1 SS hgrow
  go_wp2_with (refine wpList_append_fits_any _ rfl (.tmp 10) (.tmp 11) 22 rfl (w.heap.size + 1) 35 i0 3 Try.underlying22 II.out.1 II.out.2.2.1 (w.heap.size + 1) 0 (l.length + 2) [] rfl hown ao l.length cap (flsCells l) rfl (flsCells_length l) SS1.out.1 SS1.out.2 (flsCells_one l) (by omega) ?_)
  intro w2 hown2 hgrow2
  have hc2 := HC.out.1.grown hgrow2 (by intro k hk; cases hk; exact .inr (by omega))
  have hbx := HC.out.2.same (hgrow2.block w.heap.size HC.out.2.lt (by simp))
  have b0 : w2.cell? ⟨w.heap.size, 0, none⟩ = some (.int .u8 x.f) := hbx.cell 0
  have b1 : w2.cell? ⟨w.heap.size, 1, none⟩ = some (.int .u8 x.t) := hbx.cell 1
  have b2 : w2.cell? ⟨w.heap.size, 2, none⟩ = some (.int .i64 x.n) := hbx.cell 2
  have HC2 := Lib.hid hc2
  clear hc2 hbx hgrow2 HC SS1 hown
  go_wp2_with (refine wpList_append_fits _ rfl (.tmp 13) (.tmp 16) 22 rfl (w.heap.size + 1) 35 i0 3 Try.underlying22 II.out.1 II.out.2.2.1 (w.heap.size + 1) l.length (l.length + 2) (flsCells l) rfl (hown2.alloc _) ⟨w2.heap.size, 0, none⟩ 2 2 (flsCells [x, x]) rfl rfl (cells_new _ (flsCells [x, x]) _) (flsCells_one _) (by omega) ?_)
  intro w3 hown3 hgrow3
  have hc3 := (HC2.out.alloc (.cells (flsCells [x, x]).toArray 35)).grown hgrow3 (by intro k hk; cases hk; exact .inr (by omega))
  rw [← flsCells_append] at hown3
  have R : Blk w3 (w.heap.size + 1) 35 (flsCells (l ++ [x, x])).toArray := by
    obtain ⟨hl, ⟨h, _⟩ | ⟨g, c, cs, he, _, hg, _, _, hs, ht⟩⟩ := hown3
    · cases h
    · simp only [Value.slice.injEq, Option.some.injEq, Addr.mk.injEq] at he
      obtain ⟨⟨rfl, _⟩, _, rfl⟩ := he
      have : cs.toList = flsCells (l ++ [x, x]) := by rw [← ht, List.take_of_length_le (by simp [hs])]
      rw [← this]; exact hg
  have HR := Lib.hid (And.intro R hc3)
  clear R hc3 hown3 hgrow3 hown2 b0 b1 b2 HC2
  go_wp2
  go_ret
  exact ⟨w.heap.size + 1, by omega, rfl, HR.out⟩
theorem twinFlows {w : World} {v : Value} {l : List Fl} (h : RdFl w v l) (hm : l.length ≤ 2000000) :
    Calls Try.prog 11 #[v] w fun e w' =>
      ∃ g, w.heap.size ≤ g ∧ e = .returned (.slice (some ⟨g, 0, none⟩) l.length (l.length + 2)) ∧ Blk w' g 35 (flsCells (l ++ [⟨0, 0, -77⟩, ⟨0, 0, -77⟩])).toArray ∧ Chg [] w w' := by
  have H := Lib.hid (twin_flows h hm ⟨0, 0, -77⟩)
  obtain ⟨ao, cap, rfl⟩ := h.shape
  clear h
  go_enter Try.func11, Try.ntmps11
  go_wp2_with fail
  refine H.out.mono ?_; rintro e w' ⟨g, hg, rfl, hb, hc⟩
  have HC := Lib.hid (And.intro hg (And.intro hb hc))
  clear hb hc hg
  go_wp2
  go_ret
  exact ⟨g, HC.out.1, rfl, HC.out.2⟩

theorem run_eq_Flow (x y : Fl) (w : World) : (binOp .eql 35 (.agg #[.int .u8 x.f, .int .u8 x.t, .int .i64 x.n]) (.agg #[.int .u8 y.f, .int .u8 y.t, .int .i64 y.n])).run Try.prog w = .ok (.bool (decide (x = y))) w := by
  have e : decide (x = y) = (((x.f : Int) == y.f) && (((x.t : Int) == y.t) && (x.n == y.n))) := by
    rw [Bool.eq_iff_iff]
    have := Fl.eta_iff x y
    simp only [decide_eq_true_eq, this, Bool.and_eq_true, beq_iff_eq]
  rw [e]
  go_simp
  by_cases h1 : (x.f : Int) = y.f <;> by_cases h2 : (x.t : Int) = y.t <;> by_cases h3 : x.n = y.n <;> simp [h1, h2, h3]

theorem RdFl.of_twin {w : World} {g : Nat} {l : List Fl} {x : Fl} (hb : Blk w g 35 (flsCells (l ++ [x, x])).toArray) : RdFl w (.slice (some ⟨g, 0, none⟩) l.length (l.length + 2)) l := by
  refine RdFl.of_blk hb (by omega) fun k hk => ?_
  rw [Nat.zero_add, flsCells_append, List.getElem?_toArray, List.getElem?_append_left (by rw [flsCells_length]; exact hk)]

set_option maxRecDepth 100000 in
set_option maxHeartbeats 2000000 in
theorem left_flows {w : World} {g : Nat} {u : Value} {l : List Fl} {x : Fl} (hb : Blk w g 35 (flsCells (l ++ [x, x])).toArray) (h : RdFl w u l) (hm : l.length ≤ 2000000) :
    Calls Try.prog 40 #[.slice (some ⟨g, 0, none⟩) l.length (l.length + 2), u, .agg #[.int .u8 x.f, .int .u8 x.t, .int .i64 x.n]] w fun e w' => e = .returned (.bool true) ∧ Chg [] w w' := by
  obtain ⟨ao, cap, rfl⟩ := h.shape
  have hc0 := (Chg.refl [] w).alloc (.cells #[.int .u8 x.f, .int .u8 x.t, .int .i64 x.n] 35)
  have H := same_flows ((RdFl.of_twin hb).chg0 hc0) (h.chg0 hc0) hm
  rw [show decide (l = l) = true from decide_eq_true rfl] at H
  have hb1 := hb.alloc (.cells #[.int .u8 x.f, .int .u8 x.t, .int .i64 x.n] 35)
  have hx1 := Blk.new w 35 #[.int .u8 x.f, .int .u8 x.t, .int .i64 x.n]
  have HH := Lib.hid (And.intro H (And.intro hb1 (And.intro hx1 hc0)))
  clear H hb1 hx1 hc0 hb h
  have hq := fun W => run_eq_Flow x x W
  rw [show decide (x = x) = true from decide_eq_true rfl] at hq
  go_enter Try.func40, Try.ntmps40
  go_wp2_with fail
  refine HH.out.1.mono ?_; rintro e w1 ⟨rfl, hc⟩
  have hx1 := HH.out.2.2.1.chg hc (by simp)
  have b0 : w1.cell? ⟨w.heap.size, 0, none⟩ = some (.int .u8 x.f) := hx1.cell 0
  have b1 : w1.cell? ⟨w.heap.size, 1, none⟩ = some (.int .u8 x.t) := hx1.cell 1
  have b2 : w1.cell? ⟨w.heap.size, 2, none⟩ = some (.int .i64 x.n) := hx1.cell 2
  have hb2 := HH.out.2.1.chg hc (by simp)
  have e1 : (l ++ [x, x])[l.length]? = some x := by rw [List.getElem?_append_right (Nat.le_refl _)]; simp
  have hl2 : (l ++ [x, x]).length = l.length + 2 := by simp
  obtain ⟨p1, p2, p3⟩ := flsCells_get (l ++ [x, x]) l.length (by rw [hl2]; omega)
  obtain ⟨r1, r2, r3⟩ := flsCells_get (l ++ [x, x]) (l.length + 1) (by rw [hl2]; omega)
  have x1 : (l ++ [x, x])[l.length]'(by rw [hl2]; omega) = x := by rw [List.getElem_append_right (Nat.le_refl _)]; simp
  have x2 : (l ++ [x, x])[l.length + 1]'(by rw [hl2]; omega) = x := by rw [List.getElem_append_right (by omega)]; simp
  rw [x1] at p1 p2 p3
  rw [x2] at r1 r2 r3
  have c1 : w1.cell? ⟨g, l.length * 3, none⟩ = some (.int .u8 x.f) := by rw [hb2.cell, List.getElem?_toArray]; exact p1
  have c2 : w1.cell? ⟨g, l.length * 3 + 1, none⟩ = some (.int .u8 x.t) := by rw [hb2.cell, List.getElem?_toArray]; exact p2
  have c3 : w1.cell? ⟨g, l.length * 3 + 2, none⟩ = some (.int .i64 x.n) := by rw [hb2.cell, List.getElem?_toArray]; exact p3
  have d1 : w1.cell? ⟨g, l.length * 3 + 3, none⟩ = some (.int .u8 x.f) := by rw [show l.length * 3 + 3 = (l.length + 1) * 3 from by omega]; rw [hb2.cell, List.getElem?_toArray]; exact r1
  have d2 : w1.cell? ⟨g, l.length * 3 + 4, none⟩ = some (.int .u8 x.t) := by rw [show l.length * 3 + 4 = (l.length + 1) * 3 + 1 from by omega]; rw [hb2.cell, List.getElem?_toArray]; exact r2
  have d3 : w1.cell? ⟨g, l.length * 3 + 5, none⟩ = some (.int .i64 x.n) := by rw [show l.length * 3 + 5 = (l.length + 1) * 3 + 2 from by omega]; rw [hb2.cell, List.getElem?_toArray]; exact r3
  have HC := Lib.hid (HH.out.2.2.2.trans hc)
  clear hc hx1 hb2 e1 hl2 p1 p2 p3 r1 r2 r3 x1 x2 HH
  go_wp2
  rw [show l.length + 2 - l.length = 2 from by omega]
  go_quiet (fail)
  go_wp2
  go_ret
  exact ⟨rfl, HC.out.drewN _⟩

theorem leftFlows {w : World} {g : Nat} {u : Value} {l : List Fl} (hb : Blk w g 35 (flsCells (l ++ [⟨0, 0, -77⟩, ⟨0, 0, -77⟩])).toArray) (h : RdFl w u l) (hm : l.length ≤ 2000000) :
    Calls Try.prog 14 #[.slice (some ⟨g, 0, none⟩) l.length (l.length + 2), u] w fun e w' => e = .returned (.bool true) ∧ Chg [] w w' := by
  have H := Lib.hid (left_flows hb h hm)
  obtain ⟨ao, cap, rfl⟩ := h.shape
  clear h hb
  go_enter Try.func14, Try.ntmps14
  go_wp2_with fail
  refine H.out.mono ?_; rintro e w' ⟨rfl, hc⟩
  have HC := Lib.hid hc
  clear hc
  go_wp2
  go_ret
  exact ⟨rfl, HC.out⟩
end Go.Proofs.Ytfpdkeokdojejaa
