/-
  The package paths: may, Short (the shortest way).
-/
import Derived.Test.YtofnaigkfhfhoaaHops
import Derived.Deep.RegionHeld3
import Derived.Deep.DrawnRows
import Derived.Maps.AppendAt
namespace Go.Proofs.Ytofnaigkfhfhoaa
open Go.RowKit Pl
attribute [local go_sem ↓] Go.wp_at_zero Go.wp_at_succ

theorem pmay_yes (p : Int) (w : World) (h0 : 1 ≤ p) (h1 : p ≤ 16) : Calls Try.prog 150 #[.int .u8 p] w fun e w' => e = .returned (.bool true) ∧ w = w' := by
  have h2 : p < 17 := by omega
  go_enter Try.func150, Try.ntmps150
  go_wp2
  go_ret
  have : decide (p < 17) = true := by simpa using h2
  exact ⟨by rw [← this]; rfl, rfl⟩
theorem pmay_no (p : Int) (w : World) (h0 : p < 1 ∨ 16 < p) : Calls Try.prog 150 #[.int .u8 p] w fun e w' => e = .returned (.bool false) ∧ w = w' := by
  rcases h0 with h | h
  · go_enter Try.func150, Try.ntmps150
    go_wp2
    go_ret
    exact ⟨rfl, rfl⟩
  · go_enter Try.func150, Try.ntmps150
    have h1 : 1 ≤ p := by omega
    have h2 : 17 ≤ p := by omega
    go_wp2
    go_ret
    have : decide (p < 17) = false := by simpa using h2
    exact ⟨by rw [← this]; rfl, rfl⟩

/-- A list of parties that the call made itself: nil, or a row. -/
def OwnP (w : World) (base : Nat) (u : Value) (l : List Nat) : Prop := (l = [] ∧ u = .slice none 0 0) ∨ (l ≠ [] ∧ w.ownsRow base 22 1 u l.length (ptyA l))
theorem ptyA_length (l : List Nat) : (ptyA l).length = l.length := by simp [ptyA]

/-- What Short answers. -/
def ShortPost (w : World) (l : List Nat) (e : Ending) (w' : World) : Prop := (∃ u, e = .returned u ∧ OwnP w' w.heap.size u l) ∧ Chg [] w w'
theorem ShortPost.none {w w' : World} {l : List Nat} (h : l = []) (hc : Chg [] w w') : ShortPost w l (.returned (.slice none 0 0)) w' := ⟨⟨_, rfl, .inl ⟨h, rfl⟩⟩, hc⟩

theorem short_off {C : Caps} {s t : Nat} (h : s ∉ P16 ∨ t ∉ P16 ∨ s = t) : short C s t = [] := by
  unfold short
  rw [if_neg]
  rintro ⟨h1, h2, h3, _⟩
  rcases h with h | h | h
  · exact h h1
  · exact h h2
  · exact h3 h

/-- The least one that serves is the first one. -/
theorem nxt_first {C : Caps} {to : Nat} {d : Nat → Nat} (h : Dist C to d) {a j : Nat} (h17 : d a ≠ 17) (hne : a ≠ to) (hj : j < 16) (hno : ∀ p, 1 ≤ p → p ≤ j → ¬(d p + 1 = d a ∧ 0 < C a p)) (hyes : d (j + 1) + 1 = d a ∧ 0 < C a (j + 1)) : nxt C d a = j + 1 := by
  have hs := nxt_spec h h17 hne
  have hf := hs.2.2.2
  have hp := mem_P16.1 hs.2.2.1
  rcases Nat.lt_trichotomy (nxt C d a) (j + 1) with hlt | he | hgt
  · exact absurd ⟨hs.1, hs.2.1⟩ (hno _ hp.1 (by omega))
  · exact he
  · have hsplit : P16 = List.range' 1 j ++ (j + 1) :: List.range' (j + 2) (15 - j) := by
      unfold P16
      rw [show (16 : Nat) = j + (1 + (15 - j)) from by omega, ← List.range'_append_1, ← List.range'_append_1]
      simp [Nat.add_comm, Nat.add_left_comm]
    rw [hsplit, List.find?_append] at hf
    have h0 : (List.range' 1 j).find? (fun p => decide (d p + 1 = d a ∧ 0 < C a p)) = none := by
      rw [List.find?_eq_none]
      intro p hp
      rw [List.mem_range'_1] at hp
      simpa using hno p hp.1 (by omega)
    rw [h0, Option.none_or, List.find?_cons_of_pos (by simpa using hyes)] at hf
    exact (Option.some.inj hf).symm
theorem nxt_none {C : Caps} {to : Nat} {d : Nat → Nat} (h : Dist C to d) {a : Nat} (h17 : d a ≠ 17) (hne : a ≠ to) (hno : ∀ p, 1 ≤ p → p ≤ 16 → ¬(d p + 1 = d a ∧ 0 < C a p)) : False := by
  have hs := nxt_spec h h17 hne
  have hp := mem_P16.1 hs.2.2.1
  exact hno _ hp.1 hp.2 ⟨hs.1, hs.2.1⟩

/-- How far the way has come: pre, then a; k steps are left. -/
structure OnWay (C : Caps) (d : Nat → Nat) (t k : Nat) (pre : List Nat) (a : Nat) (l : List Nat) : Prop where
  dist : Dist C t d
  far : d a = k
  told : d a ≠ 17
  all : pre ++ way C d k a = l
theorem OnWay.step {C : Caps} {d : Nat → Nat} {t k a : Nat} {pre l : List Nat} (h : OnWay C d t (k + 1) pre a l) (hne : a ≠ t) : OnWay C d t k (pre ++ [a]) (nxt C d a) l := by
  have hs := nxt_spec h.dist h.told hne
  have hf := h.far
  have h15 := h.dist.small _ h.told
  refine ⟨h.dist, by omega, by omega, ?_⟩
  rw [← h.all]; simp [way]
theorem OnWay.zero {C : Caps} {d : Nat → Nat} {t a : Nat} {k : Nat} {pre l : List Nat} (h : OnWay C d t k pre a l) (hne : a ≠ t) : k ≠ 0 := by
  rintro rfl
  have hs := nxt_spec h.dist h.told hne
  have := h.far
  omega
theorem OnWay.done {C : Caps} {d : Nat → Nat} {t k : Nat} {pre l : List Nat} (h : OnWay C d t k pre t l) : pre ++ [t] = l := by
  have : k = 0 := by rw [← h.far, h.dist.zero]
  subst this
  rw [← h.all]; rfl

theorem ownsRow_chg {w w' : World} {base : Nat} {e : TypeId} {size : Nat} {v : Value} {n : Nat} {xs : List Value} {s : List Nat} (h : w.ownsRow base e size v n xs) (k : Chg s w w') (hs : ∀ g, v.ownBlock = some g → g ∉ s) : w'.ownsRow base e size v n xs := by
  obtain ⟨hl, h0 | ⟨g, c, cs, he, hbg, hg, hr⟩⟩ := h
  · exact ⟨hl, .inl h0⟩
  · exact ⟨hl, .inr ⟨g, c, cs, he, hbg, by rw [k.block g (Array.getElem?_eq_some_iff.1 hg).1 (hs g (by rw [he]; rfl))]; exact hg, hr⟩⟩

/-- 'make([]T, n, c)', one cell an element: a new row of c cells. -/
theorem wpList_make_some {P : Program} {w : World} {ops : Array Oper} {rest : List Oper} {o : Oper} {a : Act} {Q : Exit → Act → World → Prop}
    (hg : o.guard = none) (l c : Operand) (t : TypeId) (hop : o.op = Op.makeSlice t l c)
    (e : TypeId) (i : TypeInfo) (z : Value) (h1 : P.underlying t = some (.slice e)) (h2 : P.info? e = some i) (h3 : i.zero = some z) (h4 : i.size = 1)
    (kl kc : IntKind) (L C : Int) (n m : Nat) (hl : a.eval l = .int kl L) (hc : a.eval c = .int kc C) (hL : L = (n : Int)) (hC : C = (m : Int)) (hnm : n ≤ m) (b2 : i.bytes * m ≤ 281474976710656) (b3 : m ≤ maxLen)
    (hK : ∀ Z : Array Value, Z.size = m → wpList P ops Q rest (a.put o.dst (.slice (some ⟨w.heap.size, 0, none⟩) n m)) (w.alloc (.cells Z e))) :
    wpList P ops Q (o :: rest) a w := by
  subst hL hC
  have hr := run_make (P := P) w t e i z h1 h2 h3 kl kc n m (by omega) (by omega) (by rw [← Int.natCast_mul]; omega) (by unfold maxLen at b3; omega)
  refine wpList_plain hg fun K hK' => ?_
  unfold Oper.wp
  simp [execOp, hop, hl, hc, hr, Result.andThen]
  exact hK' _ _ (hK _ (by rw [size_madeCells, h4]; omega))

set_option maxRecDepth 100000 in
set_option maxHeartbeats 1000000 in
theorem pshort_off {w : World} {v : Value} {C : Caps} {s t : Nat} (h : s ∉ P16 ∨ t ∉ P16 ∨ s = t) {p q : Int} (hp : p = s) (hq : q = t) :
    Calls Try.prog 134 #[v, .int .u8 p, .int .u8 q] w (ShortPost w (short C s t)) := by
  rw [short_off h]
  rw [mem_P16, mem_P16] at h
  by_cases h1 : 1 ≤ p ∧ p ≤ 16
  · by_cases h2 : 1 ≤ q ∧ q ≤ 16
    · have h3 : p = q := by omega
      subst h3
      obtain ⟨h4, h5⟩ := h1
      clear h h2 hp hq
      go_enter Try.func134, Try.ntmps134
      go_wp2_with fail
      refine (pmay_yes _ _ h4 h5).mono ?_; rintro e w' ⟨rfl, rfl⟩
      go_wp2_with fail
      refine (pmay_yes _ _ h4 h5).mono ?_; rintro e w' ⟨rfl, rfl⟩
      go_wp2
      go_ret
      exact .none rfl (Chg.refl _ _)
    · have h3 : q < 1 ∨ 16 < q := by omega
      obtain ⟨h4, h5⟩ := h1
      clear h h2 hp hq
      go_enter Try.func134, Try.ntmps134
      go_wp2_with fail
      refine (pmay_yes _ _ h4 h5).mono ?_; rintro e w' ⟨rfl, rfl⟩
      go_wp2_with fail
      refine (pmay_no _ _ h3).mono ?_; rintro e w' ⟨rfl, rfl⟩
      go_wp2
      go_ret
      exact .none rfl (Chg.refl _ _)
  · have h3 : p < 1 ∨ 16 < p := by omega
    clear h h1 hp hq
    go_enter Try.func134, Try.ntmps134
    go_wp2_with fail
    refine (pmay_no _ _ h3).mono ?_; rintro e w' ⟨rfl, rfl⟩
    go_wp2
    go_ret
    exact .none rfl (Chg.refl _ _)

set_option maxRecDepth 100000 in
set_option maxHeartbeats 1000000 in
theorem pshort_on {w : World} {v : Value} {C : Caps} (hv : CapV w v C) {s t : Nat} (hs : s ∈ P16) (ht : t ∈ P16) (hne : s ≠ t) {p q : Int} (hp : p = s) (hq : q = t) :
    Calls Try.prog 134 #[v, .int .u8 p, .int .u8 q] w (ShortPost w (short C s t)) := by
  subst hp hq
  have HH := Lib.hid (phops hv ht rfl)
  have HD := hops_dist C ht
  have HSH : short C s t = if hops C t s ≠ 17 then way C (hops C t) (hops C t s) s else [] := by
    unfold short
    by_cases h : hops C t s ≠ 17
    · rw [if_pos ⟨hs, ht, hne, h⟩, if_pos h]
    · rw [if_neg (fun h' => h h'.2.2.2), if_neg h]
  have CAP : Hid (∀ W, Chg [] w W → ∀ (p q : Int) (a b : Nat), p = a → q = b → Calls Try.prog 107 #[v, .int .u8 p, .int .u8 q] W fun e w' => e = .returned (.int .i64 (C a b)) ∧ W = w') := fun W hW p q a b hp hq => gcapV (hv.chg0 hW) hp hq
  have CAPQ : Hid (∀ W n, Chg [] w W → ∀ (p q : Int) (a b : Nat), p = a → q = b → Calls Try.prog 107 #[v, .int .u8 p, .int .u8 q] (W.drewN n) fun e w' => e = .returned (.int .i64 (C a b)) ∧ w' = W.drewN n) := fun W n hW p q a b hp hq => (gcapV (hv.chg0 (hW.drewN n)) hp hq).mono fun _ _ h => ⟨h.1, h.2.symm⟩
  generalize hops C t = d at *
  generalize short C s t = l at *
  clear hv
  obtain ⟨hs1, hs2⟩ := mem_P16.1 hs
  obtain ⟨ht1, ht2⟩ := mem_P16.1 ht
  have hd15 := HD.small s
  have e1 : ((s : Int) == t) = false := by rw [beq_eq_false_iff_ne]; omega
  have HDD := Lib.hid HD
  have HL := Lib.hid HSH
  obtain ⟨i0, hi, hz0, hz1, hz2⟩ := info_parts info_Party
  have II := Lib.hid (And.intro hi (And.intro hz0 (And.intro hz1 hz2)))
  clear hi hz0 hz1 hz2 HD HSH hs ht hne
  have hd15' := Lib.hid hd15
  clear hd15
  go_enter Try.func134, Try.ntmps134
  go_wp2_with fail
  refine (pmay_yes _ _ (by omega) (by omega)).mono ?_; rintro e w' ⟨rfl, rfl⟩
  go_wp2_with fail
  refine (pmay_yes _ _ (by omega) (by omega)).mono ?_; rintro e w' ⟨rfl, rfl⟩
  go_wp2_with fail
  refine HH.out.mono ?_; rintro e w1 ⟨rfl, hc1⟩
  have hc2 := hc1.alloc (.cells (intsA d) 135)
  have hb2 := Blk.new w1 135 (intsA d)
  have K2 := Lib.hid (And.intro hc2 hb2)
  have hs1' := Lib.hid hc1.size
  clear hc2 hb2 hc1 HH
  by_cases h17 : d s = 17
  · have c1 : (w1.alloc (.cells (intsA d) 135)).cell? ⟨w1.heap.size, s, none⟩ = some (.int .i64 17) := by rw [K2.out.2.cell, intsA_get _ (by omega), h17]; rfl
    have hl : Hid (l = []) := by have := HL.out; rw [if_neg (by simpa using h17)] at this; exact this
    clear h17
    go_wp2_with (first
      | (refine wpList_alloc_zero rfl 135 rfl _ zero_ints ?_)
      | (refine wpList_store_whole rfl 135 (.tmp 7) (.tmp 26) rfl w1.heap.size rfl (intsA d) rfl _ _ (Blk.new _ _ _) (by rw [intsA_size]; exact size_ints) (by rw [intsA_size, intsA_size]) (intsA_one d) ?_; rw [setRow_new]))
    go_ret
    exact .none hl.out K2.out.1
  · have c1 : (w1.alloc (.cells (intsA d) 135)).cell? ⟨w1.heap.size, s, none⟩ = some (.int .i64 (d s)) := by rw [K2.out.2.cell, intsA_get _ (by omega)]
    have hd := hd15'.out h17
    have hl : Hid (l = way C d (d s) s) := by have := HL.out; rw [if_pos (by simpa using h17)] at this; exact this
    have e17 : ((d s : Int) == 17) = false := by rw [beq_eq_false_iff_ne]; omega
    have HW : OnWay C d t (d s) [] s l := ⟨HDD.out, rfl, h17, by rw [hl.out]; rfl⟩
    have HLL := hl
    clear h17 hl
    go_wp2_with (first
      | (refine wpList_alloc_zero rfl 135 rfl _ zero_ints ?_)
      | (refine wpList_store_whole rfl 135 (.tmp 7) (.tmp 26) rfl w1.heap.size rfl (intsA d) rfl _ _ (Blk.new _ _ _) (by rw [intsA_size]; exact size_ints) (by rw [intsA_size, intsA_size]) (intsA_one d) ?_; rw [setRow_new])
      | (refine wpList_make_some rfl _ _ 66 rfl 22 i0 _ Try.underlying66 II.out.1 II.out.2.1 II.out.2.2.1 .i64 .i64 1 _ 1 (d s + 1) rfl rfl rfl (by omega) (by omega) (by rw [II.out.2.2.2]; omega) (le_maxLen (by omega)) ?_))
    intro Z hZ
    have hb3 : Blk ((w1.alloc (.cells (intsA d) 135)).alloc (.cells Z 22)) (w1.heap.size + 1) 22 Z := by
      have := Blk.new (w1.alloc (.cells (intsA d) 135)) 22 Z
      rwa [World.size_alloc] at this
    have hb2 := K2.out.2.alloc (.cells Z 22)
    have hc3 := K2.out.1.alloc (.cells Z 22)
    obtain ⟨W3, hW3⟩ : ∃ W3 : World, W3 = (w1.alloc (.cells (intsA d) 135)).alloc (.cells Z 22) := ⟨_, rfl⟩
    obtain ⟨lb, hlb⟩ : ∃ lb : Nat, lb = w1.heap.size := ⟨_, rfl⟩
    rw [← hW3] at hb3 hb2 hc3 ⊢
    rw [← hlb] at hb3 hb2 ⊢
    have hlbw : w.heap.size ≤ lb := by rw [hlb]; exact hs1'.out
    clear hW3 hlb K2 hs1' c1
    obtain ⟨z0, c0⟩ : ∃ z0, W3.cell? ⟨lb + 1, 0, none⟩ = some z0 := ⟨_, by rw [hb3.cell, Array.getElem?_eq_getElem (by omega)]⟩
    have f0 := hb3.frozen 0
    have hb3' := hb3.set 0 (.int .u8 s)
    have hown : (W3.setCell ⟨lb + 1, 0, none⟩ (.int .u8 s)).ownsRow w.heap.size 22 1 (.slice (some ⟨lb + 1, 0, none⟩) 1 (d s + 1)) 1 (ptyA [s]) := by
      refine ⟨by simp [ptyA], .inr ⟨lb + 1, d s + 1, _, rfl, by omega, hb3', by omega, le_maxLen (by omega), by simpa using hZ, ?_⟩⟩
      obtain ⟨Z⟩ := Z
      match Z, hZ with
      | y :: Z, _ => simp [ptyA]
    have KK := Lib.hid (And.intro hown (And.intro (hb2.far (a := ⟨lb + 1, 0, none⟩) (by simp) (.int .u8 s)) (And.intro (hc3.setCell (p := ⟨lb + 1, 0, none⟩) (.inr (by simp; omega)) (.int .u8 s)) hlbw)))
    clear hown hb3 hb3' hb2 hc3 hlbw hZ
    go_wp2
    go_loopg [8, 9] (d s) (fun k u a wr => ∃ (pre : List Nat) (x : Nat), a = .int .u8 x ∧ OnWay C d t k pre x l ∧ wr.ownsRow w.heap.size 22 1 u (pre ++ [x]).length (ptyA (pre ++ [x])) ∧ Blk wr lb 135 (intsA d) ∧ Chg [] w wr ∧ Hid (∀ g, u.ownBlock = some g → lb < g) ∧ x ≤ 16)
    case atStart => exact ⟨[], s, rfl, HW, KK.out.1, KK.out.2.1, KK.out.2.2.1, fun g hg => by simp [Value.ownBlock] at hg; omega, hs2⟩
    case round =>
      obtain ⟨pre, x, rfl, hW, hown, hb, hchg, hlb, hx16⟩ := hrel
      have hlbw := KK.out.2.2.2
      clear HW KK c0 f0
      by_cases hxt : x = t
      · subst hxt
        have hl := hW.done
        rw [hl] at hown
        have hne : l ≠ [] := by rw [← hl]; simp
        have RR : Hid (ShortPost w l (.returned u8) wr) := ⟨⟨_, rfl, .inr ⟨hne, hown⟩⟩, hchg⟩
        clear hown hb hchg hlb hl hne hW
        go_wp2
        go_ret
        exact RR.out
      · have ext : ((x : Int) != t) = true := by rw [bne_iff_ne]; omega
        have hk0 := hW.zero hxt
        obtain ⟨kk, rfl⟩ : ∃ kk, gk = kk + 1 := ⟨gk - 1, by omega⟩
        have hdx := hW.far
        have hx1 : 1 ≤ x := by
          have := mem_P16.1 (hW.dist.inP x hW.told); omega
        have hdx15 := hW.dist.small _ hW.told
        have HX := Lib.hid (And.intro hW (And.intro hown (And.intro hchg (And.intro hlb hxt))))
        have HLB := Lib.hid hlbw
        have HB := Lib.hid hb
        have HDX := Lib.hid hdx
        clear hW hown hb hchg hlb hk0 hlbw hxt hdx
        obtain ⟨W, hWW⟩ : ∃ W : World, W = wr := ⟨_, rfl⟩
        rw [← hWW] at HX HB ⊢
        clear hWW
        go_wp2
        go_loopw [9, 10] (fun a i ws => ∃ j : Nat, j ≤ 16 ∧ a = .int .u8 x ∧ i = .int .u8 ((j : Int) + 1) ∧ Chg [] W ws ∧ Hid (∀ p, 1 ≤ p → p ≤ j → ¬(d p + 1 = d x ∧ 0 < C x p))) (fun _ i _ => 17 - (intOf i).toNat)
        case atStart => exact ⟨0, by omega, rfl, rfl, Chg.refl _ _, fun p h1 h2 => by omega⟩
        case round =>
          obtain ⟨j, hj, rfl, rfl, hchg, hno⟩ := hrel
          by_cases hj16 : j < 16
          · have hbb := HB.out.chg hchg (by simp)
            have c1 : wr.cell? ⟨lb, j + 1, none⟩ = some (.int .i64 (d (j + 1))) := by rw [hbb.cell, intsA_get _ (by omega)]
            have c2 : wr.cell? ⟨lb, x, none⟩ = some (.int .i64 (d x)) := by rw [hbb.cell, intsA_get _ (by omega)]
            have hj1 : (j : Int) + 1 ≤ 16 := by omega
            have hi0 : (0 : Int) ≤ (j : Int) + 1 := by omega
            have hi1 : (j : Int) + 1 < 17 := by omega
            have hi2 : (0 : Int) ≤ (x : Int) := by omega
            have hi3 : (x : Int) < 17 := by omega
            have hwr : IntKind.i64.wrap ((d x : Int) - 1) = (d x : Int) - 1 := IntWalk.i64_in _ ⟨by omega, by omega⟩
            have hcw := HX.out.2.2.1.trans hchg
            have HC := Lib.hid (And.intro hcw hchg)
            clear hbb hcw hchg
            by_cases hd1 : d (j + 1) + 1 = d x
            · have ee : ((d (j + 1) : Int) == (d x : Int) - 1) = true := by rw [beq_iff_eq]; omega
              by_cases hpos : 0 < C x (j + 1)
              · have hn := nxt_first HX.out.1.dist HX.out.1.told HX.out.2.2.2.2 hj16 hno.out ⟨hd1, hpos⟩
                have HN := Lib.hid hn
                have hpd : decide (0 < C x (j + 1)) = true := by simpa using hpos
                clear hn hd1 hno
                go_wp2
                refine wp_region_held_drew (S := (fun w' : World => w'.cell? ⟨lb, j + 1, none⟩ = some (.int .i64 (d (j + 1))) ∧ w'.cell? ⟨lb, x, none⟩ = some (.int .i64 (d x)))) (by kernel_rfl) ?_ (fun hHeld => ?_)
                · exact ⟨c1, c2⟩
                refine wpAnyH_take (i := 0) (v := ?v131_0) rfl (by kernel_rfl) (by kernel_rfl) (by kernel_rfl) (fun _ _ _ h => h) (Or.inl ⟨by rfl, ?hy131_0⟩) (by assumption) ?_
                case hy131_0 =>  (intro w hSw; (try dsimp only at hSw); go_simp; try (with_reducible rfl))
                (try simp only [Act.put, List.getElem_toArray, List.getElem_cons_zero, List.setIfInBounds_toArray, List.set_cons_zero, List.set_cons_succ])
                refine wpAnyH_take (i := 1) (v := ?v131_1) rfl (by kernel_rfl) (by kernel_rfl) (by kernel_rfl) (fun _ _ _ h => h) (Or.inl ⟨by rfl, ?hy131_1⟩) (by assumption) ?_
                case hy131_1 =>  (intro w hSw; (try dsimp only at hSw); go_simp; try (with_reducible rfl))
                (try simp only [Act.put, List.getElem_toArray, List.getElem_cons_zero, List.getElem_cons_succ, List.setIfInBounds_toArray, List.set_cons_zero, List.set_cons_succ])
                refine wpAnyH_take (i := 2) (v := ?v131_2) rfl (by kernel_rfl) (by kernel_rfl) (by kernel_rfl) (fun _ _ _ h => h) (Or.inl ⟨by rfl, ?hy131_2⟩) (by assumption) ?_
                case hy131_2 =>  (intro w hSw; (try dsimp only at hSw); go_simp; try (with_reducible rfl))
                (try simp only [Act.put, List.getElem_toArray, List.getElem_cons_zero, List.getElem_cons_succ, List.setIfInBounds_toArray, List.set_cons_zero, List.set_cons_succ])
                refine wpAnyH_take (i := 3) (v := ?v131_3) rfl (by kernel_rfl) (by kernel_rfl) (by kernel_rfl) (fun _ _ _ h => h) (Or.inl ⟨by rfl, ?hy131_3⟩) (by assumption) ?_
                case hy131_3 =>  (intro w hSw; (try dsimp only at hSw); go_simp; try (with_reducible rfl))
                (try simp only [Act.put, List.getElem_toArray, List.getElem_cons_zero, List.getElem_cons_succ, List.setIfInBounds_toArray, List.set_cons_zero, List.set_cons_succ])
                refine wpAnyH_take (i := 4) (v := ?v131_4) rfl (by kernel_rfl) (by kernel_rfl) (by kernel_rfl) (fun _ _ _ h => h) (Or.inl ⟨by rfl, ?hy131_4⟩) (by assumption) ?_
                case hy131_4 =>  (intro w hSw; (try dsimp only at hSw); go_simp; try (with_reducible rfl))
                (try simp only [Act.put, List.getElem_toArray, List.getElem_cons_zero, List.getElem_cons_succ, List.setIfInBounds_toArray, List.set_cons_zero, List.set_cons_succ])
                refine wpAnyH_take (i := 5) (v := ?v131_5) rfl (by kernel_rfl) (by kernel_rfl) (by kernel_rfl) (fun _ _ _ h => h) (Or.inl ⟨by rfl, ?hy131_5⟩) (by assumption) ?_
                case hy131_5 =>  (intro w hSw; (try dsimp only at hSw); go_simp; try (with_reducible rfl))
                (try simp only [Act.put, List.getElem_toArray, List.getElem_cons_zero, List.getElem_cons_succ, List.setIfInBounds_toArray, List.set_cons_zero, List.set_cons_succ])
                refine wpAnyH_take (i := 6) (v := ?v131_6) rfl (by kernel_rfl) (by kernel_rfl) (by kernel_rfl) (fun _ _ _ h => h) (Or.inl ⟨by rfl, ?hy131_6⟩) (by assumption) ?_
                case hy131_6 =>  (intro w hSw; (try dsimp only at hSw); go_simp; try (with_reducible rfl))
                (try simp only [Act.put, List.getElem_toArray, List.getElem_cons_zero, List.getElem_cons_succ, List.setIfInBounds_toArray, List.set_cons_zero, List.set_cons_succ])
                refine wpAnyH_take (i := 7) (v := ?v131_7) rfl (by kernel_rfl) (by kernel_rfl) (by kernel_rfl) (fun _ _ _ h => h) (Or.inl ⟨by rfl, ?hy131_7⟩) (by assumption) ?_
                case hy131_7 =>  (intro w hSw; (try dsimp only at hSw); go_simp; try (with_reducible rfl))
                (try simp only [Act.put, List.getElem_toArray, List.getElem_cons_zero, List.getElem_cons_succ, List.setIfInBounds_toArray, List.set_cons_zero, List.set_cons_succ])
                refine wpAnyH_take (i := 8) (v := ?v131_8) rfl (by kernel_rfl) (by kernel_rfl) (by kernel_rfl) (fun _ _ _ h => h) (Or.inl ⟨by rfl, ?hy131_8⟩) (by assumption) ?_
                case hy131_8 =>  (intro w hSw; (try dsimp only at hSw); go_simp; try (with_reducible rfl))
                (try simp only [Act.put, List.getElem_toArray, List.getElem_cons_zero, List.getElem_cons_succ, List.setIfInBounds_toArray, List.set_cons_zero, List.set_cons_succ])
                refine wpAnyH_take (i := 9) (v := ?v131_9) rfl (by kernel_rfl) (by kernel_rfl) (by kernel_rfl) (fun _ _ _ h => h) (Or.inl ⟨by rfl, ?hy131_9⟩) (by assumption) ?_
                case hy131_9 =>  (intro w hSw; (try dsimp only at hSw); go_simp; try (with_reducible rfl))
                (try simp only [Act.put, List.getElem_toArray, List.getElem_cons_zero, List.getElem_cons_succ, List.setIfInBounds_toArray, List.set_cons_zero, List.set_cons_succ])
                refine wpAnyH_take (i := 10) (v := ?v131_10) rfl (by kernel_rfl) (by kernel_rfl) (by kernel_rfl) (fun _ _ _ h => h) (Or.inl ⟨by rfl, ?hy131_10⟩) (by assumption) ?_
                case hy131_10 =>  (intro w hSw; (try dsimp only at hSw); go_simp; try (with_reducible rfl))
                (try simp only [Act.put, List.getElem_toArray, List.getElem_cons_zero, List.getElem_cons_succ, List.setIfInBounds_toArray, List.set_cons_zero, List.set_cons_succ])
                refine wpAnyH_take (i := 11) (v := ?v131_11) rfl (by kernel_rfl) (by kernel_rfl) (by kernel_rfl) (fun _ _ _ h => h) (Or.inl ⟨by rfl, ?hy131_11⟩) (by assumption) ?_
                case hy131_11 =>  (intro w hSw; (try dsimp only at hSw); go_simp; try (with_reducible rfl))
                (try simp only [Act.put, List.getElem_toArray, List.getElem_cons_zero, List.getElem_cons_succ, List.setIfInBounds_toArray, List.set_cons_zero, List.set_cons_succ])
                refine wpAnyH_ready (rs := [12]) (by kernel_rfl) (by simp) (AllReadyH.cons rfl (fun K hK => ?_) AllReadyH.nil)
                go_simp
                (refine (CAP.out _ HC.out.1.drew _ _ x (j + 1) rfl (by omega)).mono ?_; rintro e w' ⟨rfl, rfl⟩)
                (try go_wp2_with fail)
                refine hK.out _ _ ?_ (fun hHeld => ?_)
                · exact ⟨c1, c2⟩
                clear hK K
                (try simp only [Act.put, List.getElem_toArray, List.getElem_cons_zero, List.getElem_cons_succ, List.setIfInBounds_toArray, List.set_cons_zero, List.set_cons_succ])
                refine wpAnyH_take (i := 13) (v := ?v131_13) rfl (by kernel_rfl) (by kernel_rfl) (by kernel_rfl) (fun _ _ _ h => h) (Or.inl ⟨by rfl, ?hy131_13⟩) (by assumption) ?_
                case hy131_13 =>  (intro w hSw; (try dsimp only at hSw); go_simp; try (with_reducible rfl))
                (try simp only [Act.put, List.getElem_toArray, List.getElem_cons_zero, List.getElem_cons_succ, List.setIfInBounds_toArray, List.set_cons_zero, List.set_cons_succ])
                refine wpAnyH_take (i := 14) (v := ?v131_14) rfl (by kernel_rfl) (by kernel_rfl) (by kernel_rfl) (fun _ _ _ h => h) (Or.inl ⟨by rfl, ?hy131_14⟩) (by assumption) ?_
                case hy131_14 =>  (intro w hSw; (try dsimp only at hSw); go_simp; try (with_reducible rfl))
                (try simp only [Act.put, List.getElem_toArray, List.getElem_cons_zero, List.getElem_cons_succ, List.setIfInBounds_toArray, List.set_cons_zero, List.set_cons_succ])
                refine wpAnyH_done (by kernel_rfl) ?_ _
                have hoA := ownsRow_chg HX.out.2.1 ((HC.out.2.alloc (.cells #[.int .u8 ((j : Int) + 1)] 22)).drew) (by simp)
                have hsz := HC.out.1.size
                have hone := (Blk.new wr 22 #[.int .u8 ((j : Int) + 1)]).drew
                have hlen : (pre ++ [x]).length ≤ 1000 := by
                  have h1 := congrArg List.length HX.out.1.all
                  have h2 := way_length C d (kk + 1) x
                  have hll : l.length = d s + 1 := by rw [HLL.out, way_length]
                  rw [List.length_append, h2] at h1
                  simp; omega
                have HA := Lib.hid (And.intro hoA (And.intro hsz (And.intro hone hlen)))
                clear hoA hsz hone hlen c1 c2
                go_wp2_with (at_builtin; refine wpList_append_own_at _ rfl _ _ 66 rfl w.heap.size 22 i0 _ 1 1 Try.underlying66 II.out.1 II.out.2.1 II.out.2.2.1 II.out.2.2.2 rfl (by decide) _ _ _ rfl HA.out.1 ⟨wr.heap.size, 0, none⟩ 1 1 [.int .u8 ((j : Int) + 1)] rfl rfl ?_ (by intro u hu; simp at hu; subst hu; rfl) (le_maxLen (by have := HA.out.2.2.2; omega)) (by have := HA.out.2.2.2; omega) (by have := HA.out.2.1; simp; omega) ?_)
                · exact cells_new wr [.int .u8 ((j : Int) + 1)] 22
                intro v' w3 hown' hgrow _ hat
                have hcg : Chg (Value.ownBlock u8).toList W w3 := (((HC.out.2.alloc (.cells #[.int .u8 ((j : Int) + 1)] 22)).drew).mono (by simp)).grown hgrow (fun k hk => .inl (by simp [hk]))
                have hno8 : ∀ g, g ∈ (Value.ownBlock u8).toList → lb < g := fun g hg => HX.out.2.2.2.1.out g (by simpa using hg)
                have hlb3 : Blk w3 lb 135 (intsA d) := HB.out.chg hcg (fun h => by have := hno8 _ h; omega)
                have hcw3 : Chg [] w w3 := HX.out.2.2.1.fresh hcg (fun g hg => .inr (by have := hno8 g hg; have := HLB.out; omega))
                have hW3 := HX.out.1.step HX.out.2.2.2.2
                rw [HN.out] at hW3
                have hown3 : w3.ownsRow w.heap.size 22 1 v' (pre ++ [x] ++ [j + 1]).length (ptyA (pre ++ [x] ++ [j + 1])) := by
                  have e : ptyA (pre ++ [x]) ++ [Value.int .u8 ((j : Int) + 1)] = ptyA (pre ++ [x] ++ [j + 1]) := by simp [ptyA]
                  rw [e] at hown'
                  simpa using hown'
                have hlbl := HB.out.chg HC.out.2 (by simp)
                have hlo : Hid (∀ g, v'.ownBlock = some g → lb < g) := by
                  intro g hg
                  rcases hat with h | h
                  · rw [h] at hg; exact HX.out.2.2.2.1.out g hg
                  · rw [h] at hg; cases hg
                    have := hlbl.lt
                    simp; omega
                have hj16' : j + 1 ≤ 16 := by omega
                have RR := Lib.hid (And.intro hW3 (And.intro hown3 (And.intro hlb3 (And.intro hcw3 (And.intro hlo hj16')))))
                clear hcg hno8 hlb3 hcw3 hW3 hown3 hlbl hlo hown' hgrow hat HA
                go_wp2
                go_roundg kk
                case measure => omega
                case rel => first | exact ⟨pre ++ [x], j + 1, by go_num, RR.out⟩ | ((repeat apply Exists.intro); exact ⟨⟨pre ++ [x], j + 1, by go_num, RR.out⟩, rfl⟩)
              · have HNO : Hid (∀ p, 1 ≤ p → p ≤ j + 1 → ¬(d p + 1 = d x ∧ 0 < C x p)) := fun p h1 h2 => by
                  by_cases e : p = j + 1
                  · subst e; exact fun h => hpos h.2
                  · exact hno.out p h1 (by omega)
                have hpd : C x (j + 1) ≤ 0 := by omega
                clear hno hd1 hpos
                go_wp2
                refine wp_region_held_drew (S := (fun w' : World => w'.cell? ⟨lb, j + 1, none⟩ = some (.int .i64 (d (j + 1))) ∧ w'.cell? ⟨lb, x, none⟩ = some (.int .i64 (d x)))) (by kernel_rfl) ?_ (fun hHeld => ?_)
                · exact ⟨c1, c2⟩
                refine wpAnyH_take (i := 0) (v := ?v132_0) rfl (by kernel_rfl) (by kernel_rfl) (by kernel_rfl) (fun _ _ _ h => h) (Or.inl ⟨by rfl, ?hy132_0⟩) (by assumption) ?_
                case hy132_0 =>  (intro w hSw; (try dsimp only at hSw); go_simp; try (with_reducible rfl))
                (try simp only [Act.put, List.getElem_toArray, List.getElem_cons_zero, List.setIfInBounds_toArray, List.set_cons_zero, List.set_cons_succ])
                refine wpAnyH_take (i := 1) (v := ?v132_1) rfl (by kernel_rfl) (by kernel_rfl) (by kernel_rfl) (fun _ _ _ h => h) (Or.inl ⟨by rfl, ?hy132_1⟩) (by assumption) ?_
                case hy132_1 =>  (intro w hSw; (try dsimp only at hSw); go_simp; try (with_reducible rfl))
                (try simp only [Act.put, List.getElem_toArray, List.getElem_cons_zero, List.getElem_cons_succ, List.setIfInBounds_toArray, List.set_cons_zero, List.set_cons_succ])
                refine wpAnyH_take (i := 2) (v := ?v132_2) rfl (by kernel_rfl) (by kernel_rfl) (by kernel_rfl) (fun _ _ _ h => h) (Or.inl ⟨by rfl, ?hy132_2⟩) (by assumption) ?_
                case hy132_2 =>  (intro w hSw; (try dsimp only at hSw); go_simp; try (with_reducible rfl))
                (try simp only [Act.put, List.getElem_toArray, List.getElem_cons_zero, List.getElem_cons_succ, List.setIfInBounds_toArray, List.set_cons_zero, List.set_cons_succ])
                refine wpAnyH_take (i := 3) (v := ?v132_3) rfl (by kernel_rfl) (by kernel_rfl) (by kernel_rfl) (fun _ _ _ h => h) (Or.inl ⟨by rfl, ?hy132_3⟩) (by assumption) ?_
                case hy132_3 =>  (intro w hSw; (try dsimp only at hSw); go_simp; try (with_reducible rfl))
                (try simp only [Act.put, List.getElem_toArray, List.getElem_cons_zero, List.getElem_cons_succ, List.setIfInBounds_toArray, List.set_cons_zero, List.set_cons_succ])
                refine wpAnyH_take (i := 4) (v := ?v132_4) rfl (by kernel_rfl) (by kernel_rfl) (by kernel_rfl) (fun _ _ _ h => h) (Or.inl ⟨by rfl, ?hy132_4⟩) (by assumption) ?_
                case hy132_4 =>  (intro w hSw; (try dsimp only at hSw); go_simp; try (with_reducible rfl))
                (try simp only [Act.put, List.getElem_toArray, List.getElem_cons_zero, List.getElem_cons_succ, List.setIfInBounds_toArray, List.set_cons_zero, List.set_cons_succ])
                refine wpAnyH_take (i := 5) (v := ?v132_5) rfl (by kernel_rfl) (by kernel_rfl) (by kernel_rfl) (fun _ _ _ h => h) (Or.inl ⟨by rfl, ?hy132_5⟩) (by assumption) ?_
                case hy132_5 =>  (intro w hSw; (try dsimp only at hSw); go_simp; try (with_reducible rfl))
                (try simp only [Act.put, List.getElem_toArray, List.getElem_cons_zero, List.getElem_cons_succ, List.setIfInBounds_toArray, List.set_cons_zero, List.set_cons_succ])
                refine wpAnyH_take (i := 6) (v := ?v132_6) rfl (by kernel_rfl) (by kernel_rfl) (by kernel_rfl) (fun _ _ _ h => h) (Or.inl ⟨by rfl, ?hy132_6⟩) (by assumption) ?_
                case hy132_6 =>  (intro w hSw; (try dsimp only at hSw); go_simp; try (with_reducible rfl))
                (try simp only [Act.put, List.getElem_toArray, List.getElem_cons_zero, List.getElem_cons_succ, List.setIfInBounds_toArray, List.set_cons_zero, List.set_cons_succ])
                refine wpAnyH_take (i := 7) (v := ?v132_7) rfl (by kernel_rfl) (by kernel_rfl) (by kernel_rfl) (fun _ _ _ h => h) (Or.inl ⟨by rfl, ?hy132_7⟩) (by assumption) ?_
                case hy132_7 =>  (intro w hSw; (try dsimp only at hSw); go_simp; try (with_reducible rfl))
                (try simp only [Act.put, List.getElem_toArray, List.getElem_cons_zero, List.getElem_cons_succ, List.setIfInBounds_toArray, List.set_cons_zero, List.set_cons_succ])
                refine wpAnyH_take (i := 8) (v := ?v132_8) rfl (by kernel_rfl) (by kernel_rfl) (by kernel_rfl) (fun _ _ _ h => h) (Or.inl ⟨by rfl, ?hy132_8⟩) (by assumption) ?_
                case hy132_8 =>  (intro w hSw; (try dsimp only at hSw); go_simp; try (with_reducible rfl))
                (try simp only [Act.put, List.getElem_toArray, List.getElem_cons_zero, List.getElem_cons_succ, List.setIfInBounds_toArray, List.set_cons_zero, List.set_cons_succ])
                refine wpAnyH_take (i := 9) (v := ?v132_9) rfl (by kernel_rfl) (by kernel_rfl) (by kernel_rfl) (fun _ _ _ h => h) (Or.inl ⟨by rfl, ?hy132_9⟩) (by assumption) ?_
                case hy132_9 =>  (intro w hSw; (try dsimp only at hSw); go_simp; try (with_reducible rfl))
                (try simp only [Act.put, List.getElem_toArray, List.getElem_cons_zero, List.getElem_cons_succ, List.setIfInBounds_toArray, List.set_cons_zero, List.set_cons_succ])
                refine wpAnyH_take (i := 10) (v := ?v132_10) rfl (by kernel_rfl) (by kernel_rfl) (by kernel_rfl) (fun _ _ _ h => h) (Or.inl ⟨by rfl, ?hy132_10⟩) (by assumption) ?_
                case hy132_10 =>  (intro w hSw; (try dsimp only at hSw); go_simp; try (with_reducible rfl))
                (try simp only [Act.put, List.getElem_toArray, List.getElem_cons_zero, List.getElem_cons_succ, List.setIfInBounds_toArray, List.set_cons_zero, List.set_cons_succ])
                refine wpAnyH_take (i := 11) (v := ?v132_11) rfl (by kernel_rfl) (by kernel_rfl) (by kernel_rfl) (fun _ _ _ h => h) (Or.inl ⟨by rfl, ?hy132_11⟩) (by assumption) ?_
                case hy132_11 =>  (intro w hSw; (try dsimp only at hSw); go_simp; try (with_reducible rfl))
                (try simp only [Act.put, List.getElem_toArray, List.getElem_cons_zero, List.getElem_cons_succ, List.setIfInBounds_toArray, List.set_cons_zero, List.set_cons_succ])
                refine wpAnyH_ready (rs := [12]) (by kernel_rfl) (by simp) (AllReadyH.cons rfl (fun K hK => ?_) AllReadyH.nil)
                go_simp
                (refine (CAP.out _ HC.out.1.drew _ _ x (j + 1) rfl (by omega)).mono ?_; rintro e w' ⟨rfl, rfl⟩)
                (try go_wp2_with fail)
                refine hK.out _ _ ?_ (fun hHeld => ?_)
                · exact ⟨c1, c2⟩
                clear hK K
                (try simp only [Act.put, List.getElem_toArray, List.getElem_cons_zero, List.getElem_cons_succ, List.setIfInBounds_toArray, List.set_cons_zero, List.set_cons_succ])
                refine wpAnyH_take (i := 13) (v := ?v132_13) rfl (by kernel_rfl) (by kernel_rfl) (by kernel_rfl) (fun _ _ _ h => h) (Or.inl ⟨by rfl, ?hy132_13⟩) (by assumption) ?_
                case hy132_13 =>  (intro w hSw; (try dsimp only at hSw); go_simp; try (with_reducible rfl))
                (try simp only [Act.put, List.getElem_toArray, List.getElem_cons_zero, List.getElem_cons_succ, List.setIfInBounds_toArray, List.set_cons_zero, List.set_cons_succ])
                refine wpAnyH_take (i := 14) (v := ?v132_14) rfl (by kernel_rfl) (by kernel_rfl) (by kernel_rfl) (fun _ _ _ h => h) (Or.inl ⟨by rfl, ?hy132_14⟩) (by assumption) ?_
                case hy132_14 =>  (intro w hSw; (try dsimp only at hSw); go_simp; try (with_reducible rfl))
                (try simp only [Act.put, List.getElem_toArray, List.getElem_cons_zero, List.getElem_cons_succ, List.setIfInBounds_toArray, List.set_cons_zero, List.set_cons_succ])
                refine wpAnyH_done (by kernel_rfl) ?_ _
                go_wp2
                go_roundw
                case rel => first | exact ⟨j + 1, by omega, rfl, by go_num, HC.out.2.drew, HNO⟩ | ((repeat apply Exists.intro); exact ⟨⟨j + 1, by omega, rfl, by go_num, HC.out.2.drew, HNO⟩, rfl⟩)
                case measure => simp [intOf]; omega
            · have HNO : Hid (∀ p, 1 ≤ p → p ≤ j + 1 → ¬(d p + 1 = d x ∧ 0 < C x p)) := fun p h1 h2 => by
                by_cases e : p = j + 1
                · subst e; exact fun h => hd1 h.1
                · exact hno.out p h1 (by omega)
              have ee : ((d (j + 1) : Int) == (d x : Int) - 1) = false := by rw [beq_eq_false_iff_ne]; omega
              clear hno hd1
              go_wp2
              refine wp_region_held_drew (S := (fun w' : World => w'.cell? ⟨lb, j + 1, none⟩ = some (.int .i64 (d (j + 1))) ∧ w'.cell? ⟨lb, x, none⟩ = some (.int .i64 (d x)))) (by kernel_rfl) ?_ (fun hHeld => ?_)
              · exact ⟨c1, c2⟩
              refine wpAnyH_take (i := 0) (v := ?v133_0) rfl (by kernel_rfl) (by kernel_rfl) (by kernel_rfl) (fun _ _ _ h => h) (Or.inl ⟨by rfl, ?hy133_0⟩) (by assumption) ?_
              case hy133_0 =>  (intro w hSw; (try dsimp only at hSw); go_simp; try (with_reducible rfl))
              (try simp only [Act.put, List.getElem_toArray, List.getElem_cons_zero, List.setIfInBounds_toArray, List.set_cons_zero, List.set_cons_succ])
              refine wpAnyH_take (i := 1) (v := ?v133_1) rfl (by kernel_rfl) (by kernel_rfl) (by kernel_rfl) (fun _ _ _ h => h) (Or.inl ⟨by rfl, ?hy133_1⟩) (by assumption) ?_
              case hy133_1 =>  (intro w hSw; (try dsimp only at hSw); go_simp; try (with_reducible rfl))
              (try simp only [Act.put, List.getElem_toArray, List.getElem_cons_zero, List.getElem_cons_succ, List.setIfInBounds_toArray, List.set_cons_zero, List.set_cons_succ])
              refine wpAnyH_take (i := 2) (v := ?v133_2) rfl (by kernel_rfl) (by kernel_rfl) (by kernel_rfl) (fun _ _ _ h => h) (Or.inl ⟨by rfl, ?hy133_2⟩) (by assumption) ?_
              case hy133_2 =>  (intro w hSw; (try dsimp only at hSw); go_simp; try (with_reducible rfl))
              (try simp only [Act.put, List.getElem_toArray, List.getElem_cons_zero, List.getElem_cons_succ, List.setIfInBounds_toArray, List.set_cons_zero, List.set_cons_succ])
              refine wpAnyH_take (i := 3) (v := ?v133_3) rfl (by kernel_rfl) (by kernel_rfl) (by kernel_rfl) (fun _ _ _ h => h) (Or.inl ⟨by rfl, ?hy133_3⟩) (by assumption) ?_
              case hy133_3 =>  (intro w hSw; (try dsimp only at hSw); go_simp; try (with_reducible rfl))
              (try simp only [Act.put, List.getElem_toArray, List.getElem_cons_zero, List.getElem_cons_succ, List.setIfInBounds_toArray, List.set_cons_zero, List.set_cons_succ])
              refine wpAnyH_take (i := 4) (v := ?v133_4) rfl (by kernel_rfl) (by kernel_rfl) (by kernel_rfl) (fun _ _ _ h => h) (Or.inl ⟨by rfl, ?hy133_4⟩) (by assumption) ?_
              case hy133_4 =>  (intro w hSw; (try dsimp only at hSw); go_simp; try (with_reducible rfl))
              (try simp only [Act.put, List.getElem_toArray, List.getElem_cons_zero, List.getElem_cons_succ, List.setIfInBounds_toArray, List.set_cons_zero, List.set_cons_succ])
              refine wpAnyH_take (i := 5) (v := ?v133_5) rfl (by kernel_rfl) (by kernel_rfl) (by kernel_rfl) (fun _ _ _ h => h) (Or.inl ⟨by rfl, ?hy133_5⟩) (by assumption) ?_
              case hy133_5 =>  (intro w hSw; (try dsimp only at hSw); go_simp; try (with_reducible rfl))
              (try simp only [Act.put, List.getElem_toArray, List.getElem_cons_zero, List.getElem_cons_succ, List.setIfInBounds_toArray, List.set_cons_zero, List.set_cons_succ])
              refine wpAnyH_take (i := 6) (v := ?v133_6) rfl (by kernel_rfl) (by kernel_rfl) (by kernel_rfl) (fun _ _ _ h => h) (Or.inl ⟨by rfl, ?hy133_6⟩) (by assumption) ?_
              case hy133_6 =>  (intro w hSw; (try dsimp only at hSw); go_simp; try (with_reducible rfl))
              (try simp only [Act.put, List.getElem_toArray, List.getElem_cons_zero, List.getElem_cons_succ, List.setIfInBounds_toArray, List.set_cons_zero, List.set_cons_succ])
              refine wpAnyH_take (i := 7) (v := ?v133_7) rfl (by kernel_rfl) (by kernel_rfl) (by kernel_rfl) (fun _ _ _ h => h) (Or.inl ⟨by rfl, ?hy133_7⟩) (by assumption) ?_
              case hy133_7 =>  (intro w hSw; (try dsimp only at hSw); go_simp; try (with_reducible rfl))
              (try simp only [Act.put, List.getElem_toArray, List.getElem_cons_zero, List.getElem_cons_succ, List.setIfInBounds_toArray, List.set_cons_zero, List.set_cons_succ])
              refine wpAnyH_take (i := 8) (v := ?v133_8) rfl (by kernel_rfl) (by kernel_rfl) (by kernel_rfl) (fun _ _ _ h => h) (Or.inl ⟨by rfl, ?hy133_8⟩) (by assumption) ?_
              case hy133_8 =>  (intro w hSw; (try dsimp only at hSw); go_simp; try (with_reducible rfl))
              (try simp only [Act.put, List.getElem_toArray, List.getElem_cons_zero, List.getElem_cons_succ, List.setIfInBounds_toArray, List.set_cons_zero, List.set_cons_succ])
              refine wpAnyH_take (i := 9) (v := undef) rfl (by kernel_rfl) (by kernel_rfl) (by kernel_rfl) (fun _ _ _ h => h) (Or.inr ⟨by rfl, rfl⟩) (by assumption) ?_
              (try simp only [Act.put, List.getElem_toArray, List.getElem_cons_zero, List.getElem_cons_succ, List.setIfInBounds_toArray, List.set_cons_zero, List.set_cons_succ])
              refine wpAnyH_take (i := 10) (v := undef) rfl (by kernel_rfl) (by kernel_rfl) (by kernel_rfl) (fun _ _ _ h => h) (Or.inr ⟨by rfl, rfl⟩) (by assumption) ?_
              (try simp only [Act.put, List.getElem_toArray, List.getElem_cons_zero, List.getElem_cons_succ, List.setIfInBounds_toArray, List.set_cons_zero, List.set_cons_succ])
              refine wpAnyH_take (i := 11) (v := undef) rfl (by kernel_rfl) (by kernel_rfl) (by kernel_rfl) (fun _ _ _ h => h) (Or.inr ⟨by rfl, rfl⟩) (by assumption) ?_
              (try simp only [Act.put, List.getElem_toArray, List.getElem_cons_zero, List.getElem_cons_succ, List.setIfInBounds_toArray, List.set_cons_zero, List.set_cons_succ])
              refine wpAnyH_take (i := 12) (v := undef) rfl (by kernel_rfl) (by kernel_rfl) (by kernel_rfl) (fun _ _ _ h => h) (Or.inr ⟨by rfl, rfl⟩) (by assumption) ?_
              (try simp only [Act.put, List.getElem_toArray, List.getElem_cons_zero, List.getElem_cons_succ, List.setIfInBounds_toArray, List.set_cons_zero, List.set_cons_succ])
              refine wpAnyH_take (i := 13) (v := undef) rfl (by kernel_rfl) (by kernel_rfl) (by kernel_rfl) (fun _ _ _ h => h) (Or.inr ⟨by rfl, rfl⟩) (by assumption) ?_
              (try simp only [Act.put, List.getElem_toArray, List.getElem_cons_zero, List.getElem_cons_succ, List.setIfInBounds_toArray, List.set_cons_zero, List.set_cons_succ])
              refine wpAnyH_take (i := 14) (v := ?v133_14) rfl (by kernel_rfl) (by kernel_rfl) (by kernel_rfl) (fun _ _ _ h => h) (Or.inl ⟨by rfl, ?hy133_14⟩) (by assumption) ?_
              case hy133_14 =>  (intro w hSw; (try dsimp only at hSw); go_simp; try (with_reducible rfl))
              (try simp only [Act.put, List.getElem_toArray, List.getElem_cons_zero, List.getElem_cons_succ, List.setIfInBounds_toArray, List.set_cons_zero, List.set_cons_succ])
              refine wpAnyH_done (by kernel_rfl) ?_ _
              go_wp2
              go_roundw
              case rel => first | exact ⟨j + 1, by omega, rfl, by go_num, HC.out.2.drew, HNO⟩ | ((repeat apply Exists.intro); exact ⟨⟨j + 1, by omega, rfl, by go_num, HC.out.2.drew, HNO⟩, rfl⟩)
              case measure => simp [intOf]; omega
          · have hj17 : j = 16 := by omega
            subst hj17
            exact (nxt_none HX.out.1.dist HX.out.1.told HX.out.2.2.2.2 hno.out).elim

/-- paths.Short, whatever is asked. -/
theorem pshort {w : World} {v : Value} {C : Caps} (hv : CapV w v C) {s t : Nat} {p q : Int} (hp : p = s) (hq : q = t) :
    Calls Try.prog 134 #[v, .int .u8 p, .int .u8 q] w (ShortPost w (short C s t)) := by
  by_cases h : s ∈ P16 ∧ t ∈ P16 ∧ s ≠ t
  · exact pshort_on hv h.1 h.2.1 h.2.2 hp hq
  · refine pshort_off ?_ hp hq
    by_cases h1 : s ∈ P16
    · by_cases h2 : t ∈ P16
      · exact .inr (.inr (Classical.byContradiction fun h3 => h ⟨h1, h2, h3⟩))
      · exact .inr (.inl h2)
    · exact .inl h1
end Go.Proofs.Ytofnaigkfhfhoaa
