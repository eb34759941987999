/-
  The document's answer for graphs (countinghouseref05): Cap, set.
-/
import Derived.Test.YtfpdkeokdojejaaPlEdges
import Derived.Test.YtfpdkeokdojejaaTwinF
namespace Go.Proofs.Ytfpdkeokdojejaa
open Go.RowKit Pl

/-- Block mb is the document's graph: it holds the slice v, that reads as the edges. -/
structure IsM (w : World) (mb : Nat) (v : Value) (C : Caps) : Prop where
  blk : Blk w mb 42 #[v]
  row : RdFl w v (edgesOf C)
  good : CapOk 4398046511104 C
  off : v.ownBlock ≠ some mb

theorem slice_own {a : Addr} {n c : Nat} : (Value.slice (some a) n c).ownBlock = some a.block := rfl
theorem IsM.chg {w w' : World} {mb : Nat} {v : Value} {C : Caps} {s : List Nat} (h : IsM w mb v C) (k : Chg s w w') (hn : mb ∉ s) (hv : ∀ g, v.ownBlock = some g → g ∉ s) : IsM w' mb v C :=
  ⟨h.blk.chg k hn, h.row.chg k (by rintro a n c rfl; exact hv _ slice_own), h.good, h.off⟩
theorem IsM.chg0 {w w' : World} {mb : Nat} {v : Value} {C : Caps} (h : IsM w mb v C) (k : Chg [] w w') : IsM w' mb v C := h.chg k (by simp) (by simp)

theorem rcap_none {w : World} {mb : Nat} {ao : Option Addr} {cap : Nat} (hb : Blk w mb 42 #[.slice ao 0 cap]) (p q : Int) :
    Calls Try.prog 20 #[.pointer (some ⟨mb, 0, none⟩), .int .u8 p, .int .u8 q] w fun e w' => e = .returned (.int .i64 0) ∧ w = w' := by
  have b0 : w.cell? ⟨mb, 0, none⟩ = some (.slice ao 0 cap) := hb.cell 0
  clear hb
  go_enter Try.func20, Try.ntmps20
  go_wp2
  refine wp_loop_rounds 1 ?_
  rw [rounds_succ]
  go_wp2
  go_ret
  exact ⟨rfl, rfl⟩

set_option maxRecDepth 100000 in
set_option maxHeartbeats 1000000 in
theorem rcap_cells {w : World} {mb g off cap : Nat} {l : List Fl} {f t : Nat} {r : Int} (hb : Blk w mb 42 #[.slice (some ⟨g, off, none⟩) l.length cap]) (hm : l.length ≤ 1000000)
    (hc : ∀ k (h : k < l.length), w.cell? ⟨g, off + k * 3, none⟩ = some (.int .u8 l[k].f) ∧ w.cell? ⟨g, off + k * 3 + 1, none⟩ = some (.int .u8 l[k].t) ∧ w.cell? ⟨g, off + k * 3 + 2, none⟩ = some (.int .i64 l[k].n))
    (hyes : ∀ k (h : k < l.length), l[k].f = f → l[k].t = t → l[k].n = r) (hno : (∀ k (h : k < l.length), ¬(l[k].f = f ∧ l[k].t = t)) → r = 0) :
    Calls Try.prog 20 #[.pointer (some ⟨mb, 0, none⟩), .int .u8 f, .int .u8 t] w fun e w' => e = .returned (.int .i64 r) ∧ w = w' := by
  have b0 : w.cell? ⟨mb, 0, none⟩ = some (.slice (some ⟨g, off, none⟩) l.length cap) := hb.cell 0
  have HY := Lib.hid hyes
  have HN := Lib.hid hno
  clear hb hyes hno
  go_enter Try.func20, Try.ntmps20
  go_wp2
  go_loopw [7] (fun i wr => ∃ k : Nat, k ≤ l.length ∧ i = .int .i64 k ∧ wr = w ∧ Hid (∀ j (h : j < l.length), j < k → ¬(l[j].f = f ∧ l[j].t = t))) (fun i _ => l.length - (intOf i).toNat)
  case atStart => exact ⟨0, Nat.zero_le _, rfl, rfl, fun j _ h => by omega⟩
  case round =>
    obtain ⟨k, hk, rfl, rfl, hT⟩ := hrel
    by_cases hlt : k < l.length
    · obtain ⟨c1, c2, c3⟩ := hc k hlt
      have hy := HY.out k hlt
      have hstep : ¬(l[k].f = f ∧ l[k].t = t) → Hid (∀ j (h : j < l.length), j < k + 1 → ¬(l[j].f = f ∧ l[j].t = t)) := fun h j hj hjk => by
        by_cases e : j = k
        · subst e; exact h
        · exact hT.out j hj (by omega)
      generalize l[k] = x at c1 c2 c3 hy hstep
      obtain ⟨a, b, n⟩ := x
      dsimp only at c1 c2 c3 hy hstep
      have HS := Lib.hid hstep
      have HY2 := Lib.hid hy
      clear hc hy hstep hT HY HN
      by_cases h1 : a = f
      · by_cases h2 : b = t
        · have e := HY2.out h1 h2
          subst h1 h2 e
          go_wp2
          go_ret
          exact ⟨rfl, rfl⟩
        · have R := HS.out (fun h => h2 h.2)
          have d1 : ((a : Int) == f) = true := by rw [beq_iff_eq]; omega
          have d2 : ((b : Int) == t) = false := by rw [beq_eq_false_iff_ne]; omega
          clear h1 h2 HS HY2
          go_wp2
          go_roundw
          case rel => exact ⟨k + 1, by omega, by go_num, trivial, R⟩
          case measure => simp [intOf]; omega
      · have R := HS.out (fun h => h1 h.1)
        have d1 : ((a : Int) == f) = false := by rw [beq_eq_false_iff_ne]; omega
        clear h1 HS HY2
        go_wp2
        go_roundw
        case rel => exact ⟨k + 1, by omega, by go_num, trivial, R⟩
        case measure => simp [intOf]; omega
    · have e := HN.out (fun j hj => hT.out j hj (by omega))
      obtain rfl : k = l.length := by omega
      subst e
      clear hT HN HY hc
      go_wp2
      go_ret
      exact ⟨rfl, rfl⟩

theorem rcap {w : World} {mb : Nat} {v : Value} {C : Caps} (h : IsM w mb v C) {p q : Int} {f t : Nat} (hp : p = f) (hq : q = t) :
    Calls Try.prog 20 #[.pointer (some ⟨mb, 0, none⟩), .int .u8 p, .int .u8 q] w fun e w' => e = .returned (.int .i64 (C f t)) ∧ w = w' := by
  subst hp hq
  have hlen := edgesOf_len C
  rcases h.row with ⟨e, ao, cap, rfl, _⟩ | ⟨g, off, cap, rfl, _, hc⟩
  · have : C f t = 0 := edges_none h.good (by rw [e]; intro k hk; simp at hk)
    rw [this]
    exact rcap_none h.blk _ _
  · exact rcap_cells h.blk (by omega) hc (fun k hk h1 h2 => edges_at hk h1 h2) (fun hh => edges_none h.good hh)

theorem ownsRow_rd {w : World} {base : Nat} {t : TypeId} {v : Value} {l : List Fl} (h : w.ownsRow base t 3 v l.length (flsCells l)) : RdFl w v l := by
  obtain ⟨hl, ⟨rfl, h0⟩ | ⟨g, cap, cs, rfl, hb, hk, hn, _, hs, ht⟩⟩ := h
  · have : l = [] := List.eq_nil_of_length_eq_zero h0
    subst this
    exact .inl ⟨rfl, none, 0, rfl, fun _ => rfl⟩
  · refine RdFl.of_blk hk hn fun k hkl => ?_
    rw [← ht, List.getElem?_take, if_pos (by omega), Nat.zero_add]
    simp
theorem ownsRow_own {w : World} {base : Nat} {t : TypeId} {v : Value} {n : Nat} {xs : List Value} (h : w.ownsRow base t 3 v n xs) : ∀ g, v.ownBlock = some g → base ≤ g ∧ g < w.heap.size := fun g hg => by
  refine ⟨?_, (h.lt g hg).2⟩
  obtain ⟨_, ⟨rfl, _⟩ | ⟨g', cap, cs, rfl, hb, _⟩⟩ := h
  · cases hg
  · rw [slice_own] at hg; cases hg; exact hb

set_option maxRecDepth 100000 in
set_option maxHeartbeats 4000000 in
theorem rset {w : World} {mb : Nat} {v : Value} {C : Caps} (h : IsM w mb v C) {f t : Nat} {n : Int} (hD : CapOk 4398046511104 (set2 C f t n)) {p q : Int} (hp : p = f) (hq : q = t) :
    Calls Try.prog 39 #[.pointer (some ⟨mb, 0, none⟩), .int .u8 p, .int .u8 q, .int .i64 n] w fun e w' => e = .returned (.tuple #[]) ∧ ∃ v', IsM w' mb v' (set2 C f t n) ∧ Chg [mb] w w' ∧ ∀ g, v'.ownBlock = some g → w.heap.size ≤ g := by
  subst hp hq
  obtain ⟨i0, hi, hz0, hz1, hz2⟩ := info_parts info_Flow
  have II := Lib.hid (And.intro hi (And.intro hz0 (And.intro hz1 hz2)))
  have hml := h.blk.lt
  have E := Lib.hid (edgesOf_tab1 hD.off)
  have HD := Lib.hid hD
  have HH := Lib.hid h
  have CAP : Hid (∀ W, Chg [] w W → ∀ (p q : Int) (a b : Nat), p = a → q = b → Calls Try.prog 20 #[.pointer (some ⟨mb, 0, none⟩), .int .u8 p, .int .u8 q] W fun e w' => e = .returned (.int .i64 (C a b)) ∧ W = w') := fun W hW p q a b hp hq => rcap (h.chg0 hW) hp hq
  clear hi hz0 hz1 hz2 hD h
  go_enter Try.func39, Try.ntmps39
  go_wp2
  go_loopw [8, 9] (fun u i wr => ∃ k : Nat, k ≤ 16 ∧ i = .int .u8 ((k : Int) + 1) ∧ wr.ownsRow w.heap.size 35 3 u (tab1 (set2 C f t n) k).length (flsCells (tab1 (set2 C f t n) k)) ∧ Chg [] w wr) (fun _ i _ => 17 - (intOf i).toNat)
  case atStart => exact ⟨0, by omega, rfl, World.ownsRow_nil _ _ _ _, Chg.refl _ _⟩
  case round =>
    obtain ⟨k, hk, rfl, hown, hchg⟩ := hrel
    by_cases hlt : k < 16
    · have hle : (k : Int) + 1 ≤ 16 := by omega
      go_wp2
      go_loopw [8, 10] (fun u i ws => ∃ j : Nat, j ≤ 16 ∧ i = .int .u8 ((j : Int) + 1) ∧ ws.ownsRow w.heap.size 35 3 u (tab1 (set2 C f t n) k ++ row1 (set2 C f t n) (k + 1) j).length (flsCells (tab1 (set2 C f t n) k ++ row1 (set2 C f t n) (k + 1) j)) ∧ Chg [] w ws) (fun _ i _ => 17 - (intOf i).toNat)
      case atStart => exact ⟨0, by omega, rfl, by simpa [row1] using hown, hchg⟩
      case round =>
        clear hown hchg
        obtain ⟨j, hj, rfl, hown, hchg⟩ := hrel
        by_cases hjt : j < 16
        · have hle2 : (j : Int) + 1 ≤ 16 := by omega
          have HC := Lib.hid hchg
          have HO := Lib.hid hown
          have hcell := cellE_len
          clear hown hchg
          go_wp2_with fail
          refine (CAP.out _ HC.out _ _ (k + 1) (j + 1) (by omega) (by omega)).mono ?_; rintro e w' ⟨rfl, rfl⟩
          by_cases hab : k + 1 = f ∧ j + 1 = t
          · have hv : set2 C f t n (k + 1) (j + 1) = n := by simp [set2, hab]
            have d1 : ((k : Int) + 1 == f) = true := by rw [beq_iff_eq]; omega
            have d2 : ((j : Int) + 1 == t) = true := by rw [beq_iff_eq]; omega
            clear hab
            generalize C (k + 1) (j + 1) = y
            by_cases hpos : 0 < n
            · have hlen1 := tab1_len (set2 C f t n) k
              have hlen2 := row1_len (set2 C f t n) (k + 1) j
              have E1 : Hid (row1 (set2 C f t n) (k + 1) (j + 1) = row1 (set2 C f t n) (k + 1) j ++ [⟨k + 1, j + 1, n⟩]) := by show _ = _; rw [row1_succ, cellE, hv, if_pos hpos]
              have hsrc : ∀ i u, [Value.int .u8 ((k : Int) + 1), .int .u8 ((j : Int) + 1), .int .i64 n][i]? = some u → ((wr.alloc (.cells #[.int .u8 ((k : Int) + 1), .int .u8 ((j : Int) + 1), .int .i64 n] 35)).alloc (.cells #[.int .u8 ((k : Int) + 1), .int .u8 ((j : Int) + 1), .int .i64 n] 35)).cell? ((⟨wr.heap.size + 1, 0, none⟩ : Addr).add i) = some u := by
                have := cells_new (wr.alloc (.cells #[.int .u8 ((k : Int) + 1), .int .u8 ((j : Int) + 1), .int .i64 n] 35)) [Value.int .u8 ((k : Int) + 1), .int .u8 ((j : Int) + 1), .int .i64 n] 35
                simpa only [World.size_alloc] using this
              have hone : ∀ u ∈ [Value.int .u8 ((k : Int) + 1), .int .u8 ((j : Int) + 1), .int .i64 n], u.oneCell' = true := by intro u hu; simp at hu; rcases hu with rfl | rfl | rfl <;> rfl
              have hbs := HC.out.size
              have HS := Lib.hid (And.intro hsrc (And.intro hone hbs))
              clear hsrc hone hbs hv
              go_wp2_with (at_builtin; refine wpList_append_own _ rfl _ _ 22 rfl w.heap.size 35 i0 _ 3 16 Try.underlying22 II.out.1 II.out.2.1 II.out.2.2.1 II.out.2.2.2 rfl (by decide) _ _ _ rfl ((HO.out.alloc _).alloc _) ⟨wr.heap.size + 1, 0, none⟩ 1 1 [Value.int .u8 ((k : Int) + 1), .int .u8 ((j : Int) + 1), .int .i64 n] rfl rfl HS.out.1 HS.out.2.1 (le_maxLen (by simp; omega)) (by simp; omega) (by have := HS.out.2.2; simp; omega) ?_)
              intro v' w1 hown' hgrow _
              have hlt1 := HO.out.lt
              have hc2 := ((HC.out.alloc (.cells #[.int .u8 ((k : Int) + 1), .int .u8 ((j : Int) + 1), .int .i64 n] 35)).alloc (.cells #[.int .u8 ((k : Int) + 1), .int .u8 ((j : Int) + 1), .int .i64 n] 35)).grown hgrow (fun q hq => .inr (hlt1 q hq).1)
              have R : Hid (w1.ownsRow w.heap.size 35 3 v' (tab1 (set2 C f t n) k ++ row1 (set2 C f t n) (k + 1) (j + 1)).length (flsCells (tab1 (set2 C f t n) k ++ row1 (set2 C f t n) (k + 1) (j + 1)))) := by
                show World.ownsRow _ _ _ _ _ _ _
                rw [E1.out, ← List.append_assoc, List.length_append, flsCells_append]
                simpa [flsCells, flCells] using hown'
              clear hown' hgrow hlt1 E1 HS HO HC hlen1 hlen2
              go_wp2
              go_roundw
              case rel => exact ⟨j + 1, by omega, by go_num, R.out, hc2⟩
              case measure => simp [intOf]; omega
            · have E1 : row1 (set2 C f t n) (k + 1) (j + 1) = row1 (set2 C f t n) (k + 1) j := by rw [row1_succ, cellE, hv, if_neg hpos, List.append_nil]
              rw [← E1] at HO
              have hc2 := HC.out.alloc (.cells #[.int .u8 ((k : Int) + 1), .int .u8 ((j : Int) + 1), .int .i64 n] 35)
              have ho2 := Lib.hid (HO.out.alloc (.cells #[.int .u8 ((k : Int) + 1), .int .u8 ((j : Int) + 1), .int .i64 n] 35))
              clear E1 hv HO HC
              go_wp2
              go_roundw
              case rel => exact ⟨j + 1, by omega, by go_num, ho2.out, hc2⟩
              case measure => simp [intOf]; omega
          · have hv : set2 C f t n (k + 1) (j + 1) = C (k + 1) (j + 1) := by unfold set2; rw [if_neg hab]
            generalize C (k + 1) (j + 1) = y at hv
            have hd : ((k : Int) + 1 == f) = false ∨ (((k : Int) + 1 == f) = true ∧ ((j : Int) + 1 == t) = false) := by
              rw [beq_eq_false_iff_ne, beq_eq_false_iff_ne, beq_iff_eq]; omega
            clear hab
            rcases hd with d1 | ⟨d1, d2⟩
            all_goals
              by_cases hpos : 0 < y
              · have hlen1 := tab1_len (set2 C f t n) k
                have hlen2 := row1_len (set2 C f t n) (k + 1) j
                have E1 : Hid (row1 (set2 C f t n) (k + 1) (j + 1) = row1 (set2 C f t n) (k + 1) j ++ [⟨k + 1, j + 1, y⟩]) := by show _ = _; rw [row1_succ, cellE, hv, if_pos hpos]
                have hsrc : ∀ i u, [Value.int .u8 ((k : Int) + 1), .int .u8 ((j : Int) + 1), .int .i64 y][i]? = some u → ((wr.alloc (.cells #[.int .u8 ((k : Int) + 1), .int .u8 ((j : Int) + 1), .int .i64 y] 35)).alloc (.cells #[.int .u8 ((k : Int) + 1), .int .u8 ((j : Int) + 1), .int .i64 y] 35)).cell? ((⟨wr.heap.size + 1, 0, none⟩ : Addr).add i) = some u := by
                  have := cells_new (wr.alloc (.cells #[.int .u8 ((k : Int) + 1), .int .u8 ((j : Int) + 1), .int .i64 y] 35)) [Value.int .u8 ((k : Int) + 1), .int .u8 ((j : Int) + 1), .int .i64 y] 35
                  simpa only [World.size_alloc] using this
                have hone : ∀ u ∈ [Value.int .u8 ((k : Int) + 1), .int .u8 ((j : Int) + 1), .int .i64 y], u.oneCell' = true := by intro u hu; simp at hu; rcases hu with rfl | rfl | rfl <;> rfl
                have hbs := HC.out.size
                have HS := Lib.hid (And.intro hsrc (And.intro hone hbs))
                clear hsrc hone hbs hv
                go_wp2_with (at_builtin; refine wpList_append_own _ rfl _ _ 22 rfl w.heap.size 35 i0 _ 3 16 Try.underlying22 II.out.1 II.out.2.1 II.out.2.2.1 II.out.2.2.2 rfl (by decide) _ _ _ rfl ((HO.out.alloc _).alloc _) ⟨wr.heap.size + 1, 0, none⟩ 1 1 [Value.int .u8 ((k : Int) + 1), .int .u8 ((j : Int) + 1), .int .i64 y] rfl rfl HS.out.1 HS.out.2.1 (le_maxLen (by simp; omega)) (by simp; omega) (by have := HS.out.2.2; simp; omega) ?_)
                intro v' w1 hown' hgrow _
                have hlt1 := HO.out.lt
                have hc2 := ((HC.out.alloc (.cells #[.int .u8 ((k : Int) + 1), .int .u8 ((j : Int) + 1), .int .i64 y] 35)).alloc (.cells #[.int .u8 ((k : Int) + 1), .int .u8 ((j : Int) + 1), .int .i64 y] 35)).grown hgrow (fun q hq => .inr (hlt1 q hq).1)
                have R : Hid (w1.ownsRow w.heap.size 35 3 v' (tab1 (set2 C f t n) k ++ row1 (set2 C f t n) (k + 1) (j + 1)).length (flsCells (tab1 (set2 C f t n) k ++ row1 (set2 C f t n) (k + 1) (j + 1)))) := by
                  show World.ownsRow _ _ _ _ _ _ _
                  rw [E1.out, ← List.append_assoc, List.length_append, flsCells_append]
                  simpa [flsCells, flCells] using hown'
                clear hown' hgrow hlt1 E1 HS HO HC hlen1 hlen2
                go_wp2
                go_roundw
                case rel => exact ⟨j + 1, by omega, by go_num, R.out, hc2⟩
                case measure => simp [intOf]; omega
              · have E1 : row1 (set2 C f t n) (k + 1) (j + 1) = row1 (set2 C f t n) (k + 1) j := by rw [row1_succ, cellE, hv, if_neg hpos, List.append_nil]
                rw [← E1] at HO
                have hc2 := HC.out.alloc (.cells #[.int .u8 ((k : Int) + 1), .int .u8 ((j : Int) + 1), .int .i64 y] 35)
                have ho2 := Lib.hid (HO.out.alloc (.cells #[.int .u8 ((k : Int) + 1), .int .u8 ((j : Int) + 1), .int .i64 y] 35))
                clear E1 hv HO HC
                go_wp2
                go_roundw
                case rel => exact ⟨j + 1, by omega, by go_num, ho2.out, hc2⟩
                case measure => simp [intOf]; omega
        · obtain rfl : j = 16 := by omega
          rw [← tab1_succ] at hown
          go_wp2
          go_roundw
          case rel => exact ⟨k + 1, by omega, by go_num, hown, hchg⟩
          case measure => simp [intOf]; omega
    · obtain rfl : k = 16 := by omega
      rw [← E.out] at hown
      have hr := ownsRow_rd hown
      have ho := ownsRow_own hown
      obtain ⟨ao, cap, rfl⟩ := hr.shape
      have hB := HH.out.blk.chg hchg (by simp)
      have f0 := hB.frozen 0
      have c0 : wr.cell? ⟨mb, 0, none⟩ = some v := hB.cell 0
      have hB1 := hB.set 0 (.slice ao (edgesOf (set2 C f t n)).length cap)
      have hc1 := (hchg.mono (s' := [mb]) (by simp)).setCell (p := ⟨mb, 0, none⟩) (.inl (by simp)) (.slice ao (edgesOf (set2 C f t n)).length cap)
      have hr1 := hr.chg ((Chg.refl [mb] wr).setCell (p := ⟨mb, 0, none⟩) (.inl (by simp)) (.slice ao (edgesOf (set2 C f t n)).length cap)) (by
        rintro a n' c' e hm
        rw [e] at ho
        have := ho _ slice_own
        simp at hm; omega)
      have FF := Lib.hid (And.intro (show IsM _ mb _ (set2 C f t n) from ⟨hB1, hr1, HD.out, fun e => by have := ho _ e; omega⟩) (And.intro hc1 (fun g hg => (ho g hg).1)))
      clear hB hB1 hr hr1 ho hown hchg hc1 E HD HH CAP II
      go_wp2
      go_end0
      exact ⟨rfl, _, FF.out⟩

/-! ### Push, Copy -/

theorem set2_good {B : Int} {C : Caps} (hC : CapOk B C) {f t : Nat} {n : Int} (h1 : 1 ≤ n) (h2 : n ≤ C f t) : CapOk B (set2 C f t (C f t - n)) := by
  refine ⟨fun a b => ?_, fun a b => ?_, fun a b hab => ?_⟩
  · unfold set2; split
    · omega
    · exact hC.nonneg a b
  · have := hC.pair a b
    have hx := hC.nonneg a b
    have hy := hC.nonneg b a
    unfold set2
    split
    · rename_i h; obtain ⟨rfl, rfl⟩ := h
      split
      · rename_i h'; obtain ⟨rfl, _⟩ := h'
        have := hC.off b b (.inr (.inr rfl)); omega
      · omega
    · split
      · rename_i h; obtain ⟨rfl, rfl⟩ := h; omega
      · omega
  · unfold set2
    split
    · rename_i h; obtain ⟨rfl, rfl⟩ := h
      have := hC.off a b hab; omega
    · exact hC.off a b hab

set_option maxRecDepth 100000 in
theorem rpush_ok {w : World} {mb : Nat} {v : Value} {C : Caps} (h : IsM w mb v C) {f t : Nat} {n : Int} (hn : 1 ≤ n) (hn' : n ≤ C f t) {p q : Int} (hp : p = f) (hq : q = t) :
    Calls Try.prog 18 #[.pointer (some ⟨mb, 0, none⟩), .int .u8 p, .int .u8 q, .int .i64 n] w fun e w' => e = .returned (.int .i64 0) ∧ ∃ v', IsM w' mb v' (push C f t n) ∧ Chg [mb] w w' ∧ ∀ g, v'.ownBlock = some g → w.heap.size ≤ g := by
  obtain ⟨hf, ht, hne⟩ := push_in h.good hn hn'
  have hg1 := set2_good h.good hn hn'
  have hg2 := h.good.push (x := ⟨f, t, n⟩) ⟨hf, ht, hne⟩ hn hn'
  dsimp only at hg2
  rw [← set2_push C hne] at hg2
  have hle := h.good.le f t
  have hnn := h.good.nonneg f t
  have hle2 := h.good.le t f
  have hnn2 := h.good.nonneg t f
  have hpr := h.good.pair t f
  have H1 := Lib.hid (rcap h hp hq)
  have H2 := Lib.hid (rcap h hq hp)
  have H3 := Lib.hid (rset h hg1 hp hq)
  have H4 : Hid (∀ W v1, IsM W mb v1 (set2 C f t (C f t - n)) → Calls Try.prog 39 #[.pointer (some ⟨mb, 0, none⟩), .int .u8 q, .int .u8 p, .int .i64 (C t f + n)] W fun e w' => e = .returned (.tuple #[]) ∧ ∃ v', IsM w' mb v' (push C f t n) ∧ Chg [mb] W w' ∧ ∀ g, v'.ownBlock = some g → W.heap.size ≤ g) := by
    intro W v1 h1
    rw [← set2_push C hne]
    exact rset h1 hg2 hq hp
  clear hg1 hg2 hp hq h hf ht hne
  generalize C f t = x at *
  generalize C t f = y at *
  go_enter Try.func18, Try.ntmps18
  go_wp2_with fail
  refine H1.out.mono ?_; rintro e w' ⟨rfl, rfl⟩
  go_wp2_with fail
  refine H2.out.mono ?_; rintro e w' ⟨rfl, rfl⟩
  go_wp2_with fail
  refine H1.out.mono ?_; rintro e w' ⟨rfl, rfl⟩
  go_wp2_with fail
  refine H3.out.mono ?_; rintro e w1 ⟨rfl, v1, hm1, hc1, _⟩
  have H5 := Lib.hid (H4.out w1 v1 hm1)
  have HC := Lib.hid hc1
  clear hm1 hc1
  go_wp2_with fail
  refine H5.out.mono ?_; rintro e w2 ⟨rfl, v2, hm2, hc2, hf2⟩
  have FF := Lib.hid (And.intro hm2 (And.intro (HC.out.trans hc2) (fun g hg => Nat.le_trans HC.out.size (hf2 g hg))))
  clear hm2 hc2 hf2
  go_wp2
  go_ret
  exact ⟨rfl, _, FF.out⟩

theorem rpush {w : World} {mb : Nat} {v : Value} {C : Caps} (h : IsM w mb v C) {f t : Nat} (n : Int) {p q : Int} (hp : p = f) (hq : q = t) :
    Calls Try.prog 18 #[.pointer (some ⟨mb, 0, none⟩), .int .u8 p, .int .u8 q, .int .i64 n] w fun e w' => e = .returned (.int .i64 (pushE C f t n)) ∧ ∃ v', IsM w' mb v' (pushC C f t n) ∧ Chg [mb] w w' ∧ (v' = v ∨ ∀ g, v'.ownBlock = some g → w.heap.size ≤ g) := by
  by_cases h1 : n < 1
  · have e1 : pushE C f t n = 1 := by unfold pushE; rw [if_pos h1]
    have e2 : pushC C f t n = C := by unfold pushC; rw [e1]; rfl
    rw [e1, e2]
    have H := Lib.hid h
    clear e1 e2 hp hq h
    go_enter Try.func18, Try.ntmps18
    go_wp2
    go_ret
    exact ⟨rfl, v, H.out, Chg.refl _ _, .inl rfl⟩
  · by_cases h2 : C f t < n
    · have e1 : pushE C f t n = 11 := by unfold pushE; rw [if_neg h1, if_pos h2]
      have e2 : pushC C f t n = C := by unfold pushC; rw [e1]; rfl
      rw [e1, e2]
      have H2 := Lib.hid (rcap h hp hq)
      have H := Lib.hid h
      generalize C f t = x at h2 H2
      clear e1 e2 hp hq h
      go_enter Try.func18, Try.ntmps18
      go_wp2_with fail
      refine H2.out.mono ?_; rintro e w' ⟨rfl, rfl⟩
      go_wp2
      go_ret
      exact ⟨rfl, v, H.out, Chg.refl _ _, .inl rfl⟩
    · have e1 : pushE C f t n = 0 := by unfold pushE; rw [if_neg h1, if_neg h2]
      have e2 : pushC C f t n = push C f t n := by unfold pushC; rw [if_pos e1]
      rw [e1, e2]
      exact (rpush_ok h (Int.not_lt.1 h1) (Int.not_lt.1 h2) hp hq).mono fun e w' ⟨he, v', h1, h2, h3⟩ => ⟨he, v', h1, h2, .inr h3⟩

/-- What Copy answers. -/
def CopyM (w : World) (C : Caps) (e : Ending) (w' : World) : Prop := ∃ db u, w.heap.size ≤ db ∧ e = .returned (.pointer (some ⟨db, 0, none⟩)) ∧ IsM w' db u C ∧ Chg [] w w' ∧ ∀ g, u.ownBlock = some g → w.heap.size ≤ g
set_option maxRecDepth 100000 in
theorem rcopy {w : World} {mb : Nat} {v : Value} {C : Caps} (h : IsM w mb v C) :
    Calls Try.prog 16 #[.pointer (some ⟨mb, 0, none⟩)] w (CopyM w C) := by
  obtain ⟨ao, cap, rfl, hnone, hsrc⟩ := h.row.src
  obtain ⟨i0, hi, hz0, hz1, hz2⟩ := info_parts info_Flow
  have II := Lib.hid (And.intro hi (And.intro hz0 (And.intro hz1 hz2)))
  have SS := Lib.hid (And.intro hnone hsrc)
  have b0 : w.cell? ⟨mb, 0, none⟩ = some (.slice ao (edgesOf C).length cap) := h.blk.cell 0
  have hlen := edgesOf_len C
  have HG := Lib.hid h.good
  clear hi hz0 hz1 hz2 hnone hsrc h
  cases ao with
  | none =>
    obtain ⟨e0, rfl⟩ := SS.out.1 rfl
    have e1 : edgesOf C = [] := List.eq_nil_of_length_eq_zero e0
    rw [e0] at b0
    go_enter Try.func16, Try.ntmps16
    go_wp2
    go_ret
    exact ⟨w.heap.size, .slice none 0 0, Nat.le_refl _, rfl, ⟨Blk.new _ _ _, .inl ⟨e1, none, 0, rfl, fun _ => rfl⟩, HG.out, by simp [Value.ownBlock]⟩, (Chg.refl _ _).alloc _, by simp [Value.ownBlock]⟩
  | some ad =>
    go_enter Try.func16, Try.ntmps16
    go_wp2_with (at_builtin; refine wpList_append_own _ rfl _ _ 22 rfl w.heap.size 35 i0 _ 3 16 Try.underlying22 II.out.1 II.out.2.1 II.out.2.2.1 II.out.2.2.2 rfl (by decide) _ 0 [] rfl (World.ownsRow_nil _ _ _ _) ad (edgesOf C).length cap (flsCells (edgesOf C)) rfl (flsCells_length _) (SS.out.2 ad rfl) (flsCells_one _) (le_maxLen (by omega)) (by omega) (by omega) ?_)
    intro v' w1 hown hgrow _
    have hown : w1.ownsRow w.heap.size 35 3 v' (edgesOf C).length (flsCells (edgesOf C)) := by simpa using hown
    have hc1 := (Chg.refl [] w).grown hgrow (by intro k hk; cases hk)
    have hr := ownsRow_rd hown
    have ho := ownsRow_own hown
    obtain ⟨ao, c, rfl⟩ := hr.shape
    have FF := Lib.hid (And.intro (show IsM (w1.alloc (.cells #[.slice ao (edgesOf C).length c] 42)) w1.heap.size (.slice ao (edgesOf C).length c) C from ⟨Blk.new _ _ _, hr.chg0 ((Chg.refl _ _).alloc _), HG.out, fun e => by have := ho _ e; omega⟩) (And.intro (hc1.alloc (.cells #[.slice ao (edgesOf C).length c] 42)) (fun g hg => (ho g hg).1)))
    have hsz := hc1.size
    clear hown hgrow hc1 hr ho SS HG II b0
    go_wp2
    go_ret
    exact ⟨_, _, hsz, rfl, FF.out⟩
end Go.Proofs.Ytfpdkeokdojejaa
