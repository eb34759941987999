/-
  The document's package 6: Short.
-/
import Derived.Test.YtfpdkeokdojejaaReach
import Derived.Test.YtfpdkeokdojejaaShort
import Derived.Maps.AppendAt
namespace Go.Proofs.Ytfpdkeokdojejaa
open Go.RowKit Pl
attribute [local irreducible] hops

theorem index_bools (b : Nat → Bool) {i : Nat} (hi : i < 17) {r : Bool} (hr : b i = r) (w : World) : (Instr.index 77 (.agg (boolsA b)) (.int .u8 (i : Int))).run Try.prog w = .ok (.bool r) w :=
  run_index_cell (boolsA b) i .u8 Try.underlying77 Try.underlying4 rfl (by kernel_rfl) hi (.bool r) (by rw [boolsA_get _ hi, hr]) w

set_option maxRecDepth 100000 in
set_option maxHeartbeats 2000000 in
theorem rshort_off {w : World} {ao : Option Addr} {C : Caps} {s t : Nat} (h : s ∉ P16 ∨ t ∉ P16 ∨ s = t) :
    Calls Try.prog 49 #[.pointer ao, .int .u8 s, .int .u8 t] w (ShortPost w (short C s t)) := by
  rw [short_off h]
  rw [mem_P16, mem_P16] at h
  have HC : Hid ((s : Int) < 1 ∨ (1 ≤ (s : Int) ∧ 16 < (s : Int)) ∨ (1 ≤ (s : Int) ∧ (s : Int) ≤ 16 ∧ (t : Int) < 1) ∨ (1 ≤ (s : Int) ∧ (s : Int) ≤ 16 ∧ 1 ≤ (t : Int) ∧ 16 < (t : Int)) ∨ (1 ≤ (s : Int) ∧ (s : Int) ≤ 16 ∧ 1 ≤ (t : Int) ∧ (t : Int) ≤ 16 ∧ ((s : Int) == t) = true)) := by
    show _ ∨ _
    simp only [beq_iff_eq]
    omega
  clear h
  go_enter Try.func49, Try.ntmps49
  rcases HC.out with a1 | ⟨a1, a2⟩ | ⟨a1, a2, a3⟩ | ⟨a1, a2, a3, a4⟩ | ⟨a1, a2, a3, a4, a5⟩
  all_goals
    go_wp2
    go_ret
    exact .none rfl (Chg.refl _ _)

set_option maxRecDepth 100000 in
set_option maxHeartbeats 4000000 in
theorem rshort_on {w : World} {mb : Nat} {v : Value} {C : Caps} (h : IsM w mb v C) {s t : Nat} (hs : s ∈ P16) (ht : t ∈ P16) (hne : s ≠ t) :
    Calls Try.prog 49 #[.pointer (some ⟨mb, 0, none⟩), .int .u8 s, .int .u8 t] w (ShortPost w (short C s t)) := by
  have HD := hops_dist C ht
  have HSH : short C s t = if hops C t s ≠ 17 then way C (hops C t) (hops C t s) s else [] := by
    unfold short
    by_cases h : hops C t s ≠ 17
    · rw [if_pos ⟨hs, ht, hne, h⟩, if_pos h]
    · rw [if_neg (fun h' => h h'.2.2.2), if_neg h]
  have RCH : Hid (∀ W, Chg [] w W → ∀ (p q : Int) (f n : Nat), f ≤ 16 → n ≤ 16 → p = f → q = n → Calls Try.prog 59 #[.pointer (some ⟨mb, 0, none⟩), .int .u8 p, .int .i64 q] W fun e w' => ∃ B : Nat → Bool, e = .returned (.agg (boolsA B)) ∧ Hid (B t = decide (hops C t f ≤ n)) ∧ Chg [] W w') :=
    fun W hW p q f n hf hn hp hq => (rreach (h.chg0 hW) hf hn hp hq).mono fun e w' ⟨he, hc⟩ => ⟨_, he, reachB_hops h.good ht f hn, hc⟩
  have CAP : Hid (∀ W, Chg [] w W → ∀ (p q : Int) (a b : Nat), p = a → q = b → Calls Try.prog 20 #[.pointer (some ⟨mb, 0, none⟩), .int .u8 p, .int .u8 q] W fun e w' => e = .returned (.int .i64 (C a b)) ∧ W = w') :=
    fun W hW p q a b hp hq => rcap (h.chg0 hW) hp hq
  generalize hops C t = d at *
  generalize short C s t = l at *
  clear h
  obtain ⟨hs1, hs2⟩ := mem_P16.1 hs
  obtain ⟨ht1, ht2⟩ := mem_P16.1 ht
  have hd15 := HD.small s
  have e1 : ((s : Int) == t) = false := by rw [beq_eq_false_iff_ne]; omega
  have HDD := Lib.hid HD
  have HL := Lib.hid HSH
  obtain ⟨i0, hi, hz0, hz1, hz2⟩ := info_parts info_Party
  have II := Lib.hid (And.intro hi (And.intro hz0 (And.intro hz1 hz2)))
  clear hi hz0 hz1 hz2 HD HSH hs ht hne
  have hd15' := Lib.hid hd15
  have hs3 : 1 ≤ (s : Int) := by omega
  have hs4 : (s : Int) ≤ 16 := by omega
  have ht3 : 1 ≤ (t : Int) := by omega
  have ht4 : (t : Int) ≤ 16 := by omega
  clear hd15
  go_enter Try.func49, Try.ntmps49
  go_wp2_with fail
  refine (RCH.out w (Chg.refl _ _) _ _ s 16 hs2 (by omega) rfl rfl).mono ?_
  rintro e w1 ⟨B, rfl, hB, hc1⟩
  have K1 := Lib.hid hc1
  clear hc1
  by_cases h17 : d s = 17
  · have hix := index_bools B (i := t) (by omega) (r := false) (by rw [hB.out, h17]; rfl)
    have hl : Hid (l = []) := by have := HL.out; rw [if_neg (by simpa using h17)] at this; exact this
    clear h17
    go_wp2
    go_ret
    exact .none hl.out K1.out
  · have hd := hd15'.out h17
    have hix := index_bools B (i := t) (by omega) (r := true) (by rw [hB.out]; exact decide_eq_true (by omega))
    have hl : Hid (l = way C d (d s) s) := by have := HL.out; rw [if_pos (by simpa using h17)] at this; exact this
    have HW : OnWay C d t (d s) [] s l := ⟨HDD.out, rfl, h17, by rw [hl.out]; rfl⟩
    have HLL := hl
    clear h17 hl
    have hsz := K1.out.size
    have hown : (w1.alloc (.cells #[.int .u8 s] 33)).ownsRow w.heap.size 33 1 (.slice (some ⟨w1.heap.size, 0, none⟩) 1 1) 1 (ptyA [s]) := by
      refine ⟨by simp [ptyA], .inr ⟨w1.heap.size, 1, _, rfl, by omega, Blk.new _ _ _, by omega, le_maxLen (by omega), by simp, by simp [ptyA]⟩⟩
    have KK := Lib.hid (And.intro hown (K1.out.alloc (.cells #[.int .u8 s] 33)))
    clear hown hsz
    go_wp2
    clear hix
    go_loopg [7, 1] (d s) (fun k u a wr => ∃ (pre : List Nat) (x : Nat), a = .int .u8 x ∧ OnWay C d t k pre x l ∧ wr.ownsRow w.heap.size 33 1 u (pre ++ [x]).length (ptyA (pre ++ [x])) ∧ Chg [] w wr ∧ x ≤ 16)
    case atStart => exact ⟨[], s, rfl, HW, KK.out.1, KK.out.2, hs2⟩
    case round =>
      obtain ⟨pre, x, rfl, hW, hown, hchg, hx16⟩ := hrel
      clear HW KK K1
      by_cases hxt : x = t
      · subst hxt
        have hl := hW.done
        rw [hl] at hown
        have hne : l ≠ [] := by rw [← hl]; simp
        have RR : Hid (ShortPost w l (.returned u7) wr) := ⟨⟨_, rfl, .inr ⟨hne, hown⟩⟩, hchg⟩
        clear hown hchg hl hne hW
        go_wp2
        go_ret
        exact RR.out
      · have ext : ((x : Int) != t) = true := by rw [bne_iff_ne]; omega
        have hk0 := hW.zero hxt
        obtain ⟨kk, rfl⟩ : ∃ kk, gk = kk + 1 := ⟨gk - 1, by omega⟩
        have hdx := hW.far
        have hx1 : 1 ≤ x := by
          have := mem_P16.1 (hW.dist.inP x hW.told); omega
        have hdx15 := hW.dist.small _ hW.told
        have hdx1 : 1 ≤ d x := by omega
        have HX := Lib.hid (And.intro hW (And.intro hown (And.intro hchg hxt)))
        have HDX := Lib.hid hdx
        clear hW hown hchg hk0 hxt hdx
        obtain ⟨W, hWW⟩ : ∃ W : World, W = wr := ⟨_, rfl⟩
        rw [← hWW] at HX ⊢
        clear hWW
        go_wp2
        go_loopw [8] (fun i ws => ∃ j : Nat, j ≤ d x ∧ i = .int .i64 j ∧ Hid (Chg [] W ws)) (fun i _ => 17 - (intOf i).toNat)
        case atStart => exact ⟨0, by omega, rfl, Chg.refl _ _⟩
        case round =>
          obtain ⟨j, hj, rfl, hc⟩ := hrel
          go_wp2_with fail
          refine (RCH.out _ (HX.out.2.2.1.trans hc.out) _ _ x j hx16 (by omega) rfl rfl).mono ?_
          rintro e w2 ⟨B2, rfl, hB2, hc2⟩
          have K2 := Lib.hid (hc.out.trans hc2)
          clear hc2 hc
          by_cases hjx : j < d x
          · have hix := index_bools B2 (i := t) (by omega) (r := false) (by rw [hB2.out]; exact decide_eq_false (by omega))
            go_wp2
            go_roundw
            case rel => exact ⟨j + 1, by omega, by go_num, K2.out⟩
            case measure => simp [intOf]; omega
          · obtain rfl : j = d x := by omega
            have hix := index_bools B2 (i := t) (by omega) (r := true) (by rw [hB2.out]; exact decide_eq_true (by omega))
            go_wp2
            clear hix hB2
            obtain ⟨W4, hW4⟩ : ∃ W4 : World, W4 = w2 := ⟨_, rfl⟩
            rw [← hW4] at K2 ⊢
            clear hW4 hj hjx
            go_loopw [1, 9] (fun a i ws => ∃ j : Nat, j ≤ 16 ∧ a = .int .u8 x ∧ i = .int .u8 ((j : Int) + 1) ∧ Hid (Chg [] W4 ws) ∧ Hid (∀ p, 1 ≤ p → p ≤ j → ¬(d p + 1 = d x ∧ 0 < C x p))) (fun _ i _ => 18 - (intOf i).toNat)
            case atStart => exact ⟨0, by omega, rfl, rfl, Chg.refl _ _, fun p h1 h2 => by omega⟩
            case round =>
              obtain ⟨j, hj, rfl, rfl, hchg, hno⟩ := hrel
              by_cases hj16 : j < 16
              · have hj1 : (j : Int) + 1 ≤ 16 := by omega
                have hcw := HX.out.2.2.1.trans (K2.out.trans hchg.out)
                have HC := Lib.hid hcw
                clear hcw
                have hsub : IntKind.i64.wrap ((d x : Int) - 1) = (d x : Int) - 1 := IntWalk.i64_in _ ⟨by omega, by omega⟩
                by_cases hpos : 0 < C x (j + 1)
                · go_wp2_with fail
                  refine (CAP.out _ HC.out _ _ x (j + 1) rfl (by go_num)).mono ?_
                  rintro e w5 ⟨rfl, rfl⟩
                  go_wp2_with fail
                  refine (RCH.out _ HC.out _ _ (j + 1) (d x - 1) (by omega) (by omega) (by go_num) (by omega)).mono ?_
                  rintro e w6 ⟨B3, rfl, hB3, hc3⟩
                  have K3 := Lib.hid (hchg.out.trans hc3)
                  clear hc3
                  have hedge := HX.out.1.dist.edge (j + 1) x
                  by_cases hd1 : d (j + 1) + 1 = d x
                  · have hix := index_bools B3 (i := t) (by omega) (r := true) (by rw [hB3.out]; exact decide_eq_true (by omega))
                    have hn : nxt C d x = j + 1 := nxt_first HX.out.1.dist HX.out.1.told HX.out.2.2.2 hj16 hno.out ⟨hd1, hpos⟩
                    have hW2 := HX.out.1.step HX.out.2.2.2
                    rw [hn] at hW2
                    have hlen : (pre ++ [x]).length ≤ 1000 := by
                      have h1 := congrArg List.length HX.out.1.all
                      have h2 := way_length C d (kk + 1) x
                      have hll : l.length = d s + 1 := by rw [HLL.out, way_length]
                      rw [List.length_append, h2] at h1
                      simp; omega
                    have HA := Lib.hid (And.intro (ownsRow_chg HX.out.2.1 (K2.out.trans K3.out) (by simp)) (And.intro (HX.out.2.2.1.trans (K2.out.trans K3.out)) (And.intro hW2 hlen)))
                    clear hd1 hn hW2 hlen hedge hB3 hpos hno
                    go_wp2_with (at_builtin; refine wpList_append_own_at _ rfl _ _ 89 rfl w.heap.size 33 i0 _ 1 1 Try.underlying89 II.out.1 II.out.2.1 II.out.2.2.1 II.out.2.2.2 rfl (by decide) _ _ _ rfl (HA.out.1.alloc _) ⟨w6.heap.size, 0, none⟩ 1 1 [.int .u8 ((j : Int) + 1)] rfl rfl ?_ (by intro u hu; simp at hu; subst hu; rfl) (le_maxLen (by have := HA.out.2.2.2; omega)) (by have := HA.out.2.2.2; omega) (by have := HA.out.2.1.size; simp; omega) ?_)
                    · exact cells_new w6 [.int .u8 ((j : Int) + 1)] 33
                    intro v' w7 hown' hgrow _ hat
                    have hbase : ∀ k, u7.ownBlock = some k → w.heap.size ≤ k := fun k hk => (HA.out.1.lt k hk).1
                    have hcw3 : Chg [] w w7 := (HA.out.2.1.alloc (.cells #[.int .u8 ((j : Int) + 1)] 33)).grown hgrow (fun k hk => .inr (hbase k hk))
                    have hown3 : w7.ownsRow w.heap.size 33 1 v' (pre ++ [x] ++ [j + 1]).length (ptyA (pre ++ [x] ++ [j + 1])) := by
                      have e : ptyA (pre ++ [x]) ++ [Value.int .u8 ((j : Int) + 1)] = ptyA (pre ++ [x] ++ [j + 1]) := by simp [ptyA]
                      rw [e] at hown'
                      simpa using hown'
                    have hj16' : j + 1 ≤ 16 := by omega
                    have RR := Lib.hid (And.intro HA.out.2.2.1 (And.intro hown3 (And.intro hcw3 hj16')))
                    clear hbase hcw3 hown3 hown' hgrow hat HA
                    go_wp2
                    go_roundg kk
                    case measure => omega
                    case rel => first | exact ⟨pre ++ [x], j + 1, by go_num, RR.out⟩ | ((repeat apply Exists.intro); exact ⟨⟨pre ++ [x], j + 1, by go_num, RR.out⟩, rfl⟩)
                  · have hix := index_bools B3 (i := t) (by omega) (r := false) (by rw [hB3.out]; exact decide_eq_false (fun hle => hd1 (by have := hedge (by omega) (HX.out.1.dist.inP x HX.out.1.told) hpos; omega)))
                    have HNO : Hid (∀ p, 1 ≤ p → p ≤ j + 1 → ¬(d p + 1 = d x ∧ 0 < C x p)) := fun p h1 h2 h3 => by
                      by_cases hp : p = j + 1
                      · subst hp; exact hd1 h3.1
                      · exact hno.out p h1 (by omega) h3
                    clear hd1 hedge hB3 hpos hno
                    go_wp2
                    go_roundw
                    case rel => exact ⟨j + 1, by omega, rfl, by go_num, K3.out, HNO⟩
                    case measure => simp [intOf]; omega
                · have HNO : Hid (∀ p, 1 ≤ p → p ≤ j + 1 → ¬(d p + 1 = d x ∧ 0 < C x p)) := fun p h1 h2 h3 => by
                    by_cases hp : p = j + 1
                    · subst hp; exact hpos h3.2
                    · exact hno.out p h1 (by omega) h3
                  have hpos' : ¬ 0 < C x (j + 1) := hpos
                  clear hno
                  go_wp2_with fail
                  refine (CAP.out _ HC.out _ _ x (j + 1) rfl (by go_num)).mono ?_
                  rintro e w5 ⟨rfl, rfl⟩
                  go_wp2
                  go_roundw
                  case rel => exact ⟨j + 1, by omega, rfl, by go_num, hchg.out, HNO⟩
                  case measure => simp [intOf]; omega
              · have hj17 : j = 16 := by omega
                subst hj17
                exact (nxt_none HX.out.1.dist HX.out.1.told HX.out.2.2.2 hno.out).elim

/-- ref06.Short, whatever is asked. -/
theorem rshort {w : World} {mb : Nat} {v : Value} {C : Caps} (h : IsM w mb v C) (s t : Nat) :
    Calls Try.prog 49 #[.pointer (some ⟨mb, 0, none⟩), .int .u8 s, .int .u8 t] w (ShortPost w (short C s t)) := by
  by_cases hh : s ∈ P16 ∧ t ∈ P16 ∧ s ≠ t
  · exact rshort_on h hh.1 hh.2.1 hh.2.2
  · refine rshort_off ?_
    by_cases h1 : s ∈ P16
    · by_cases h2 : t ∈ P16
      · exact .inr (.inr (Classical.byContradiction fun h3 => hh ⟨h1, h2, h3⟩))
      · exact .inr (.inl h2)
    · exact .inl h1
end Go.Proofs.Ytfpdkeokdojejaa
