/-
  The law FlowsCut, walked.
-/
import Derived.Test.YtfpdkeokdojejaaLives7
import Derived.Test.YtfpdkeokdojejaaBits
import Derived.Test.YtfpdkeokdojejaaPlMost
namespace Go.Proofs.Ytfpdkeokdojejaa
open Go.RowKit Pl

theorem cut_cases {s t : Nat} (h : s = t ∨ s < 1 ∨ 16 < s ∨ t < 1 ∨ 16 < t) :
    (((s : Int) == t) = true) ∨ (((s : Int) == t) = false ∧ (s : Int) < 1) ∨ (((s : Int) == t) = false ∧ 1 ≤ (s : Int) ∧ 16 < (s : Int)) ∨
    (((s : Int) == t) = false ∧ 1 ≤ (s : Int) ∧ (s : Int) ≤ 16 ∧ (t : Int) < 1) ∨ (((s : Int) == t) = false ∧ 1 ≤ (s : Int) ∧ (s : Int) ≤ 16 ∧ 1 ≤ (t : Int) ∧ 16 < (t : Int)) := by
  simp only [beq_iff_eq, beq_eq_false_iff_ne]
  omega

set_option maxRecDepth 100000 in
set_option maxHeartbeats 4000000 in
theorem flowsCut_easy {w : World} {va : Value} {l : List Fl} (hl : RdFl w va l) {s t : Nat} (want : Int) (m : Nat) (h : 300 < l.length ∨ (l.length ≤ 300 ∧ (s = t ∨ s < 1 ∨ 16 < s ∨ t < 1 ∨ 16 < t))) :
    Calls Try.prog 6 #[va, .agg #[.int .u8 s, .int .u8 t, .int .i64 want], .int .u32 m] w fun e w' => e = .returned (.bool true) ∧ Chg [] w w' := by
  obtain ⟨ao, cap, rfl⟩ := hl.shape
  clear hl
  have HC : Hid ((300 : Int) < (l.length : Int) ∨ ((l.length : Int) ≤ 300 ∧ ((((s : Int) == t) = true) ∨ (((s : Int) == t) = false ∧ (s : Int) < 1) ∨ (((s : Int) == t) = false ∧ 1 ≤ (s : Int) ∧ 16 < (s : Int)) ∨
    (((s : Int) == t) = false ∧ 1 ≤ (s : Int) ∧ (s : Int) ≤ 16 ∧ (t : Int) < 1) ∨ (((s : Int) == t) = false ∧ 1 ≤ (s : Int) ∧ (s : Int) ≤ 16 ∧ 1 ≤ (t : Int) ∧ 16 < (t : Int))))) := by
    rcases h with h | ⟨h1, h2⟩
    · exact .inl (by omega)
    · exact .inr ⟨by omega, cut_cases h2⟩
  clear h
  go_enter Try.func6, Try.ntmps6
  rcases HC.out with a1 | ⟨a0, a2 | ⟨a2, a3⟩ | ⟨a2, a3, a4⟩ | ⟨a2, a3, a4, a5⟩ | ⟨a2, a3, a4, a5, a6⟩⟩
  all_goals
    go_wp2_with (go_at_call 27; refine (lives7 _).mono ?_; rintro e w' ⟨rfl, hc⟩)
    go_ret
    exact ⟨rfl, ((Chg.refl [] w).alloc _).trans hc⟩

set_option maxRecDepth 100000 in
set_option maxHeartbeats 4000000 in
theorem flowsCut_bad {w : World} {va : Value} {l : List Fl} (hl : RdFl w va l) {s t : Nat} (want : Int) (m : Nat) (h300 : l.length ≤ 300) (hnew : newG l = none) (hs : s ∈ P16) (ht : t ∈ P16) (hne : s ≠ t) :
    Calls Try.prog 6 #[va, .agg #[.int .u8 s, .int .u8 t, .int .i64 want], .int .u32 m] w fun e w' => e = .returned (.bool true) ∧ Chg [] w w' := by
  have hl1 := hl.chg0 ((Chg.refl [] w).alloc (.cells #[.int .u8 s, .int .u8 t, .int .i64 want] 58))
  obtain ⟨ao, cap, rfl⟩ := hl.shape
  have HL := Lib.hid hl1
  have hL : (l.length : Int) ≤ 300 := by omega
  have hs16 := mem_P16.1 hs
  have ht16 := mem_P16.1 ht
  have a2 : ((s : Int) == t) = false := by rw [beq_eq_false_iff_ne]; omega
  have a31 : 1 ≤ (s : Int) := by omega
  have a32 : (s : Int) ≤ 16 := by omega
  have a41 : 1 ≤ (t : Int) := by omega
  have a42 : (t : Int) ≤ 16 := by omega
  clear hl hl1 hne hs ht hs16 ht16
  go_enter Try.func6, Try.ntmps6
  go_wp2_with fail
  refine (gnew HL.out (by omega)).mono ?_
  intro e w1 hp
  obtain ⟨rfl, hC⟩ := NewPost.no hnew hp
  have C1 := Lib.hid (((Chg.refl [] w).alloc (.cells #[.int .u8 s, .int .u8 t, .int .i64 want] 58)).trans hC)
  clear hp hC
  go_wp2_with (go_at_call 27; refine (lives7 _).mono ?_; rintro e w' ⟨rfl, hc⟩)
  go_ret
  exact ⟨rfl, C1.out.trans hc⟩

set_option maxRecDepth 100000 in
set_option maxHeartbeats 4000000 in
theorem flowsCut_on {w : World} {va : Value} {l : List Fl} (hl : RdFl w va l) {s t : Nat} {want : Int} (hw : -9223372036854775808 ≤ want ∧ want ≤ 9223372036854775807) {m : Nat} (hm : m < 4294967296) (h300 : l.length ≤ 300) {C : Caps} (hnew : newG l = some C)
    (hs : s ∈ P16) (ht : t ∈ P16) (hne : s ≠ t) :
    Calls Try.prog 6 #[va, .agg #[.int .u8 s, .int .u8 t, .int .i64 want], .int .u32 m] w fun e w' => e = .returned (.bool true) ∧ Chg [] w w' := by
  have hl1 := hl.chg0 ((Chg.refl [] w).alloc (.cells #[.int .u8 s, .int .u8 t, .int .i64 want] 58))
  obtain ⟨ao, cap, rfl⟩ := hl.shape
  have HL := Lib.hid hl1
  have hL : (l.length : Int) ≤ 300 := by omega
  have HC := Lib.hid (And.intro hs (And.intro ht hne))
  have hs16 := mem_P16.1 hs
  have ht16 := mem_P16.1 ht
  obtain ⟨r, hr32, hrb, hrs, hrt⟩ := bits_in (m := m) (s := s) (t := t) hm hs16.2 ht16.2 hne
  have HRT := Lib.hid (And.intro hrs hrt)
  have a2 : ((s : Int) == t) = false := by rw [beq_eq_false_iff_ne]; omega
  have a31 : 1 ≤ (s : Int) := by omega
  have a32 : (s : Int) ≤ 16 := by omega
  have a41 : 1 ≤ (t : Int) := by omega
  have a42 : (t : Int) ≤ 16 := by omega
  have HW := Lib.hid hw
  clear hl hl1 hne hs ht hs16 ht16 hrs hrt hw
  go_enter Try.func6, Try.ntmps6
  go_wp2_with fail
  refine (gnew HL.out (by omega)).mono ?_
  intro e w1 hp
  obtain ⟨b, hb, rfl, hG, hC⟩ := NewPost.yes hnew hp
  have hb1 := (Blk.new w 58 #[.int .u8 s, .int .u8 t, .int .i64 want]).chg hC (by simp)
  have C1 := Lib.hid (((Chg.refl [] w).alloc (.cells #[.int .u8 s, .int .u8 t, .int .i64 want] 58)).trans hC)
  have G1 := Lib.hid hG
  have B1 := Lib.hid hb1
  have HMB := Lib.hid (most_bounds hG.good HC.out.1 HC.out.2.1 HC.out.2.2)
  have HML := Lib.hid (most_less hG.good HC.out.1 HC.out.2.1 HC.out.2.2 want)
  have HVA := Lib.hid (routed s t want.toNat C want (by omega))
  have HLn := Lib.hid (route_len hG.good s t (w := want))
  have hbs : w.heap.size + 1 ≤ b := by rw [World.size_alloc] at hb; exact hb
  have c0 : w1.cell? ⟨w.heap.size, 0, none⟩ = some (.int .u8 s) := hb1.cell 0
  have c1 : w1.cell? ⟨w.heap.size, 1, none⟩ = some (.int .u8 t) := hb1.cell 1
  have c2 : w1.cell? ⟨w.heap.size, 2, none⟩ = some (.int .i64 want) := hb1.cell 2
  clear hp hC hb1 hG hb
  go_wp2_with fail
  refine (fmost (.inl ⟨b, rfl, G1.out⟩) s t).mono ?_
  rintro e w2 ⟨rfl, hC⟩
  have hMB := HMB.out
  have hML := HML.out
  rw [show mostOf C s t = mostF C s t from rfl] at hMB hML
  have HML := Lib.hid hML
  generalize mostF C s t = M at *
  obtain ⟨q1, q2, q3⟩ := hMB
  have hcq : ¬ cut C (fun p => r.testBit p) ≤ M - 1 := by have := q3 (fun p => r.testBit p) HRT.out.1 HRT.out.2; omega
  have HCQ := Lib.hid hcq
  have C2 := Lib.hid (C1.out.trans hC)
  have G2 := Lib.hid (IsG.mk (G1.out.blk.chg hC (by simp)) G1.out.good)
  have B2 := Lib.hid (B1.out.chg hC (by simp))
  have d0 : w2.cell? ⟨w.heap.size, 0, none⟩ = some (.int .u8 s) := B2.out.cell 0
  have d1 : w2.cell? ⟨w.heap.size, 1, none⟩ = some (.int .u8 t) := B2.out.cell 1
  have d2 : w2.cell? ⟨w.heap.size, 2, none⟩ = some (.int .i64 want) := B2.out.cell 2
  clear hC q3 hcq hML c0 c1 c2 HMB G1 B1 C1
  have hcutc : Hid (Calls Try.prog 31 #[.pointer (some ⟨b, 0, none⟩), .int .u32 r, .int .i64 (M - 1)] w2 fun e w' => e = .returned (.bool false) ∧ w2 = w') := by
    have h := fcut (v := .pointer (some ⟨b, 0, none⟩)) (.inl ⟨b, rfl, G2.out⟩) r hr32 (M - 1)
    rw [decide_eq_false HCQ.out] at h
    exact h
  clear HCQ
  by_cases hM0 : 0 < M
  · go_wp2_with fail
    refine hcutc.out.mono ?_
    rintro e w' ⟨rfl, rfl⟩
    go_wp2_with fail
    refine (froute (.inl ⟨b, rfl, G2.out⟩) s t HW.out.2).mono ?_
    rintro e w3 ⟨u, rfl, hu, hC⟩
    have hva := HVA.out
    have hlen := HLn.out
    have hml := HML.out
    clear HVA HLn HML hcutc
    generalize route s t want.toNat C want = rt at *
    obtain ⟨ps, got, D⟩ := rt
    dsimp only at *
    have hrd := hu.rd
    obtain ⟨ua, uc, rfl⟩ := hrd.shape
    have R3 := Lib.hid hrd
    have HNB : Hid (∀ a n c, Value.slice ua ps.length uc = .slice (some a) n c → a.block ∉ [b]) := by
      intro a n c e
      have hbl := G2.out.lt
      obtain ⟨_, ⟨h0, _⟩ | ⟨g, cs, he, hg, _⟩⟩ := hu
      · rw [h0] at e; cases e
      · rw [he] at e
        injection e with e1 _ _
        injection e1 with e1
        subst e1
        simp; omega
    have HV := Lib.hid hva.valid
    have ML := Lib.hid hml
    have hbd : got ≤ max want 0 := hva.le
    have hb0 : 0 ≤ got := hva.nonneg
    have HWW := HW.out
    have hgb1 : got ≤ 9223372036854775807 := by omega
    have C3 := Lib.hid (C2.out.trans hC)
    have G3 := Lib.hid (IsG.mk (G2.out.blk.chg hC (by simp)) G2.out.good)
    have B3 := Lib.hid (B2.out.chg hC (by simp))
    clear hva hml hu hrd hC hbd HWW d0 d1 d2
    go_wp2
    go_loopw [12] (fun i wr => ∃ k : Nat, k ≤ ps.length ∧ i = .int .i64 k ∧ Hid (IsG wr b (pushAll C (ps.take k)) ∧ Chg [b] w3 wr)) (fun i _ => ps.length - (intOf i).toNat)
    case atStart => exact ⟨0, by omega, rfl, G3.out, Chg.refl _ _⟩
    case round =>
      obtain ⟨k, hk, rfl, HI⟩ := hrel
      by_cases hkl : k < ps.length
      · have hrd := R3.out.chg HI.out.2 HNB.out
        rcases hrd with ⟨h0, _⟩ | ⟨g, off, cap', he, hcap, hcells⟩
        · rw [h0] at hkl; exact absurd hkl (by simp)
        have hgne : g ≠ b := fun e => HNB.out _ _ _ he (by simp [e])
        injection he with he1 he2 he3
        subst he1 he3
        obtain ⟨c0, c1, c2⟩ := hcells k hkl
        have hgl := block_lt_of_cell c0
        have K0 : ∀ Y, Chg [b] wr.drew Y → Y.cell? ⟨g, off + k * 3, none⟩ = some (.int .u8 ps[k].f) ∧ Y.cell? ⟨g, off + k * 3 + 1, none⟩ = some (.int .u8 ps[k].t) ∧ Y.cell? ⟨g, off + k * 3 + 2, none⟩ = some (.int .i64 ps[k].n) := fun Y hY =>
          ⟨(hY.cell (p := ⟨g, off + k * 3, none⟩) hgl (by simpa using hgne)).trans c0, (hY.cell (p := ⟨g, off + k * 3 + 1, none⟩) hgl (by simpa using hgne)).trans c1, (hY.cell (p := ⟨g, off + k * 3 + 2, none⟩) hgl (by simpa using hgne)).trans c2⟩
        have hat : ps.take (k + 1) = ps.take k ++ [ps[k]] := by rw [List.take_succ_eq_append_getElem hkl]
        have hval : 1 ≤ ps[k].n ∧ ps[k].n ≤ pushAll C (ps.take k) ps[k].f ps[k].t := by
          have hv := HV.out
          have e : ps = ps.take k ++ ps[k] :: ps.drop (k + 1) := by rw [List.getElem_cons_drop, List.take_append_drop]
          rw [e] at hv
          exact valid_at hv
        have HP2 : Hid (pushAll C (ps.take (k + 1)) = push (pushAll C (ps.take k)) ps[k].f ps[k].t ps[k].n) := by
          show _ = _
          rw [hat, pushAll_append]; rfl
        generalize hxe : ps[k] = x at *
        obtain ⟨xf, xt, xn⟩ := x
        dsimp only at *
        obtain ⟨hg, hch⟩ := HI.out
        have HP : Hid (Calls Try.prog 17 #[.pointer (some ⟨b, 0, none⟩), .int .u8 xf, .int .u8 xt, .int .i64 xn] wr.drew fun e w' => e = .returned (.int .i64 0) ∧ IsG w' b (push (pushAll C (ps.take k)) xf xt xn) ∧ Chg [b] wr.drew w') :=
          gpush_ok (w := wr.drew) ⟨hg.blk.drew, hg.good⟩ hval.1 hval.2 rfl rfl
        have KC := Lib.hid K0
        obtain ⟨c0, c1, c2⟩ := K0 wr.drew (Chg.refl _ _)
        have hlen2 : (k : Int) < (ps.length : Int) := by omega
        have hk5 : (0 : Int) ≤ (k : Int) := by omega
        clear hg hch K0 hat hval hcap hcells hxe hgl hk hgne hkl
        go_wp2
        refine wp_region_held_drew (S := (fun w' : World => w'.cell? ⟨g, off + k * 3, none⟩ = some (.int .u8 xf) ∧ w'.cell? ⟨g, off + k * 3 + 1, none⟩ = some (.int .u8 xt) ∧ w'.cell? ⟨g, off + k * 3 + 2, none⟩ = some (.int .i64 xn))) (by kernel_rfl) ?_ (fun hHeld => ?_)
        · exact ⟨c0, c1, c2⟩
        refine wpAnyH_take (i := 0) (v := ?v614_0_0) rfl (by kernel_rfl) (by kernel_rfl) (by kernel_rfl) (fun _ _ _ h => h) (Or.inl ⟨by rfl, ?hy614_0_0⟩) (by assumption) ?_
        case hy614_0_0 => (intro w hSw; (try dsimp only at hSw); go_simp; try (with_reducible rfl))
        (try simp only [Act.put, List.getElem_toArray, List.getElem_cons_zero, List.setIfInBounds_toArray, List.set_cons_zero, List.set_cons_succ])
        refine wpAnyH_take (i := 1) (v := ?v614_0_1) rfl (by kernel_rfl) (by kernel_rfl) (by kernel_rfl) (fun _ _ _ h => h) (Or.inl ⟨by rfl, ?hy614_0_1⟩) (by assumption) ?_
        case hy614_0_1 => (intro w hSw; (try dsimp only at hSw); go_simp; try (with_reducible rfl))
        (try simp only [Act.put, List.getElem_toArray, List.getElem_cons_zero, List.getElem_cons_succ, List.setIfInBounds_toArray, List.set_cons_zero, List.set_cons_succ])
        refine wpAnyH_take (i := 2) (v := ?v614_0_2) rfl (by kernel_rfl) (by kernel_rfl) (by kernel_rfl) (fun _ _ _ h => h) (Or.inl ⟨by rfl, ?hy614_0_2⟩) (by assumption) ?_
        case hy614_0_2 => (intro w hSw; (try dsimp only at hSw); go_simp; try (with_reducible rfl))
        (try simp only [Act.put, List.getElem_toArray, List.getElem_cons_zero, List.getElem_cons_succ, List.setIfInBounds_toArray, List.set_cons_zero, List.set_cons_succ])
        refine wpAnyH_take (i := 3) (v := ?v614_0_3) rfl (by kernel_rfl) (by kernel_rfl) (by kernel_rfl) (fun _ _ _ h => h) (Or.inl ⟨by rfl, ?hy614_0_3⟩) (by assumption) ?_
        case hy614_0_3 => (intro w hSw; (try dsimp only at hSw); go_simp; try (with_reducible rfl))
        (try simp only [Act.put, List.getElem_toArray, List.getElem_cons_zero, List.getElem_cons_succ, List.setIfInBounds_toArray, List.set_cons_zero, List.set_cons_succ])
        refine wpAnyH_take (i := 4) (v := ?v614_0_4) rfl (by kernel_rfl) (by kernel_rfl) (by kernel_rfl) (fun _ _ _ h => h) (Or.inl ⟨by rfl, ?hy614_0_4⟩) (by assumption) ?_
        case hy614_0_4 => (intro w hSw; (try dsimp only at hSw); go_simp; try (with_reducible rfl))
        (try simp only [Act.put, List.getElem_toArray, List.getElem_cons_zero, List.getElem_cons_succ, List.setIfInBounds_toArray, List.set_cons_zero, List.set_cons_succ])
        refine wpAnyH_take (i := 5) (v := ?v614_0_5) rfl (by kernel_rfl) (by kernel_rfl) (by kernel_rfl) (fun _ _ _ h => h) (Or.inl ⟨by rfl, ?hy614_0_5⟩) (by assumption) ?_
        case hy614_0_5 => (intro w hSw; (try dsimp only at hSw); go_simp; try (with_reducible rfl))
        (try simp only [Act.put, List.getElem_toArray, List.getElem_cons_zero, List.getElem_cons_succ, List.setIfInBounds_toArray, List.set_cons_zero, List.set_cons_succ])
        refine wpAnyH_take (i := 6) (v := ?v614_0_6) rfl (by kernel_rfl) (by kernel_rfl) (by kernel_rfl) (fun _ _ _ h => h) (Or.inl ⟨by rfl, ?hy614_0_6⟩) (by assumption) ?_
        case hy614_0_6 => (intro w hSw; (try dsimp only at hSw); go_simp; try (with_reducible rfl))
        (try simp only [Act.put, List.getElem_toArray, List.getElem_cons_zero, List.getElem_cons_succ, List.setIfInBounds_toArray, List.set_cons_zero, List.set_cons_succ])
        refine wpAnyH_take (i := 7) (v := ?v614_0_7) rfl (by kernel_rfl) (by kernel_rfl) (by kernel_rfl) (fun _ _ _ h => h) (Or.inl ⟨by rfl, ?hy614_0_7⟩) (by assumption) ?_
        case hy614_0_7 => (intro w hSw; (try dsimp only at hSw); go_simp; try (with_reducible rfl))
        (try simp only [Act.put, List.getElem_toArray, List.getElem_cons_zero, List.getElem_cons_succ, List.setIfInBounds_toArray, List.set_cons_zero, List.set_cons_succ])
        refine wpAnyH_take (i := 8) (v := ?v614_0_8) rfl (by kernel_rfl) (by kernel_rfl) (by kernel_rfl) (fun _ _ _ h => h) (Or.inl ⟨by rfl, ?hy614_0_8⟩) (by assumption) ?_
        case hy614_0_8 => (intro w hSw; (try dsimp only at hSw); go_simp; try (with_reducible rfl))
        (try simp only [Act.put, List.getElem_toArray, List.getElem_cons_zero, List.getElem_cons_succ, List.setIfInBounds_toArray, List.set_cons_zero, List.set_cons_succ])
        refine wpAnyH_take (i := 9) (v := ?v614_0_9) rfl (by kernel_rfl) (by kernel_rfl) (by kernel_rfl) (fun _ _ _ h => h) (Or.inl ⟨by rfl, ?hy614_0_9⟩) (by assumption) ?_
        case hy614_0_9 => (intro w hSw; (try dsimp only at hSw); go_simp; try (with_reducible rfl))
        (try simp only [Act.put, List.getElem_toArray, List.getElem_cons_zero, List.getElem_cons_succ, List.setIfInBounds_toArray, List.set_cons_zero, List.set_cons_succ])
        refine wpAnyH_take (i := 10) (v := ?v614_0_10) rfl (by kernel_rfl) (by kernel_rfl) (by kernel_rfl) (fun _ _ _ h => h) (Or.inl ⟨by rfl, ?hy614_0_10⟩) (by assumption) ?_
        case hy614_0_10 => (intro w hSw; (try dsimp only at hSw); go_simp; try (with_reducible rfl))
        (try simp only [Act.put, List.getElem_toArray, List.getElem_cons_zero, List.getElem_cons_succ, List.setIfInBounds_toArray, List.set_cons_zero, List.set_cons_succ])
        refine wpAnyH_take (i := 11) (v := ?v614_0_11) rfl (by kernel_rfl) (by kernel_rfl) (by kernel_rfl) (fun _ _ _ h => h) (Or.inl ⟨by rfl, ?hy614_0_11⟩) (by assumption) ?_
        case hy614_0_11 => (intro w hSw; (try dsimp only at hSw); go_simp; try (with_reducible rfl))
        (try simp only [Act.put, List.getElem_toArray, List.getElem_cons_zero, List.getElem_cons_succ, List.setIfInBounds_toArray, List.set_cons_zero, List.set_cons_succ])
        refine wpAnyH_take (i := 12) (v := ?v614_0_12) rfl (by kernel_rfl) (by kernel_rfl) (by kernel_rfl) (fun _ _ _ h => h) (Or.inl ⟨by rfl, ?hy614_0_12⟩) (by assumption) ?_
        case hy614_0_12 => (intro w hSw; (try dsimp only at hSw); go_simp; try (with_reducible rfl))
        (try simp only [Act.put, List.getElem_toArray, List.getElem_cons_zero, List.getElem_cons_succ, List.setIfInBounds_toArray, List.set_cons_zero, List.set_cons_succ])
        refine wpAnyH_take (i := 13) (v := ?v614_0_13) rfl (by kernel_rfl) (by kernel_rfl) (by kernel_rfl) (fun _ _ _ h => h) (Or.inl ⟨by rfl, ?hy614_0_13⟩) (by assumption) ?_
        case hy614_0_13 => (intro w hSw; (try dsimp only at hSw); go_simp; try (with_reducible rfl))
        (try simp only [Act.put, List.getElem_toArray, List.getElem_cons_zero, List.getElem_cons_succ, List.setIfInBounds_toArray, List.set_cons_zero, List.set_cons_succ])
        refine wpAnyH_take (i := 14) (v := ?v614_0_14) rfl (by kernel_rfl) (by kernel_rfl) (by kernel_rfl) (fun _ _ _ h => h) (Or.inl ⟨by rfl, ?hy614_0_14⟩) (by assumption) ?_
        case hy614_0_14 => (intro w hSw; (try dsimp only at hSw); go_simp; try (with_reducible rfl))
        (try simp only [Act.put, List.getElem_toArray, List.getElem_cons_zero, List.getElem_cons_succ, List.setIfInBounds_toArray, List.set_cons_zero, List.set_cons_succ])
        refine wpAnyH_take (i := 15) (v := ?v614_0_15) rfl (by kernel_rfl) (by kernel_rfl) (by kernel_rfl) (fun _ _ _ h => h) (Or.inl ⟨by rfl, ?hy614_0_15⟩) (by assumption) ?_
        case hy614_0_15 => (intro w hSw; (try dsimp only at hSw); go_simp; try (with_reducible rfl))
        (try simp only [Act.put, List.getElem_toArray, List.getElem_cons_zero, List.getElem_cons_succ, List.setIfInBounds_toArray, List.set_cons_zero, List.set_cons_succ])
        refine wpAnyH_ready (rs := [16]) (by kernel_rfl) (by simp) (AllReadyH.cons rfl (fun K hK => ?_) AllReadyH.nil)
        go_simp
        (refine (HP.out).mono ?_; rintro e Y2 ⟨rfl, hg2, hc2⟩; have KP := Lib.hid (And.intro hg2 hc2); clear hg2 hc2)
        (try go_wp2_with fail)
        refine hK.out _ _ ?_ (fun hHeld => ?_)
        · exact KC.out _ KP.out.2
        clear hK K
        (try simp only [Act.put, List.getElem_toArray, List.getElem_cons_zero, List.getElem_cons_succ, List.setIfInBounds_toArray, List.set_cons_zero, List.set_cons_succ])
        refine wpAnyH_done (by kernel_rfl) ?_ _
        go_wp2
        go_roundw
        case rel =>
          have hg3 : IsG Y2 b (pushAll C (ps.take (k + 1))) := by rw [HP2.out]; exact KP.out.1
          exact ⟨k + 1, by omega, by go_num, hg3, HI.out.2.drew.trans KP.out.2⟩
        case measure => simp [intOf]; omega
      · obtain rfl : k = ps.length := by omega
        have hg : IsG wr b (pushAll C ps) := by have := HI.out.1; rw [List.take_of_length_le (Nat.le_refl _)] at this; exact this
        have B4 := B3.out.chg HI.out.2 (by simp; omega)
        have d0 : wr.cell? ⟨w.heap.size, 0, none⟩ = some (.int .u8 s) := B4.cell 0
        have d1 : wr.cell? ⟨w.heap.size, 1, none⟩ = some (.int .u8 t) := B4.cell 1
        have C4 : Hid (Chg [] w wr) := C3.out.fresh HI.out.2 (by simp; omega)
        have HMC := Lib.hid (fmost (w := wr) (v := .pointer (some ⟨b, 0, none⟩)) (.inl ⟨b, rfl, hg⟩) s t)
        have HMO : Hid (mostF (pushAll C ps) s t = M - got) := ML.out
        clear hg B4 HI hk hkl
        go_wp2_with fail
        refine HMC.out.mono ?_
        rw [HMO.out]
        rintro e w5 ⟨rfl, hC⟩
        have C5 := Lib.hid (C4.out.trans hC)
        clear hC HMC
        go_wp2_with (go_at_call 27; refine (lives7 _).mono ?_; rintro e w' ⟨rfl, hc⟩)
        go_ret
        exact ⟨rfl, C5.out.trans hc⟩
  · skip
    go_wp2_with fail
    refine (froute (.inl ⟨b, rfl, G2.out⟩) s t HW.out.2).mono ?_
    rintro e w3 ⟨u, rfl, hu, hC⟩
    have hva := HVA.out
    have hlen := HLn.out
    have hml := HML.out
    clear HVA HLn HML hcutc
    generalize route s t want.toNat C want = rt at *
    obtain ⟨ps, got, D⟩ := rt
    dsimp only at *
    have hrd := hu.rd
    obtain ⟨ua, uc, rfl⟩ := hrd.shape
    have R3 := Lib.hid hrd
    have HNB : Hid (∀ a n c, Value.slice ua ps.length uc = .slice (some a) n c → a.block ∉ [b]) := by
      intro a n c e
      have hbl := G2.out.lt
      obtain ⟨_, ⟨h0, _⟩ | ⟨g, cs, he, hg, _⟩⟩ := hu
      · rw [h0] at e; cases e
      · rw [he] at e
        injection e with e1 _ _
        injection e1 with e1
        subst e1
        simp; omega
    have HV := Lib.hid hva.valid
    have ML := Lib.hid hml
    have hbd : got ≤ max want 0 := hva.le
    have hb0 : 0 ≤ got := hva.nonneg
    have HWW := HW.out
    have hgb1 : got ≤ 9223372036854775807 := by omega
    have C3 := Lib.hid (C2.out.trans hC)
    have G3 := Lib.hid (IsG.mk (G2.out.blk.chg hC (by simp)) G2.out.good)
    have B3 := Lib.hid (B2.out.chg hC (by simp))
    clear hva hml hu hrd hC hbd HWW d0 d1 d2
    go_wp2
    go_loopw [12] (fun i wr => ∃ k : Nat, k ≤ ps.length ∧ i = .int .i64 k ∧ Hid (IsG wr b (pushAll C (ps.take k)) ∧ Chg [b] w3 wr)) (fun i _ => ps.length - (intOf i).toNat)
    case atStart => exact ⟨0, by omega, rfl, G3.out, Chg.refl _ _⟩
    case round =>
      obtain ⟨k, hk, rfl, HI⟩ := hrel
      by_cases hkl : k < ps.length
      · have hrd := R3.out.chg HI.out.2 HNB.out
        rcases hrd with ⟨h0, _⟩ | ⟨g, off, cap', he, hcap, hcells⟩
        · rw [h0] at hkl; exact absurd hkl (by simp)
        have hgne : g ≠ b := fun e => HNB.out _ _ _ he (by simp [e])
        injection he with he1 he2 he3
        subst he1 he3
        obtain ⟨c0, c1, c2⟩ := hcells k hkl
        have hgl := block_lt_of_cell c0
        have K0 : ∀ Y, Chg [b] wr.drew Y → Y.cell? ⟨g, off + k * 3, none⟩ = some (.int .u8 ps[k].f) ∧ Y.cell? ⟨g, off + k * 3 + 1, none⟩ = some (.int .u8 ps[k].t) ∧ Y.cell? ⟨g, off + k * 3 + 2, none⟩ = some (.int .i64 ps[k].n) := fun Y hY =>
          ⟨(hY.cell (p := ⟨g, off + k * 3, none⟩) hgl (by simpa using hgne)).trans c0, (hY.cell (p := ⟨g, off + k * 3 + 1, none⟩) hgl (by simpa using hgne)).trans c1, (hY.cell (p := ⟨g, off + k * 3 + 2, none⟩) hgl (by simpa using hgne)).trans c2⟩
        have hat : ps.take (k + 1) = ps.take k ++ [ps[k]] := by rw [List.take_succ_eq_append_getElem hkl]
        have hval : 1 ≤ ps[k].n ∧ ps[k].n ≤ pushAll C (ps.take k) ps[k].f ps[k].t := by
          have hv := HV.out
          have e : ps = ps.take k ++ ps[k] :: ps.drop (k + 1) := by rw [List.getElem_cons_drop, List.take_append_drop]
          rw [e] at hv
          exact valid_at hv
        have HP2 : Hid (pushAll C (ps.take (k + 1)) = push (pushAll C (ps.take k)) ps[k].f ps[k].t ps[k].n) := by
          show _ = _
          rw [hat, pushAll_append]; rfl
        generalize hxe : ps[k] = x at *
        obtain ⟨xf, xt, xn⟩ := x
        dsimp only at *
        obtain ⟨hg, hch⟩ := HI.out
        have HP : Hid (Calls Try.prog 17 #[.pointer (some ⟨b, 0, none⟩), .int .u8 xf, .int .u8 xt, .int .i64 xn] wr.drew fun e w' => e = .returned (.int .i64 0) ∧ IsG w' b (push (pushAll C (ps.take k)) xf xt xn) ∧ Chg [b] wr.drew w') :=
          gpush_ok (w := wr.drew) ⟨hg.blk.drew, hg.good⟩ hval.1 hval.2 rfl rfl
        have KC := Lib.hid K0
        obtain ⟨c0, c1, c2⟩ := K0 wr.drew (Chg.refl _ _)
        have hlen2 : (k : Int) < (ps.length : Int) := by omega
        have hk5 : (0 : Int) ≤ (k : Int) := by omega
        clear hg hch K0 hat hval hcap hcells hxe hgl hk hgne hkl
        go_wp2
        refine wp_region_held_drew (S := (fun w' : World => w'.cell? ⟨g, off + k * 3, none⟩ = some (.int .u8 xf) ∧ w'.cell? ⟨g, off + k * 3 + 1, none⟩ = some (.int .u8 xt) ∧ w'.cell? ⟨g, off + k * 3 + 2, none⟩ = some (.int .i64 xn))) (by kernel_rfl) ?_ (fun hHeld => ?_)
        · exact ⟨c0, c1, c2⟩
        refine wpAnyH_take (i := 0) (v := ?v624_0_0) rfl (by kernel_rfl) (by kernel_rfl) (by kernel_rfl) (fun _ _ _ h => h) (Or.inl ⟨by rfl, ?hy624_0_0⟩) (by assumption) ?_
        case hy624_0_0 => (intro w hSw; (try dsimp only at hSw); go_simp; try (with_reducible rfl))
        (try simp only [Act.put, List.getElem_toArray, List.getElem_cons_zero, List.setIfInBounds_toArray, List.set_cons_zero, List.set_cons_succ])
        refine wpAnyH_take (i := 1) (v := ?v624_0_1) rfl (by kernel_rfl) (by kernel_rfl) (by kernel_rfl) (fun _ _ _ h => h) (Or.inl ⟨by rfl, ?hy624_0_1⟩) (by assumption) ?_
        case hy624_0_1 => (intro w hSw; (try dsimp only at hSw); go_simp; try (with_reducible rfl))
        (try simp only [Act.put, List.getElem_toArray, List.getElem_cons_zero, List.getElem_cons_succ, List.setIfInBounds_toArray, List.set_cons_zero, List.set_cons_succ])
        refine wpAnyH_take (i := 2) (v := ?v624_0_2) rfl (by kernel_rfl) (by kernel_rfl) (by kernel_rfl) (fun _ _ _ h => h) (Or.inl ⟨by rfl, ?hy624_0_2⟩) (by assumption) ?_
        case hy624_0_2 => (intro w hSw; (try dsimp only at hSw); go_simp; try (with_reducible rfl))
        (try simp only [Act.put, List.getElem_toArray, List.getElem_cons_zero, List.getElem_cons_succ, List.setIfInBounds_toArray, List.set_cons_zero, List.set_cons_succ])
        refine wpAnyH_take (i := 3) (v := ?v624_0_3) rfl (by kernel_rfl) (by kernel_rfl) (by kernel_rfl) (fun _ _ _ h => h) (Or.inl ⟨by rfl, ?hy624_0_3⟩) (by assumption) ?_
        case hy624_0_3 => (intro w hSw; (try dsimp only at hSw); go_simp; try (with_reducible rfl))
        (try simp only [Act.put, List.getElem_toArray, List.getElem_cons_zero, List.getElem_cons_succ, List.setIfInBounds_toArray, List.set_cons_zero, List.set_cons_succ])
        refine wpAnyH_take (i := 4) (v := ?v624_0_4) rfl (by kernel_rfl) (by kernel_rfl) (by kernel_rfl) (fun _ _ _ h => h) (Or.inl ⟨by rfl, ?hy624_0_4⟩) (by assumption) ?_
        case hy624_0_4 => (intro w hSw; (try dsimp only at hSw); go_simp; try (with_reducible rfl))
        (try simp only [Act.put, List.getElem_toArray, List.getElem_cons_zero, List.getElem_cons_succ, List.setIfInBounds_toArray, List.set_cons_zero, List.set_cons_succ])
        refine wpAnyH_take (i := 5) (v := ?v624_0_5) rfl (by kernel_rfl) (by kernel_rfl) (by kernel_rfl) (fun _ _ _ h => h) (Or.inl ⟨by rfl, ?hy624_0_5⟩) (by assumption) ?_
        case hy624_0_5 => (intro w hSw; (try dsimp only at hSw); go_simp; try (with_reducible rfl))
        (try simp only [Act.put, List.getElem_toArray, List.getElem_cons_zero, List.getElem_cons_succ, List.setIfInBounds_toArray, List.set_cons_zero, List.set_cons_succ])
        refine wpAnyH_take (i := 6) (v := ?v624_0_6) rfl (by kernel_rfl) (by kernel_rfl) (by kernel_rfl) (fun _ _ _ h => h) (Or.inl ⟨by rfl, ?hy624_0_6⟩) (by assumption) ?_
        case hy624_0_6 => (intro w hSw; (try dsimp only at hSw); go_simp; try (with_reducible rfl))
        (try simp only [Act.put, List.getElem_toArray, List.getElem_cons_zero, List.getElem_cons_succ, List.setIfInBounds_toArray, List.set_cons_zero, List.set_cons_succ])
        refine wpAnyH_take (i := 7) (v := ?v624_0_7) rfl (by kernel_rfl) (by kernel_rfl) (by kernel_rfl) (fun _ _ _ h => h) (Or.inl ⟨by rfl, ?hy624_0_7⟩) (by assumption) ?_
        case hy624_0_7 => (intro w hSw; (try dsimp only at hSw); go_simp; try (with_reducible rfl))
        (try simp only [Act.put, List.getElem_toArray, List.getElem_cons_zero, List.getElem_cons_succ, List.setIfInBounds_toArray, List.set_cons_zero, List.set_cons_succ])
        refine wpAnyH_take (i := 8) (v := ?v624_0_8) rfl (by kernel_rfl) (by kernel_rfl) (by kernel_rfl) (fun _ _ _ h => h) (Or.inl ⟨by rfl, ?hy624_0_8⟩) (by assumption) ?_
        case hy624_0_8 => (intro w hSw; (try dsimp only at hSw); go_simp; try (with_reducible rfl))
        (try simp only [Act.put, List.getElem_toArray, List.getElem_cons_zero, List.getElem_cons_succ, List.setIfInBounds_toArray, List.set_cons_zero, List.set_cons_succ])
        refine wpAnyH_take (i := 9) (v := ?v624_0_9) rfl (by kernel_rfl) (by kernel_rfl) (by kernel_rfl) (fun _ _ _ h => h) (Or.inl ⟨by rfl, ?hy624_0_9⟩) (by assumption) ?_
        case hy624_0_9 => (intro w hSw; (try dsimp only at hSw); go_simp; try (with_reducible rfl))
        (try simp only [Act.put, List.getElem_toArray, List.getElem_cons_zero, List.getElem_cons_succ, List.setIfInBounds_toArray, List.set_cons_zero, List.set_cons_succ])
        refine wpAnyH_take (i := 10) (v := ?v624_0_10) rfl (by kernel_rfl) (by kernel_rfl) (by kernel_rfl) (fun _ _ _ h => h) (Or.inl ⟨by rfl, ?hy624_0_10⟩) (by assumption) ?_
        case hy624_0_10 => (intro w hSw; (try dsimp only at hSw); go_simp; try (with_reducible rfl))
        (try simp only [Act.put, List.getElem_toArray, List.getElem_cons_zero, List.getElem_cons_succ, List.setIfInBounds_toArray, List.set_cons_zero, List.set_cons_succ])
        refine wpAnyH_take (i := 11) (v := ?v624_0_11) rfl (by kernel_rfl) (by kernel_rfl) (by kernel_rfl) (fun _ _ _ h => h) (Or.inl ⟨by rfl, ?hy624_0_11⟩) (by assumption) ?_
        case hy624_0_11 => (intro w hSw; (try dsimp only at hSw); go_simp; try (with_reducible rfl))
        (try simp only [Act.put, List.getElem_toArray, List.getElem_cons_zero, List.getElem_cons_succ, List.setIfInBounds_toArray, List.set_cons_zero, List.set_cons_succ])
        refine wpAnyH_take (i := 12) (v := ?v624_0_12) rfl (by kernel_rfl) (by kernel_rfl) (by kernel_rfl) (fun _ _ _ h => h) (Or.inl ⟨by rfl, ?hy624_0_12⟩) (by assumption) ?_
        case hy624_0_12 => (intro w hSw; (try dsimp only at hSw); go_simp; try (with_reducible rfl))
        (try simp only [Act.put, List.getElem_toArray, List.getElem_cons_zero, List.getElem_cons_succ, List.setIfInBounds_toArray, List.set_cons_zero, List.set_cons_succ])
        refine wpAnyH_take (i := 13) (v := ?v624_0_13) rfl (by kernel_rfl) (by kernel_rfl) (by kernel_rfl) (fun _ _ _ h => h) (Or.inl ⟨by rfl, ?hy624_0_13⟩) (by assumption) ?_
        case hy624_0_13 => (intro w hSw; (try dsimp only at hSw); go_simp; try (with_reducible rfl))
        (try simp only [Act.put, List.getElem_toArray, List.getElem_cons_zero, List.getElem_cons_succ, List.setIfInBounds_toArray, List.set_cons_zero, List.set_cons_succ])
        refine wpAnyH_take (i := 14) (v := ?v624_0_14) rfl (by kernel_rfl) (by kernel_rfl) (by kernel_rfl) (fun _ _ _ h => h) (Or.inl ⟨by rfl, ?hy624_0_14⟩) (by assumption) ?_
        case hy624_0_14 => (intro w hSw; (try dsimp only at hSw); go_simp; try (with_reducible rfl))
        (try simp only [Act.put, List.getElem_toArray, List.getElem_cons_zero, List.getElem_cons_succ, List.setIfInBounds_toArray, List.set_cons_zero, List.set_cons_succ])
        refine wpAnyH_take (i := 15) (v := ?v624_0_15) rfl (by kernel_rfl) (by kernel_rfl) (by kernel_rfl) (fun _ _ _ h => h) (Or.inl ⟨by rfl, ?hy624_0_15⟩) (by assumption) ?_
        case hy624_0_15 => (intro w hSw; (try dsimp only at hSw); go_simp; try (with_reducible rfl))
        (try simp only [Act.put, List.getElem_toArray, List.getElem_cons_zero, List.getElem_cons_succ, List.setIfInBounds_toArray, List.set_cons_zero, List.set_cons_succ])
        refine wpAnyH_ready (rs := [16]) (by kernel_rfl) (by simp) (AllReadyH.cons rfl (fun K hK => ?_) AllReadyH.nil)
        go_simp
        (refine (HP.out).mono ?_; rintro e Y2 ⟨rfl, hg2, hc2⟩; have KP := Lib.hid (And.intro hg2 hc2); clear hg2 hc2)
        (try go_wp2_with fail)
        refine hK.out _ _ ?_ (fun hHeld => ?_)
        · exact KC.out _ KP.out.2
        clear hK K
        (try simp only [Act.put, List.getElem_toArray, List.getElem_cons_zero, List.getElem_cons_succ, List.setIfInBounds_toArray, List.set_cons_zero, List.set_cons_succ])
        refine wpAnyH_done (by kernel_rfl) ?_ _
        go_wp2
        go_roundw
        case rel =>
          have hg3 : IsG Y2 b (pushAll C (ps.take (k + 1))) := by rw [HP2.out]; exact KP.out.1
          exact ⟨k + 1, by omega, by go_num, hg3, HI.out.2.drew.trans KP.out.2⟩
        case measure => simp [intOf]; omega
      · obtain rfl : k = ps.length := by omega
        have hg : IsG wr b (pushAll C ps) := by have := HI.out.1; rw [List.take_of_length_le (Nat.le_refl _)] at this; exact this
        have B4 := B3.out.chg HI.out.2 (by simp; omega)
        have d0 : wr.cell? ⟨w.heap.size, 0, none⟩ = some (.int .u8 s) := B4.cell 0
        have d1 : wr.cell? ⟨w.heap.size, 1, none⟩ = some (.int .u8 t) := B4.cell 1
        have C4 : Hid (Chg [] w wr) := C3.out.fresh HI.out.2 (by simp; omega)
        have HMC := Lib.hid (fmost (w := wr) (v := .pointer (some ⟨b, 0, none⟩)) (.inl ⟨b, rfl, hg⟩) s t)
        have HMO : Hid (mostF (pushAll C ps) s t = M - got) := ML.out
        clear hg B4 HI hk hkl
        go_wp2_with fail
        refine HMC.out.mono ?_
        rw [HMO.out]
        rintro e w5 ⟨rfl, hC⟩
        have C5 := Lib.hid (C4.out.trans hC)
        clear hC HMC
        go_wp2_with (go_at_call 27; refine (lives7 _).mono ?_; rintro e w' ⟨rfl, hc⟩)
        go_ret
        exact ⟨rfl, C5.out.trans hc⟩

/-- Whatever edges there are, whatever is asked, whoever is taken. -/
theorem flowsCut_walk {w : World} {va : Value} {l : List Fl} (hl : RdFl w va l) {s t : Nat} (_ : s < 256) (_ : t < 256) {want : Int} (hw : -9223372036854775808 ≤ want ∧ want ≤ 9223372036854775807) {m : Nat} (hm : m < 4294967296) :
    Calls Try.prog 6 #[va, .agg #[.int .u8 s, .int .u8 t, .int .i64 want], .int .u32 m] w fun e w' => e = .returned (.bool true) ∧ Chg [] w w' := by
  by_cases h300 : 300 < l.length
  · exact flowsCut_easy hl want m (.inl h300)
  · by_cases hoff : s = t ∨ s < 1 ∨ 16 < s ∨ t < 1 ∨ 16 < t
    · exact flowsCut_easy hl want m (.inr ⟨by omega, hoff⟩)
    · have hs : s ∈ P16 := mem_P16.2 (by omega)
      have ht : t ∈ P16 := mem_P16.2 (by omega)
      cases hnew : newG l with
      | none => exact flowsCut_bad hl want m (by omega) hnew hs ht (by omega)
      | some C => exact flowsCut_on hl hw hm (by omega) hnew hs ht (by omega)
end Go.Proofs.Ytfpdkeokdojejaa
