/-
  The law FlowsMost, walked.
-/
import Derived.Test.YtfpdkeokdojejaaLives7
import Derived.Test.YtfpdkeokdojejaaReached
import Derived.Test.YtfpdkeokdojejaaPlMost
namespace Go.Proofs.Ytfpdkeokdojejaa
open Go.RowKit Pl

theorem rowA_set (T : Nat → Int) {p : Nat} (hp : p < 17) (n : Int) : (rowA (fun _ q => T q) 0).toArray.setIfInBounds p (.int .i64 n) = (rowA (fun _ q => if q = p then n else T q) 0).toArray := by
  apply Array.ext_getElem?
  intro j
  by_cases hj : j < 17
  · rw [Array.getElem?_setIfInBounds, rowA_get _ _ hj, rowA_get _ _ hj, rowA_size]
    by_cases e : j = p
    · subst e; simp [hp]
    · simp [e, Ne.symm e]
  · rw [Array.getElem?_eq_none (by rw [Array.size_setIfInBounds, rowA_size]; omega), Array.getElem?_eq_none (by rw [rowA_size]; omega)]

/-- Where a route is asked of what may not be, there is none. -/
theorem route_off {C : Caps} {s t : Nat} {want : Int} (h : want < 1 ∨ s = t ∨ s < 1 ∨ 16 < s ∨ t < 1 ∨ 16 < t) : route s t want.toNat C want = ([], 0, C) := by
  rcases h with h | h
  · exact route_done _ _ _ _ (by omega)
  · exact route_none _ _ _ _ (short_off (by rw [mem_P16, mem_P16]; omega))

set_option maxRecDepth 100000 in
set_option maxHeartbeats 4000000 in
theorem flowsMost_long {w : World} {va : Value} {l : List Fl} (hl : RdFl w va l) (s t : Nat) (want : Int) (h300 : 300 < l.length) :
    Calls Try.prog 5 #[va, .agg #[.int .u8 s, .int .u8 t, .int .i64 want]] w fun e w' => e = .returned (.bool true) ∧ Chg [] w w' := by
  obtain ⟨ao, cap, rfl⟩ := hl.shape
  have hL : (300 : Int) < (l.length : Int) := by omega
  clear hl h300
  go_enter Try.func5, Try.ntmps5
  go_wp2_with (go_at_call 27; refine (lives7 _).mono ?_; rintro e w' ⟨rfl, hc⟩)
  go_ret
  exact ⟨rfl, ((Chg.refl [] w).alloc _).trans hc⟩

set_option maxRecDepth 100000 in
set_option maxHeartbeats 4000000 in
theorem flowsMost_bad {w : World} {va : Value} {l : List Fl} (hl : RdFl w va l) (s t : Nat) (want : Int) (hw : want ≤ 9223372036854775807) (h300 : l.length ≤ 300) (hnew : newG l = none) :
    Calls Try.prog 5 #[va, .agg #[.int .u8 s, .int .u8 t, .int .i64 want]] w fun e w' => e = .returned (.bool true) ∧ Chg [] w w' := by
  have hl1 := hl.chg0 ((Chg.refl [] w).alloc (.cells #[.int .u8 s, .int .u8 t, .int .i64 want] 58))
  obtain ⟨ao, cap, rfl⟩ := hl.shape
  have HL := Lib.hid hl1
  have hL : (l.length : Int) ≤ 300 := by omega
  have hr : route s t want.toNat (fun _ _ => 0) want = ([], 0, fun _ _ => 0) := route_none _ _ _ _ (short_zero s t)
  have HR := Lib.hid hr
  clear hl hl1 hr
  go_enter Try.func5, Try.ntmps5
  go_wp2_with fail
  refine (gnew HL.out (by omega)).mono ?_
  intro e w1 hp
  obtain ⟨rfl, hC⟩ := NewPost.no hnew hp
  have hb1 := (Blk.new w 58 #[.int .u8 s, .int .u8 t, .int .i64 want]).chg hC (by simp)
  have C1 := Lib.hid (((Chg.refl [] w).alloc (.cells #[.int .u8 s, .int .u8 t, .int .i64 want] 58)).trans hC)
  have c0 : w1.cell? ⟨w.heap.size, 0, none⟩ = some (.int .u8 s) := hb1.cell 0
  have c1 : w1.cell? ⟨w.heap.size, 1, none⟩ = some (.int .u8 t) := hb1.cell 1
  have c2 : w1.cell? ⟨w.heap.size, 2, none⟩ = some (.int .i64 want) := hb1.cell 2
  clear hp hC hb1
  go_wp2_with fail
  refine (froute (.inr ⟨.inl rfl, rfl⟩) s t hw).mono ?_
  rintro e w2 ⟨u, rfl, hu, hC⟩
  rw [HR.out] at hu
  rw [HR.out]
  obtain ⟨ua, uc, rfl⟩ := hu.rd.shape
  have C2 := Lib.hid (C1.out.trans hC)
  clear hu hC
  go_wp2_with (go_at_call 27; refine (lives7 _).mono ?_; rintro e w' ⟨rfl, hc⟩)
  go_ret
  exact ⟨rfl, C2.out.trans hc⟩

theorem off_cases {s t : Nat} {want : Int} (h : want < 1 ∨ s = t ∨ s < 1 ∨ 16 < s ∨ t < 1 ∨ 16 < t) :
    want < 1 ∨ (1 ≤ want ∧ ((s : Int) == t) = true) ∨ (1 ≤ want ∧ ((s : Int) == t) = false ∧ (s : Int) < 1) ∨ (1 ≤ want ∧ ((s : Int) == t) = false ∧ 1 ≤ (s : Int) ∧ 16 < (s : Int)) ∨
    (1 ≤ want ∧ ((s : Int) == t) = false ∧ 1 ≤ (s : Int) ∧ (s : Int) ≤ 16 ∧ (t : Int) < 1) ∨ (1 ≤ want ∧ ((s : Int) == t) = false ∧ 1 ≤ (s : Int) ∧ (s : Int) ≤ 16 ∧ 1 ≤ (t : Int) ∧ 16 < (t : Int)) := by
  simp only [beq_iff_eq, beq_eq_false_iff_ne]
  omega

set_option maxRecDepth 100000 in
set_option maxHeartbeats 4000000 in
theorem flowsMost_off {w : World} {va : Value} {l : List Fl} (hl : RdFl w va l) {s t : Nat} {want : Int} (hw : want ≤ 9223372036854775807) (h300 : l.length ≤ 300) {C : Caps} (hnew : newG l = some C)
    (hoff : want < 1 ∨ s = t ∨ s < 1 ∨ 16 < s ∨ t < 1 ∨ 16 < t) :
    Calls Try.prog 5 #[va, .agg #[.int .u8 s, .int .u8 t, .int .i64 want]] w fun e w' => e = .returned (.bool true) ∧ Chg [] w w' := by
  have hl1 := hl.chg0 ((Chg.refl [] w).alloc (.cells #[.int .u8 s, .int .u8 t, .int .i64 want] 58))
  obtain ⟨ao, cap, rfl⟩ := hl.shape
  have HL := Lib.hid hl1
  have hL : (l.length : Int) ≤ 300 := by omega
  have HR := Lib.hid (route_off (C := C) hoff)
  have HC := Lib.hid (off_cases hoff)
  clear hl hl1 hoff
  go_enter Try.func5, Try.ntmps5
  go_wp2_with fail
  refine (gnew HL.out (by omega)).mono ?_
  intro e w1 hp
  obtain ⟨b, hb, rfl, hG, hC⟩ := NewPost.yes hnew hp
  have hb1 := (Blk.new w 58 #[.int .u8 s, .int .u8 t, .int .i64 want]).chg hC (by simp)
  have C1 := Lib.hid (((Chg.refl [] w).alloc (.cells #[.int .u8 s, .int .u8 t, .int .i64 want] 58)).trans hC)
  have G1 := Lib.hid hG
  have B1 := Lib.hid hb1
  have c0 : w1.cell? ⟨w.heap.size, 0, none⟩ = some (.int .u8 s) := hb1.cell 0
  have c1 : w1.cell? ⟨w.heap.size, 1, none⟩ = some (.int .u8 t) := hb1.cell 1
  have c2 : w1.cell? ⟨w.heap.size, 2, none⟩ = some (.int .i64 want) := hb1.cell 2
  clear hp hC hb1 hG hb
  go_wp2_with fail
  refine (froute (.inl ⟨b, rfl, G1.out⟩) s t hw).mono ?_
  rintro e w2 ⟨u, rfl, hu, hC⟩
  rw [HR.out] at hu
  rw [HR.out]
  obtain ⟨ua, uc, rfl⟩ := hu.rd.shape
  have C2 := Lib.hid (C1.out.trans hC)
  have hb2 := B1.out.chg hC (by simp)
  have d0 : w2.cell? ⟨w.heap.size, 0, none⟩ = some (.int .u8 s) := hb2.cell 0
  have d1 : w2.cell? ⟨w.heap.size, 1, none⟩ = some (.int .u8 t) := hb2.cell 1
  have d2 : w2.cell? ⟨w.heap.size, 2, none⟩ = some (.int .i64 want) := hb2.cell 2
  clear hu hC c0 c1 c2 hb2
  rcases HC.out with a1 | ⟨a1, a2⟩ | ⟨a1, a2, a3⟩ | ⟨a1, a2, a3, a4⟩ | ⟨a1, a2, a3, a4, a5⟩ | ⟨a1, a2, a3, a4, a5, a6⟩
  all_goals
    go_wp2_with (go_at_call 27; refine (lives7 _).mono ?_; rintro e w' ⟨rfl, hc⟩)
    go_ret
    exact ⟨rfl, C2.out.trans hc⟩

set_option maxRecDepth 100000 in
set_option maxHeartbeats 4000000 in
theorem flowsMost_on {w : World} {va : Value} {l : List Fl} (hl : RdFl w va l) {s t : Nat} {want : Int} (hw : want ≤ 9223372036854775807) (h300 : l.length ≤ 300) {C : Caps} (hnew : newG l = some C)
    (h1 : 1 ≤ want) (hs : s ∈ P16) (ht : t ∈ P16) (hne : s ≠ t) :
    Calls Try.prog 5 #[va, .agg #[.int .u8 s, .int .u8 t, .int .i64 want]] w fun e w' => e = .returned (.bool true) ∧ Chg [] w w' := by
  have hl1 := hl.chg0 ((Chg.refl [] w).alloc (.cells #[.int .u8 s, .int .u8 t, .int .i64 want] 58))
  obtain ⟨ao, cap, rfl⟩ := hl.shape
  have HL := Lib.hid hl1
  have hL : (l.length : Int) ≤ 300 := by omega
  have HC := Lib.hid (And.intro hs (And.intro ht hne))
  have hs16 := mem_P16.1 hs
  have ht16 := mem_P16.1 ht
  have a2 : ((s : Int) == t) = false := by rw [beq_eq_false_iff_ne]; omega
  have a3 : 1 ≤ (s : Int) ∧ (s : Int) ≤ 16 := by omega
  have a4 : 1 ≤ (t : Int) ∧ (t : Int) ≤ 16 := by omega
  obtain ⟨a31, a32⟩ := a3
  obtain ⟨a41, a42⟩ := a4
  clear hl hl1 hne hs ht hs16 ht16
  go_enter Try.func5, Try.ntmps5
  go_wp2_with fail
  refine (gnew HL.out (by omega)).mono ?_
  intro e w1 hp
  obtain ⟨b, hb, rfl, hG, hC⟩ := NewPost.yes hnew hp
  have hb1 := (Blk.new w 58 #[.int .u8 s, .int .u8 t, .int .i64 want]).chg hC (by simp)
  have C1 := Lib.hid (((Chg.refl [] w).alloc (.cells #[.int .u8 s, .int .u8 t, .int .i64 want] 58)).trans hC)
  have G1 := Lib.hid hG
  have B1 := Lib.hid hb1
  have HM := Lib.hid (mostF_of hG.good HC.out.1 HC.out.2.1 HC.out.2.2 h1)
  have HLn := Lib.hid (route_len hG.good s t (w := want))
  have c0 : w1.cell? ⟨w.heap.size, 0, none⟩ = some (.int .u8 s) := hb1.cell 0
  have c1 : w1.cell? ⟨w.heap.size, 1, none⟩ = some (.int .u8 t) := hb1.cell 1
  have c2 : w1.cell? ⟨w.heap.size, 2, none⟩ = some (.int .i64 want) := hb1.cell 2
  clear hp hC hb1 hG hb
  go_wp2_with fail
  refine (froute (.inl ⟨b, rfl, G1.out⟩) s t hw).mono ?_
  rintro e w2 ⟨u, rfl, hu, hC⟩
  have HM2 := HM.out
  obtain ⟨m1, m2, m3, m4, m5, m6, m7⟩ := HM2
  have hlen := HLn.out
  clear HM HLn
  generalize (route s t want.toNat C want).1 = ps at *
  generalize (route s t want.toNat C want).2.1 = got at *
  have hrd := hu.rd
  obtain ⟨ua, uc, rfl⟩ := hrd.shape
  have HF := Lib.hid (And.intro m1 (And.intro m4 (And.intro m5 (And.intro m6 m7))))
  have C2 := Lib.hid (C1.out.trans hC)
  have G2 := Lib.hid (IsG.mk (G1.out.blk.chg hC (by simp)) G1.out.good)
  have B2 := Lib.hid (B1.out.chg hC (by simp))
  have d0 : w2.cell? ⟨w.heap.size, 0, none⟩ = some (.int .u8 s) := B2.out.cell 0
  have d1 : w2.cell? ⟨w.heap.size, 1, none⟩ = some (.int .u8 t) := B2.out.cell 1
  have d2 : w2.cell? ⟨w.heap.size, 2, none⟩ = some (.int .i64 want) := B2.out.cell 2
  have RD := Lib.hid hrd
  clear hu hC c0 c1 c2 m1 m4 m5 m6 m7 hrd G1 B1 C1
  go_wp2_with fail
  refine (gcopy G2.out).mono ?_
  rintro e w3 ⟨rfl, hG, hC⟩
  have G3 := Lib.hid hG
  have C3 := Lib.hid hC
  have X2 : w2.heap.size < w3.heap.size := hG.lt
  clear hG hC
  go_wp2_with (refine wpList_alloc_zero rfl 48 rfl _ zero_row ?_)
  obtain ⟨w4, hw4⟩ : ∃ w4 : World, w4 = w3.alloc (.cells (rowA (fun _ _ => 0) 0).toArray 48) := ⟨_, rfl⟩
  obtain ⟨gb, hgb⟩ : ∃ gb : Nat, gb = w3.heap.size := ⟨_, rfl⟩
  obtain ⟨cb, hcb⟩ : ∃ cb : Nat, cb = w2.heap.size := ⟨_, rfl⟩
  have HX : Hid (IsG w4 cb C ∧ Blk w4 gb 48 (rowA (fun _ p => hasOf (ps.take 0) p) 0).toArray ∧ Chg [] w2 w4 ∧ cb < gb ∧ cb = w2.heap.size) := by
    refine ⟨?_, ?_, ?_, by omega, hcb⟩
    · rw [hw4, hcb]; exact ⟨G3.out.blk.alloc _, G3.out.good⟩
    · rw [hw4, hgb]; exact Blk.new _ _ _
    · rw [hw4]; exact C3.out.alloc _
  rw [← hw4, ← hgb, ← hcb]
  have B4 := Lib.hid (B2.out.chg HX.out.2.2.1 (by simp))
  clear hw4 hgb hcb G3 C3 X2 d0 d1 d2
  go_loopw [11] (fun i wr => ∃ k : Nat, k ≤ ps.length ∧ i = .int .i64 k ∧ Hid (IsG wr cb (pushAll C (ps.take k)) ∧ Blk wr gb 48 (rowA (fun _ p => hasOf (ps.take k) p) 0).toArray ∧ Chg [] w2 wr)) (fun i _ => ps.length - (intOf i).toNat)
  case atStart => exact ⟨0, by omega, rfl, HX.out.1, HX.out.2.1, HX.out.2.2.1⟩
  case round =>
    obtain ⟨k, hk, rfl, HI⟩ := hrel
    by_cases hkl : k < ps.length
    · rcases RD.out with ⟨h0, _⟩ | ⟨g, off, cap', he, hcap, hcells⟩
      · rw [h0] at hkl; exact absurd hkl (by simp)
      injection he with he1 he2 he3
      subst he1 he3
      obtain ⟨c0, c1, c2⟩ := hcells k hkl
      have hgl := block_lt_of_cell c0
      have K0 : ∀ Y, Chg [] w2 Y → Y.cell? ⟨g, off + k * 3, none⟩ = some (.int .u8 ps[k].f) ∧ Y.cell? ⟨g, off + k * 3 + 1, none⟩ = some (.int .u8 ps[k].t) ∧ Y.cell? ⟨g, off + k * 3 + 2, none⟩ = some (.int .i64 ps[k].n) := fun Y hY =>
        ⟨(hY.cell (p := ⟨g, off + k * 3, none⟩) hgl (by simp)).trans c0, (hY.cell (p := ⟨g, off + k * 3 + 1, none⟩) hgl (by simp)).trans c1, (hY.cell (p := ⟨g, off + k * 3 + 2, none⟩) hgl (by simp)).trans c2⟩
      have hat : ps.take (k + 1) = ps.take k ++ [ps[k]] := by rw [List.take_succ_eq_append_getElem hkl]
      have hval : 1 ≤ ps[k].n ∧ ps[k].n ≤ pushAll C (ps.take k) ps[k].f ps[k].t := by
        have hv := HF.out.1
        have e : ps = ps.take k ++ ps[k] :: ps.drop (k + 1) := by rw [List.getElem_cons_drop, List.take_append_drop]
        rw [e] at hv
        exact valid_at hv
      have hok := HF.out.1.oks ps[k] (List.getElem_mem _)
      have hb1 := hasOf_le (C := C) (B := 4398046511104) (by decide) (ps.take k)
      have hbn := fun p => hb1 p (fun x hx => valid_n G2.out.good HF.out.1 x (List.mem_of_mem_take hx))
      have hxn := (valid_n G2.out.good HF.out.1 ps[k] (List.getElem_mem _)).2
      have HS : Hid (∀ p, hasOf (ps.take (k + 1)) p = hasOf (ps.take k) p + ps[k].n * ((if ps[k].t = p then 1 else 0) - (if ps[k].f = p then 1 else 0))) := fun p => by rw [hat, hasOf_snoc]
      have HP2 : Hid (pushAll C (ps.take (k + 1)) = push (pushAll C (ps.take k)) ps[k].f ps[k].t ps[k].n) := by
        show _ = _
        rw [hat, pushAll_append]; rfl
      have htl : (ps.take k).length = k := by rw [List.length_take]; omega
      rw [htl] at hbn
      generalize hxe : ps[k] = x at *
      obtain ⟨xf, xt, xn⟩ := x
      dsimp only at *
      obtain ⟨ok1, ok2, ok3⟩ := hok
      have HOK := Lib.hid (And.intro ok1 (And.intro ok2 ok3))
      rw [mem_P16] at ok1 ok2
      dsimp only at ok1 ok2
      have hb2 := hbn xf
      have hb3 := hbn xt
      obtain ⟨T, hT⟩ : ∃ T : Nat → Int, T = fun p => hasOf (ps.take k) p := ⟨_, rfl⟩
      obtain ⟨hg, hr, hch⟩ := HI.out
      have HP : Hid (Calls Try.prog 17 #[.pointer (some ⟨cb, 0, none⟩), .int .u8 xf, .int .u8 xt, .int .i64 xn] wr.drew fun e w' => e = .returned (.int .i64 0) ∧ IsG w' cb (push (pushAll C (ps.take k)) xf xt xn) ∧ Chg [cb] wr.drew w') :=
        gpush_ok (w := wr.drew) ⟨hg.blk.drew, hg.good⟩ hval.1 hval.2 rfl rfl
      have hcb : w2.heap.size ≤ cb := by have := HX.out.2.2.2.2; omega
      have hcg : cb < gb := HX.out.2.2.2.1
      have KY : Hid (∀ Y2, Chg [cb] wr.drew Y2 → Chg [] w2 Y2) := fun Y2 hc => hch.drew.fresh hc (by simp; omega)
      have KZ := Lib.hid K0
      have KC : Hid (∀ Y2, Chg [cb] wr.drew Y2 → Y2.cell? ⟨g, off + k * 3, none⟩ = some (.int .u8 xf) ∧ Y2.cell? ⟨g, off + k * 3 + 1, none⟩ = some (.int .u8 xt) ∧ Y2.cell? ⟨g, off + k * 3 + 2, none⟩ = some (.int .i64 xn)) := fun Y2 hc => K0 Y2 (KY.out Y2 hc)
      obtain ⟨c0, c1, c2⟩ := K0 wr.drew hch.drew
      have HT := Lib.hid hT
      have HRW : Hid (Blk wr gb 48 (rowA (fun _ p => T p) 0).toArray) := by rw [hT]; exact hr
      have hb2' : -(k * 4398046511104) ≤ T xf ∧ T xf ≤ k * 4398046511104 := by rw [hT]; exact hb2
      have hb3' : -(k * 4398046511104) ≤ T xt ∧ T xt ≤ k * 4398046511104 := by rw [hT]; exact hb3
      have hlen2 : (k : Int) < (ps.length : Int) := by omega
      have hk5 : (0 : Int) ≤ (k : Int) := by omega
      have hx1 : (0 : Int) ≤ (xf : Int) := by omega
      have hx2 : (xf : Int) < 17 := by omega
      have hx3 : (xf : Int) ≤ 16 := by omega
      have hy1 : (0 : Int) ≤ (xt : Int) := by omega
      have hy2 : (xt : Int) < 17 := by omega
      have hy3 : (xt : Int) ≤ 16 := by omega
      have hd1 : decide ((16 : Int) < (xf : Int)) = false := decide_eq_false (by omega)
      have hd2 : decide ((16 : Int) < (xt : Int)) = false := decide_eq_false (by omega)
      have HV := Lib.hid (And.intro hval (And.intro hxn (And.intro hb2' (And.intro hb3' hlen))))
      have HI2 := Lib.hid (And.intro hg (And.intro hch ok3))
      clear hg hr hch K0 hat hval hbn hb2 hb3 hb1 hT htl hcap hcells hb2' hb3' ok1 ok2 ok3 hxe hxn HI hk hgl
      go_wp2
      refine wp_region_held_drew (S := (fun w' : World => w'.cell? ⟨g, off + k * 3, none⟩ = some (.int .u8 xf) ∧ w'.cell? ⟨g, off + k * 3 + 1, none⟩ = some (.int .u8 xt) ∧ w'.cell? ⟨g, off + k * 3 + 2, none⟩ = some (.int .i64 xn))) (by kernel_rfl) ?_ (fun hHeld => ?_)
      · exact ⟨c0, c1, c2⟩
      refine wpAnyH_take (i := 0) (v := ?v512_0_0) rfl (by kernel_rfl) (by kernel_rfl) (by kernel_rfl) (fun _ _ _ h => h) (Or.inl ⟨by rfl, ?hy512_0_0⟩) (by assumption) ?_
      case hy512_0_0 => (intro w hSw; (try dsimp only at hSw); go_simp; try (with_reducible rfl))
      (try simp only [Act.put, List.getElem_toArray, List.getElem_cons_zero, List.setIfInBounds_toArray, List.set_cons_zero, List.set_cons_succ])
      refine wpAnyH_take (i := 1) (v := ?v512_0_1) rfl (by kernel_rfl) (by kernel_rfl) (by kernel_rfl) (fun _ _ _ h => h) (Or.inl ⟨by rfl, ?hy512_0_1⟩) (by assumption) ?_
      case hy512_0_1 => (intro w hSw; (try dsimp only at hSw); go_simp; try (with_reducible rfl))
      (try simp only [Act.put, List.getElem_toArray, List.getElem_cons_zero, List.getElem_cons_succ, List.setIfInBounds_toArray, List.set_cons_zero, List.set_cons_succ])
      refine wpAnyH_take (i := 2) (v := ?v512_0_2) rfl (by kernel_rfl) (by kernel_rfl) (by kernel_rfl) (fun _ _ _ h => h) (Or.inl ⟨by rfl, ?hy512_0_2⟩) (by assumption) ?_
      case hy512_0_2 => (intro w hSw; (try dsimp only at hSw); go_simp; try (with_reducible rfl))
      (try simp only [Act.put, List.getElem_toArray, List.getElem_cons_zero, List.getElem_cons_succ, List.setIfInBounds_toArray, List.set_cons_zero, List.set_cons_succ])
      refine wpAnyH_take (i := 3) (v := ?v512_0_3) rfl (by kernel_rfl) (by kernel_rfl) (by kernel_rfl) (fun _ _ _ h => h) (Or.inl ⟨by rfl, ?hy512_0_3⟩) (by assumption) ?_
      case hy512_0_3 => (intro w hSw; (try dsimp only at hSw); go_simp; try (with_reducible rfl))
      (try simp only [Act.put, List.getElem_toArray, List.getElem_cons_zero, List.getElem_cons_succ, List.setIfInBounds_toArray, List.set_cons_zero, List.set_cons_succ])
      refine wpAnyH_take (i := 4) (v := ?v512_0_4) rfl (by kernel_rfl) (by kernel_rfl) (by kernel_rfl) (fun _ _ _ h => h) (Or.inl ⟨by rfl, ?hy512_0_4⟩) (by assumption) ?_
      case hy512_0_4 => (intro w hSw; (try dsimp only at hSw); go_simp; try (with_reducible rfl))
      (try simp only [Act.put, List.getElem_toArray, List.getElem_cons_zero, List.getElem_cons_succ, List.setIfInBounds_toArray, List.set_cons_zero, List.set_cons_succ])
      refine wpAnyH_take (i := 5) (v := ?v512_0_5) rfl (by kernel_rfl) (by kernel_rfl) (by kernel_rfl) (fun _ _ _ h => h) (Or.inl ⟨by rfl, ?hy512_0_5⟩) (by assumption) ?_
      case hy512_0_5 => (intro w hSw; (try dsimp only at hSw); go_simp; try (with_reducible rfl))
      (try simp only [Act.put, List.getElem_toArray, List.getElem_cons_zero, List.getElem_cons_succ, List.setIfInBounds_toArray, List.set_cons_zero, List.set_cons_succ])
      refine wpAnyH_take (i := 6) (v := ?v512_0_6) rfl (by kernel_rfl) (by kernel_rfl) (by kernel_rfl) (fun _ _ _ h => h) (Or.inl ⟨by rfl, ?hy512_0_6⟩) (by assumption) ?_
      case hy512_0_6 => (intro w hSw; (try dsimp only at hSw); go_simp; try (with_reducible rfl))
      (try simp only [Act.put, List.getElem_toArray, List.getElem_cons_zero, List.getElem_cons_succ, List.setIfInBounds_toArray, List.set_cons_zero, List.set_cons_succ])
      refine wpAnyH_take (i := 7) (v := ?v512_0_7) rfl (by kernel_rfl) (by kernel_rfl) (by kernel_rfl) (fun _ _ _ h => h) (Or.inl ⟨by rfl, ?hy512_0_7⟩) (by assumption) ?_
      case hy512_0_7 => (intro w hSw; (try dsimp only at hSw); go_simp; try (with_reducible rfl))
      (try simp only [Act.put, List.getElem_toArray, List.getElem_cons_zero, List.getElem_cons_succ, List.setIfInBounds_toArray, List.set_cons_zero, List.set_cons_succ])
      refine wpAnyH_take (i := 8) (v := ?v512_0_8) rfl (by kernel_rfl) (by kernel_rfl) (by kernel_rfl) (fun _ _ _ h => h) (Or.inl ⟨by rfl, ?hy512_0_8⟩) (by assumption) ?_
      case hy512_0_8 => (intro w hSw; (try dsimp only at hSw); go_simp; try (with_reducible rfl))
      (try simp only [Act.put, List.getElem_toArray, List.getElem_cons_zero, List.getElem_cons_succ, List.setIfInBounds_toArray, List.set_cons_zero, List.set_cons_succ])
      refine wpAnyH_take (i := 9) (v := ?v512_0_9) rfl (by kernel_rfl) (by kernel_rfl) (by kernel_rfl) (fun _ _ _ h => h) (Or.inl ⟨by rfl, ?hy512_0_9⟩) (by assumption) ?_
      case hy512_0_9 => (intro w hSw; (try dsimp only at hSw); go_simp; try (with_reducible rfl))
      (try simp only [Act.put, List.getElem_toArray, List.getElem_cons_zero, List.getElem_cons_succ, List.setIfInBounds_toArray, List.set_cons_zero, List.set_cons_succ])
      refine wpAnyH_take (i := 10) (v := ?v512_0_10) rfl (by kernel_rfl) (by kernel_rfl) (by kernel_rfl) (fun _ _ _ h => h) (Or.inl ⟨by rfl, ?hy512_0_10⟩) (by assumption) ?_
      case hy512_0_10 => (intro w hSw; (try dsimp only at hSw); go_simp; try (with_reducible rfl))
      (try simp only [Act.put, List.getElem_toArray, List.getElem_cons_zero, List.getElem_cons_succ, List.setIfInBounds_toArray, List.set_cons_zero, List.set_cons_succ])
      refine wpAnyH_take (i := 11) (v := ?v512_0_11) rfl (by kernel_rfl) (by kernel_rfl) (by kernel_rfl) (fun _ _ _ h => h) (Or.inl ⟨by rfl, ?hy512_0_11⟩) (by assumption) ?_
      case hy512_0_11 => (intro w hSw; (try dsimp only at hSw); go_simp; try (with_reducible rfl))
      (try simp only [Act.put, List.getElem_toArray, List.getElem_cons_zero, List.getElem_cons_succ, List.setIfInBounds_toArray, List.set_cons_zero, List.set_cons_succ])
      refine wpAnyH_take (i := 12) (v := ?v512_0_12) rfl (by kernel_rfl) (by kernel_rfl) (by kernel_rfl) (fun _ _ _ h => h) (Or.inl ⟨by rfl, ?hy512_0_12⟩) (by assumption) ?_
      case hy512_0_12 => (intro w hSw; (try dsimp only at hSw); go_simp; try (with_reducible rfl))
      (try simp only [Act.put, List.getElem_toArray, List.getElem_cons_zero, List.getElem_cons_succ, List.setIfInBounds_toArray, List.set_cons_zero, List.set_cons_succ])
      refine wpAnyH_take (i := 13) (v := ?v512_0_13) rfl (by kernel_rfl) (by kernel_rfl) (by kernel_rfl) (fun _ _ _ h => h) (Or.inl ⟨by rfl, ?hy512_0_13⟩) (by assumption) ?_
      case hy512_0_13 => (intro w hSw; (try dsimp only at hSw); go_simp; try (with_reducible rfl))
      (try simp only [Act.put, List.getElem_toArray, List.getElem_cons_zero, List.getElem_cons_succ, List.setIfInBounds_toArray, List.set_cons_zero, List.set_cons_succ])
      refine wpAnyH_take (i := 14) (v := ?v512_0_14) rfl (by kernel_rfl) (by kernel_rfl) (by kernel_rfl) (fun _ _ _ h => h) (Or.inl ⟨by rfl, ?hy512_0_14⟩) (by assumption) ?_
      case hy512_0_14 => (intro w hSw; (try dsimp only at hSw); go_simp; try (with_reducible rfl))
      (try simp only [Act.put, List.getElem_toArray, List.getElem_cons_zero, List.getElem_cons_succ, List.setIfInBounds_toArray, List.set_cons_zero, List.set_cons_succ])
      refine wpAnyH_take (i := 15) (v := ?v512_0_15) rfl (by kernel_rfl) (by kernel_rfl) (by kernel_rfl) (fun _ _ _ h => h) (Or.inl ⟨by rfl, ?hy512_0_15⟩) (by assumption) ?_
      case hy512_0_15 => (intro w hSw; (try dsimp only at hSw); go_simp; try (with_reducible rfl))
      (try simp only [Act.put, List.getElem_toArray, List.getElem_cons_zero, List.getElem_cons_succ, List.setIfInBounds_toArray, List.set_cons_zero, List.set_cons_succ])
      refine wpAnyH_ready (rs := [16]) (by kernel_rfl) (by simp) (AllReadyH.cons rfl (fun K hK => ?_) AllReadyH.nil)
      go_simp
      (refine (HP.out).mono ?_; rintro e Y2 ⟨rfl, hg2, hc2⟩; have KP := Lib.hid (And.intro hg2 hc2); clear hg2 hc2)
      (try go_wp2_with fail)
      refine hK.out _ _ ?_ (fun hHeld => ?_)
      · exact KC.out _ KP.out.2
      clear hK K
      (try simp only [Act.put, List.getElem_toArray, List.getElem_cons_zero, List.getElem_cons_succ, List.setIfInBounds_toArray, List.set_cons_zero, List.set_cons_succ])
      refine wpAnyH_take (i := 17) (v := ?v512_0_17) rfl (by kernel_rfl) (by kernel_rfl) (by kernel_rfl) (fun _ _ _ h => h) (Or.inl ⟨by rfl, ?hy512_0_17⟩) (by assumption) ?_
      case hy512_0_17 => (intro w hSw; (try dsimp only at hSw); go_simp; try (with_reducible rfl))
      (try simp only [Act.put, List.getElem_toArray, List.getElem_cons_zero, List.getElem_cons_succ, List.setIfInBounds_toArray, List.set_cons_zero, List.set_cons_succ])
      refine wpAnyH_take (i := 18) (v := ?v512_0_18) rfl (by kernel_rfl) (by kernel_rfl) (by kernel_rfl) (fun _ _ _ h => h) (Or.inl ⟨by rfl, ?hy512_0_18⟩) (by assumption) ?_
      case hy512_0_18 => (intro w hSw; (try dsimp only at hSw); go_simp; try (with_reducible rfl))
      (try simp only [Act.put, List.getElem_toArray, List.getElem_cons_zero, List.getElem_cons_succ, List.setIfInBounds_toArray, List.set_cons_zero, List.set_cons_succ])
      refine wpAnyH_take (i := 19) (v := ?v512_0_19) rfl (by kernel_rfl) (by kernel_rfl) (by kernel_rfl) (fun _ _ _ h => h) (Or.inl ⟨by rfl, ?hy512_0_19⟩) (by assumption) ?_
      case hy512_0_19 => (intro w hSw; (try dsimp only at hSw); go_simp; try (with_reducible rfl))
      (try simp only [Act.put, List.getElem_toArray, List.getElem_cons_zero, List.getElem_cons_succ, List.setIfInBounds_toArray, List.set_cons_zero, List.set_cons_succ])
      refine wpAnyH_take (i := 20) (v := ?v512_0_20) rfl (by kernel_rfl) (by kernel_rfl) (by kernel_rfl) (fun _ _ _ h => h) (Or.inl ⟨by rfl, ?hy512_0_20⟩) (by assumption) ?_
      case hy512_0_20 => (intro w hSw; (try dsimp only at hSw); go_simp; try (with_reducible rfl))
      (try simp only [Act.put, List.getElem_toArray, List.getElem_cons_zero, List.getElem_cons_succ, List.setIfInBounds_toArray, List.set_cons_zero, List.set_cons_succ])
      refine wpAnyH_take (i := 21) (v := ?v512_0_21) rfl (by kernel_rfl) (by kernel_rfl) (by kernel_rfl) (fun _ _ _ h => h) (Or.inl ⟨by rfl, ?hy512_0_21⟩) (by assumption) ?_
      case hy512_0_21 => (intro w hSw; (try dsimp only at hSw); go_simp; try (with_reducible rfl))
      (try simp only [Act.put, List.getElem_toArray, List.getElem_cons_zero, List.getElem_cons_succ, List.setIfInBounds_toArray, List.set_cons_zero, List.set_cons_succ])
      refine wpAnyH_take (i := 22) (v := ?v512_0_22) rfl (by kernel_rfl) (by kernel_rfl) (by kernel_rfl) (fun _ _ _ h => h) (Or.inl ⟨by rfl, ?hy512_0_22⟩) (by assumption) ?_
      case hy512_0_22 => (intro w hSw; (try dsimp only at hSw); go_simp; try (with_reducible rfl))
      (try simp only [Act.put, List.getElem_toArray, List.getElem_cons_zero, List.getElem_cons_succ, List.setIfInBounds_toArray, List.set_cons_zero, List.set_cons_succ])
      refine wpAnyH_take (i := 23) (v := ?v512_0_23) rfl (by kernel_rfl) (by kernel_rfl) (by kernel_rfl) (fun _ _ _ h => h) (Or.inl ⟨by rfl, ?hy512_0_23⟩) (by assumption) ?_
      case hy512_0_23 => (intro w hSw; (try dsimp only at hSw); go_simp; try (with_reducible rfl))
      (try simp only [Act.put, List.getElem_toArray, List.getElem_cons_zero, List.getElem_cons_succ, List.setIfInBounds_toArray, List.set_cons_zero, List.set_cons_succ])
      refine wpAnyH_take (i := 24) (v := ?v512_0_24) rfl (by kernel_rfl) (by kernel_rfl) (by kernel_rfl) (fun _ _ _ h => h) (Or.inl ⟨by rfl, ?hy512_0_24⟩) (by assumption) ?_
      case hy512_0_24 => (intro w hSw; (try dsimp only at hSw); go_simp; try (with_reducible rfl))
      (try simp only [Act.put, List.getElem_toArray, List.getElem_cons_zero, List.getElem_cons_succ, List.setIfInBounds_toArray, List.set_cons_zero, List.set_cons_succ])
      refine wpAnyH_take (i := 25) (v := ?v512_0_25) rfl (by kernel_rfl) (by kernel_rfl) (by kernel_rfl) (fun _ _ _ h => h) (Or.inl ⟨by rfl, ?hy512_0_25⟩) (by assumption) ?_
      case hy512_0_25 => (intro w hSw; (try dsimp only at hSw); go_simp; try (with_reducible rfl))
      (try simp only [Act.put, List.getElem_toArray, List.getElem_cons_zero, List.getElem_cons_succ, List.setIfInBounds_toArray, List.set_cons_zero, List.set_cons_succ])
      refine wpAnyH_take (i := 26) (v := ?v512_0_26) rfl (by kernel_rfl) (by kernel_rfl) (by kernel_rfl) (fun _ _ _ h => h) (Or.inl ⟨by rfl, ?hy512_0_26⟩) (by assumption) ?_
      case hy512_0_26 => (intro w hSw; (try dsimp only at hSw); go_simp; try (with_reducible rfl))
      (try simp only [Act.put, List.getElem_toArray, List.getElem_cons_zero, List.getElem_cons_succ, List.setIfInBounds_toArray, List.set_cons_zero, List.set_cons_succ])
      refine wpAnyH_take (i := 27) (v := ?v512_0_27) rfl (by kernel_rfl) (by kernel_rfl) (by kernel_rfl) (fun _ _ _ h => h) (Or.inl ⟨by rfl, ?hy512_0_27⟩) (by assumption) ?_
      case hy512_0_27 => (intro w hSw; (try dsimp only at hSw); go_simp; try (with_reducible rfl))
      (try simp only [Act.put, List.getElem_toArray, List.getElem_cons_zero, List.getElem_cons_succ, List.setIfInBounds_toArray, List.set_cons_zero, List.set_cons_succ])
      refine wpAnyH_take (i := 28) (v := ?v512_0_28) rfl (by kernel_rfl) (by kernel_rfl) (by kernel_rfl) (fun _ _ _ h => h) (Or.inl ⟨by rfl, ?hy512_0_28⟩) (by assumption) ?_
      case hy512_0_28 => (intro w hSw; (try dsimp only at hSw); go_simp; try (with_reducible rfl))
      (try simp only [Act.put, List.getElem_toArray, List.getElem_cons_zero, List.getElem_cons_succ, List.setIfInBounds_toArray, List.set_cons_zero, List.set_cons_succ])
      refine wpAnyH_take (i := 29) (v := ?v512_0_29) rfl (by kernel_rfl) (by kernel_rfl) (by kernel_rfl) (fun _ _ _ h => h) (Or.inl ⟨by rfl, ?hy512_0_29⟩) (by assumption) ?_
      case hy512_0_29 => (intro w hSw; (try dsimp only at hSw); go_simp; try (with_reducible rfl))
      (try simp only [Act.put, List.getElem_toArray, List.getElem_cons_zero, List.getElem_cons_succ, List.setIfInBounds_toArray, List.set_cons_zero, List.set_cons_succ])
      refine wpAnyH_take (i := 30) (v := ?v512_0_30) rfl (by kernel_rfl) (by kernel_rfl) (by kernel_rfl) (fun _ _ _ h => h) (Or.inl ⟨by rfl, ?hy512_0_30⟩) (by assumption) ?_
      case hy512_0_30 => (intro w hSw; (try dsimp only at hSw); go_simp; try (with_reducible rfl))
      (try simp only [Act.put, List.getElem_toArray, List.getElem_cons_zero, List.getElem_cons_succ, List.setIfInBounds_toArray, List.set_cons_zero, List.set_cons_succ])
      refine wpAnyH_take (i := 31) (v := ?v512_0_31) rfl (by kernel_rfl) (by kernel_rfl) (by kernel_rfl) (fun _ _ _ h => h) (Or.inl ⟨by rfl, ?hy512_0_31⟩) (by assumption) ?_
      case hy512_0_31 => (intro w hSw; (try dsimp only at hSw); go_simp; try (with_reducible rfl))
      (try simp only [Act.put, List.getElem_toArray, List.getElem_cons_zero, List.getElem_cons_succ, List.setIfInBounds_toArray, List.set_cons_zero, List.set_cons_succ])
      refine wpAnyH_take (i := 32) (v := ?v512_0_32) rfl (by kernel_rfl) (by kernel_rfl) (by kernel_rfl) (fun _ _ _ h => h) (Or.inl ⟨by rfl, ?hy512_0_32⟩) (by assumption) ?_
      case hy512_0_32 => (intro w hSw; (try dsimp only at hSw); go_simp; try (with_reducible rfl))
      (try simp only [Act.put, List.getElem_toArray, List.getElem_cons_zero, List.getElem_cons_succ, List.setIfInBounds_toArray, List.set_cons_zero, List.set_cons_succ])
      refine wpAnyH_take (i := 33) (v := ?v512_0_33) rfl (by kernel_rfl) (by kernel_rfl) (by kernel_rfl) (fun _ _ _ h => h) (Or.inl ⟨by rfl, ?hy512_0_33⟩) (by assumption) ?_
      case hy512_0_33 => (intro w hSw; (try dsimp only at hSw); go_simp; try (with_reducible rfl))
      (try simp only [Act.put, List.getElem_toArray, List.getElem_cons_zero, List.getElem_cons_succ, List.setIfInBounds_toArray, List.set_cons_zero, List.set_cons_succ])
      refine wpAnyH_done (by kernel_rfl) ?_ _
      go_wp2
      have hY2 : Chg [] w2 Y2 := KY.out Y2 KP.out.2
      have hR2 : Blk Y2 gb 48 (rowA (fun _ p => T p) 0).toArray := HRW.out.drew.chg KP.out.2 (by simp; omega)
      obtain ⟨e0, e1, e2⟩ := KZ.out Y2.drew hY2.drew
      have e3 : Y2.cell? ⟨gb, xf, none⟩ = some (.int .i64 (T xf)) := by rw [hR2.cell, rowA_get _ _ (by omega)]
      have e4 : Y2.frozen? ⟨gb, xf, none⟩ = false := hR2.frozen _
      have KC14 : Hid (∀ v, (Y2.drew.setCell ⟨gb, xf, none⟩ v).cell? ⟨g, off + k * 3, none⟩ = some (.int .u8 xf) ∧ (Y2.drew.setCell ⟨gb, xf, none⟩ v).cell? ⟨g, off + k * 3 + 1, none⟩ = some (.int .u8 xt) ∧ (Y2.drew.setCell ⟨gb, xf, none⟩ v).cell? ⟨g, off + k * 3 + 2, none⟩ = some (.int .i64 xn)) :=
        fun v => KZ.out _ (hY2.drew.setCell (.inr (by dsimp only; omega)) v)
      have hR3 : Blk (Y2.setCell ⟨gb, xf, none⟩ (.int .i64 (T xf - xn))) gb 48 (rowA (fun _ p => if p = xf then T xf - xn else T p) 0).toArray := by
        rw [← rowA_set _ (show xf < 17 by omega)]; exact hR2.set xf _
      have hY3 : Chg [] w2 (Y2.setCell ⟨gb, xf, none⟩ (.int .i64 (T xf - xn))) := hY2.setCell (.inr (by dsimp only; omega)) _
      have hG3 : IsG (Y2.setCell ⟨gb, xf, none⟩ (.int .i64 (T xf - xn))) cb (push (pushAll C (ps.take k)) xf xt xn) := ⟨KP.out.1.blk.far (by dsimp only; omega) _, KP.out.1.good⟩
      obtain ⟨hv1, hv2, hv3, hv4, hv5⟩ := HV.out
      have hz1 : -9223372036854775808 ≤ T xf - xn := by omega
      have hz2 : T xf - xn ≤ 9223372036854775807 := by omega
      have hz3 : -9223372036854775808 ≤ T xt + xn := by omega
      have hz4 : T xt + xn ≤ 9223372036854775807 := by omega
      have hw1 : IntKind.i64.wrap (T xf - xn) = T xf - xn := IntWalk.i64_in _ ⟨hz1, hz2⟩
      have hw2 : IntKind.i64.wrap (T xt + xn) = T xt + xn := IntWalk.i64_in _ ⟨hz3, hz4⟩
      have HY := Lib.hid (And.intro hY3 (And.intro hR3 hG3))
      clear hY2 hR2 hY3 hR3 hG3 hv1 hv2 hv3 hv4 hv5 c0 c1 c2 hHeld
      refine wp_region_held_drew (S := (fun w' : World => w'.cell? ⟨g, off + k * 3, none⟩ = some (.int .u8 xf) ∧ w'.cell? ⟨g, off + k * 3 + 1, none⟩ = some (.int .u8 xt) ∧ w'.cell? ⟨g, off + k * 3 + 2, none⟩ = some (.int .i64 xn))) (by kernel_rfl) ?_ (fun hHeld => ?_)
      · exact ⟨e0, e1, e2⟩
      refine wpAnyH_take (i := 0) (v := ?v514_0_0) rfl (by kernel_rfl) (by kernel_rfl) (by kernel_rfl) (fun _ _ _ h => h) (Or.inl ⟨by rfl, ?hy514_0_0⟩) (by assumption) ?_
      case hy514_0_0 => (intro w hSw; (try dsimp only at hSw); go_simp; try (with_reducible rfl))
      (try simp only [Act.put, List.getElem_toArray, List.getElem_cons_zero, List.setIfInBounds_toArray, List.set_cons_zero, List.set_cons_succ])
      refine wpAnyH_take (i := 1) (v := ?v514_0_1) rfl (by kernel_rfl) (by kernel_rfl) (by kernel_rfl) (fun _ _ _ h => h) (Or.inl ⟨by rfl, ?hy514_0_1⟩) (by assumption) ?_
      case hy514_0_1 => (intro w hSw; (try dsimp only at hSw); go_simp; try (with_reducible rfl))
      (try simp only [Act.put, List.getElem_toArray, List.getElem_cons_zero, List.getElem_cons_succ, List.setIfInBounds_toArray, List.set_cons_zero, List.set_cons_succ])
      refine wpAnyH_take (i := 2) (v := ?v514_0_2) rfl (by kernel_rfl) (by kernel_rfl) (by kernel_rfl) (fun _ _ _ h => h) (Or.inl ⟨by rfl, ?hy514_0_2⟩) (by assumption) ?_
      case hy514_0_2 => (intro w hSw; (try dsimp only at hSw); go_simp; try (with_reducible rfl))
      (try simp only [Act.put, List.getElem_toArray, List.getElem_cons_zero, List.getElem_cons_succ, List.setIfInBounds_toArray, List.set_cons_zero, List.set_cons_succ])
      refine wpAnyH_take (i := 3) (v := ?v514_0_3) rfl (by kernel_rfl) (by kernel_rfl) (by kernel_rfl) (fun _ _ _ h => h) (Or.inl ⟨by rfl, ?hy514_0_3⟩) (by assumption) ?_
      case hy514_0_3 => (intro w hSw; (try dsimp only at hSw); go_simp; try (with_reducible rfl))
      (try simp only [Act.put, List.getElem_toArray, List.getElem_cons_zero, List.getElem_cons_succ, List.setIfInBounds_toArray, List.set_cons_zero, List.set_cons_succ])
      refine wpAnyH_take (i := 4) (v := ?v514_0_4) rfl (by kernel_rfl) (by kernel_rfl) (by kernel_rfl) (fun _ _ _ h => h) (Or.inl ⟨by rfl, ?hy514_0_4⟩) (by assumption) ?_
      case hy514_0_4 => (intro w hSw; (try dsimp only at hSw); go_simp; try (with_reducible rfl))
      (try simp only [Act.put, List.getElem_toArray, List.getElem_cons_zero, List.getElem_cons_succ, List.setIfInBounds_toArray, List.set_cons_zero, List.set_cons_succ])
      refine wpAnyH_take (i := 5) (v := ?v514_0_5) rfl (by kernel_rfl) (by kernel_rfl) (by kernel_rfl) (fun _ _ _ h => h) (Or.inl ⟨by rfl, ?hy514_0_5⟩) (by assumption) ?_
      case hy514_0_5 => (intro w hSw; (try dsimp only at hSw); go_simp; try (with_reducible rfl))
      (try simp only [Act.put, List.getElem_toArray, List.getElem_cons_zero, List.getElem_cons_succ, List.setIfInBounds_toArray, List.set_cons_zero, List.set_cons_succ])
      refine wpAnyH_take (i := 6) (v := ?v514_0_6) rfl (by kernel_rfl) (by kernel_rfl) (by kernel_rfl) (fun _ _ _ h => h) (Or.inl ⟨by rfl, ?hy514_0_6⟩) (by assumption) ?_
      case hy514_0_6 => (intro w hSw; (try dsimp only at hSw); go_simp; try (with_reducible rfl))
      (try simp only [Act.put, List.getElem_toArray, List.getElem_cons_zero, List.getElem_cons_succ, List.setIfInBounds_toArray, List.set_cons_zero, List.set_cons_succ])
      refine wpAnyH_take (i := 7) (v := ?v514_0_7) rfl (by kernel_rfl) (by kernel_rfl) (by kernel_rfl) (fun _ _ _ h => h) (Or.inl ⟨by rfl, ?hy514_0_7⟩) (by assumption) ?_
      case hy514_0_7 => (intro w hSw; (try dsimp only at hSw); go_simp; try (with_reducible rfl))
      (try simp only [Act.put, List.getElem_toArray, List.getElem_cons_zero, List.getElem_cons_succ, List.setIfInBounds_toArray, List.set_cons_zero, List.set_cons_succ])
      refine wpAnyH_take (i := 8) (v := ?v514_0_8) rfl (by kernel_rfl) (by kernel_rfl) (by kernel_rfl) (fun _ _ _ h => h) (Or.inl ⟨by rfl, ?hy514_0_8⟩) (by assumption) ?_
      case hy514_0_8 => (intro w hSw; (try dsimp only at hSw); go_simp; try (with_reducible rfl))
      (try simp only [Act.put, List.getElem_toArray, List.getElem_cons_zero, List.getElem_cons_succ, List.setIfInBounds_toArray, List.set_cons_zero, List.set_cons_succ])
      refine wpAnyH_take (i := 9) (v := ?v514_0_9) rfl (by kernel_rfl) (by kernel_rfl) (by kernel_rfl) (fun _ _ _ h => h) (Or.inl ⟨by rfl, ?hy514_0_9⟩) (by assumption) ?_
      case hy514_0_9 => (intro w hSw; (try dsimp only at hSw); go_simp; try (with_reducible rfl))
      (try simp only [Act.put, List.getElem_toArray, List.getElem_cons_zero, List.getElem_cons_succ, List.setIfInBounds_toArray, List.set_cons_zero, List.set_cons_succ])
      refine wpAnyH_take (i := 10) (v := ?v514_0_10) rfl (by kernel_rfl) (by kernel_rfl) (by kernel_rfl) (fun _ _ _ h => h) (Or.inl ⟨by rfl, ?hy514_0_10⟩) (by assumption) ?_
      case hy514_0_10 => (intro w hSw; (try dsimp only at hSw); go_simp; try (with_reducible rfl))
      (try simp only [Act.put, List.getElem_toArray, List.getElem_cons_zero, List.getElem_cons_succ, List.setIfInBounds_toArray, List.set_cons_zero, List.set_cons_succ])
      refine wpAnyH_take (i := 12) (v := ?v514_0_12) rfl (by kernel_rfl) (by kernel_rfl) (by kernel_rfl) (fun _ _ _ h => h) (Or.inl ⟨by rfl, ?hy514_0_12⟩) (by assumption) ?_
      case hy514_0_12 => (intro w hSw; (try dsimp only at hSw); go_simp; try (with_reducible rfl))
      (try simp only [Act.put, List.getElem_toArray, List.getElem_cons_zero, List.getElem_cons_succ, List.setIfInBounds_toArray, List.set_cons_zero, List.set_cons_succ])
      refine wpAnyH_take (i := 13) (v := ?v514_0_13) rfl (by kernel_rfl) (by kernel_rfl) (by kernel_rfl) (fun _ _ _ h => h) (Or.inl ⟨by rfl, ?hy514_0_13⟩) (by assumption) ?_
      case hy514_0_13 => (intro w hSw; (try dsimp only at hSw); go_simp; try (with_reducible rfl))
      (try simp only [Act.put, List.getElem_toArray, List.getElem_cons_zero, List.getElem_cons_succ, List.setIfInBounds_toArray, List.set_cons_zero, List.set_cons_succ])
      refine wpAnyH_take (i := 14) (v := ?v514_0_14) rfl (by kernel_rfl) (by kernel_rfl) (by kernel_rfl) (fun _ _ _ h => h) (Or.inl ⟨by rfl, ?hy514_0_14⟩) (by assumption) ?_
      case hy514_0_14 => (intro w hSw; (try dsimp only at hSw); go_simp; try (with_reducible rfl))
      (try simp only [Act.put, List.getElem_toArray, List.getElem_cons_zero, List.getElem_cons_succ, List.setIfInBounds_toArray, List.set_cons_zero, List.set_cons_succ])
      refine wpAnyH_take (i := 15) (v := ?v514_0_15) rfl (by kernel_rfl) (by kernel_rfl) (by kernel_rfl) (fun _ _ _ h => h) (Or.inl ⟨by rfl, ?hy514_0_15⟩) (by assumption) ?_
      case hy514_0_15 => (intro w hSw; (try dsimp only at hSw); go_simp; try (with_reducible rfl))
      (try simp only [Act.put, List.getElem_toArray, List.getElem_cons_zero, List.getElem_cons_succ, List.setIfInBounds_toArray, List.set_cons_zero, List.set_cons_succ])
      refine wpAnyH_take (i := 16) (v := ?v514_0_16) rfl (by kernel_rfl) (by kernel_rfl) (by kernel_rfl) (fun _ _ _ h => h) (Or.inl ⟨by rfl, ?hy514_0_16⟩) (by assumption) ?_
      case hy514_0_16 => (intro w hSw; (try dsimp only at hSw); go_simp; try (with_reducible rfl))
      (try simp only [Act.put, List.getElem_toArray, List.getElem_cons_zero, List.getElem_cons_succ, List.setIfInBounds_toArray, List.set_cons_zero, List.set_cons_succ])
      refine wpAnyH_ready (rs := [11]) (by kernel_rfl) (by simp) (AllReadyH.cons rfl (fun K hK => ?_) AllReadyH.nil)
      go_simp
      refine hK.out _ _ ?_ (fun hHeld => ?_)
      · exact hHeld
      clear hK K
      (try simp only [Act.put, List.getElem_toArray, List.getElem_cons_zero, List.getElem_cons_succ, List.setIfInBounds_toArray, List.set_cons_zero, List.set_cons_succ])
      refine wpAnyH_take (i := 17) (v := ?v514_0_17) rfl (by kernel_rfl) (by kernel_rfl) (by kernel_rfl) (fun _ _ _ h => h) (Or.inl ⟨by rfl, ?hy514_0_17⟩) (by assumption) ?_
      case hy514_0_17 => (intro w hSw; (try dsimp only at hSw); go_simp; try (with_reducible rfl))
      (try simp only [Act.put, List.getElem_toArray, List.getElem_cons_zero, List.getElem_cons_succ, List.setIfInBounds_toArray, List.set_cons_zero, List.set_cons_succ])
      refine wpAnyH_take (i := 18) (v := ?v514_0_18) rfl (by kernel_rfl) (by kernel_rfl) (by kernel_rfl) (fun _ _ _ h => h) (Or.inl ⟨by rfl, ?hy514_0_18⟩) (by assumption) ?_
      case hy514_0_18 => (intro w hSw; (try dsimp only at hSw); go_simp; try (with_reducible rfl))
      (try simp only [Act.put, List.getElem_toArray, List.getElem_cons_zero, List.getElem_cons_succ, List.setIfInBounds_toArray, List.set_cons_zero, List.set_cons_succ])
      refine wpAnyH_ready (rs := [19]) (by kernel_rfl) (by simp) (AllReadyH.cons rfl (fun K hK => ?_) AllReadyH.nil)
      go_simp
      refine hK.out _ _ ?_ (fun hHeld => ?_)
      · exact KC14.out _
      clear hK K
      (try simp only [Act.put, List.getElem_toArray, List.getElem_cons_zero, List.getElem_cons_succ, List.setIfInBounds_toArray, List.set_cons_zero, List.set_cons_succ])
      refine wpAnyH_done (by kernel_rfl) ?_ _
      go_wp2
      obtain ⟨Y3, hy3⟩ : ∃ Y3 : World, Y3 = Y2.setCell ⟨gb, xf, none⟩ (.int .i64 (T xf - xn)) := ⟨_, rfl⟩
      have HY := HY
      rw [← hy3] at HY ⊢
      clear hy3 KC14 e0 e1 e2 e3 e4 hHeld
      obtain ⟨hY3, hR3, hG3⟩ := HY.out
      obtain ⟨i0', i1', i2'⟩ := KZ.out Y3.drew.drew hY3.drew.drew
      have hxt : xt ≠ xf := Ne.symm HI2.out.2.2
      have e3 : Y3.cell? ⟨gb, xt, none⟩ = some (.int .i64 (T xt)) := by rw [hR3.cell, rowA_get _ _ (by omega)]; simp [hxt]
      have e4 : Y3.frozen? ⟨gb, xt, none⟩ = false := hR3.frozen _
      have KC15 : Hid (∀ v, (Y3.drew.drew.setCell ⟨gb, xt, none⟩ v).cell? ⟨g, off + k * 3, none⟩ = some (.int .u8 xf) ∧ (Y3.drew.drew.setCell ⟨gb, xt, none⟩ v).cell? ⟨g, off + k * 3 + 1, none⟩ = some (.int .u8 xt) ∧ (Y3.drew.drew.setCell ⟨gb, xt, none⟩ v).cell? ⟨g, off + k * 3 + 2, none⟩ = some (.int .i64 xn)) :=
        fun v => KZ.out _ (hY3.drew.drew.setCell (.inr (by dsimp only; omega)) v)
      have hR4 : Blk (Y3.setCell ⟨gb, xt, none⟩ (.int .i64 (T xt + xn))) gb 48 (rowA (fun _ p => hasOf (ps.take (k + 1)) p) 0).toArray := by
        have q := hR3.set xt (.int .i64 (T xt + xn))
        rw [rowA_set _ (show xt < 17 by omega)] at q
        have e : (fun p => hasOf (ps.take (k + 1)) p) = (fun p => if p = xt then T xt + xn else if p = xf then T xf - xn else T p) := by
          funext p
          rw [HS.out p, HT.out]
          by_cases p1 : p = xt
          · subst p1
            simp [Ne.symm hxt]
          · by_cases p2 : p = xf
            · subst p2
              simp [Ne.symm p1, p1]; omega
            · simp [p1, p2, Ne.symm p1, Ne.symm p2]
        rw [e]; exact q
      have hY4 : Chg [] w2 (Y3.setCell ⟨gb, xt, none⟩ (.int .i64 (T xt + xn))) := hY3.setCell (.inr (by dsimp only; omega)) _
      have hG4 : IsG (Y3.setCell ⟨gb, xt, none⟩ (.int .i64 (T xt + xn))) cb (pushAll C (ps.take (k + 1))) := by
        rw [HP2.out]; exact ⟨hG3.blk.far (by dsimp only; omega) _, hG3.good⟩
      have HZ := Lib.hid (And.intro hG4 (And.intro hR4 hY4))
      clear hY3 hR3 hG3 hR4 hY4 hG4 HY
      refine wp_region_held_drew (S := (fun w' : World => w'.cell? ⟨g, off + k * 3, none⟩ = some (.int .u8 xf) ∧ w'.cell? ⟨g, off + k * 3 + 1, none⟩ = some (.int .u8 xt) ∧ w'.cell? ⟨g, off + k * 3 + 2, none⟩ = some (.int .i64 xn))) (by kernel_rfl) ?_ (fun hHeld => ?_)
      · exact ⟨i0', i1', i2'⟩
      refine wpAnyH_take (i := 0) (v := ?v515_0_0) rfl (by kernel_rfl) (by kernel_rfl) (by kernel_rfl) (fun _ _ _ h => h) (Or.inl ⟨by rfl, ?hy515_0_0⟩) (by assumption) ?_
      case hy515_0_0 => (intro w hSw; (try dsimp only at hSw); go_simp; try (with_reducible rfl))
      (try simp only [Act.put, List.getElem_toArray, List.getElem_cons_zero, List.setIfInBounds_toArray, List.set_cons_zero, List.set_cons_succ])
      refine wpAnyH_take (i := 1) (v := ?v515_0_1) rfl (by kernel_rfl) (by kernel_rfl) (by kernel_rfl) (fun _ _ _ h => h) (Or.inl ⟨by rfl, ?hy515_0_1⟩) (by assumption) ?_
      case hy515_0_1 => (intro w hSw; (try dsimp only at hSw); go_simp; try (with_reducible rfl))
      (try simp only [Act.put, List.getElem_toArray, List.getElem_cons_zero, List.getElem_cons_succ, List.setIfInBounds_toArray, List.set_cons_zero, List.set_cons_succ])
      refine wpAnyH_take (i := 2) (v := ?v515_0_2) rfl (by kernel_rfl) (by kernel_rfl) (by kernel_rfl) (fun _ _ _ h => h) (Or.inl ⟨by rfl, ?hy515_0_2⟩) (by assumption) ?_
      case hy515_0_2 => (intro w hSw; (try dsimp only at hSw); go_simp; try (with_reducible rfl))
      (try simp only [Act.put, List.getElem_toArray, List.getElem_cons_zero, List.getElem_cons_succ, List.setIfInBounds_toArray, List.set_cons_zero, List.set_cons_succ])
      refine wpAnyH_take (i := 3) (v := ?v515_0_3) rfl (by kernel_rfl) (by kernel_rfl) (by kernel_rfl) (fun _ _ _ h => h) (Or.inl ⟨by rfl, ?hy515_0_3⟩) (by assumption) ?_
      case hy515_0_3 => (intro w hSw; (try dsimp only at hSw); go_simp; try (with_reducible rfl))
      (try simp only [Act.put, List.getElem_toArray, List.getElem_cons_zero, List.getElem_cons_succ, List.setIfInBounds_toArray, List.set_cons_zero, List.set_cons_succ])
      refine wpAnyH_take (i := 4) (v := ?v515_0_4) rfl (by kernel_rfl) (by kernel_rfl) (by kernel_rfl) (fun _ _ _ h => h) (Or.inl ⟨by rfl, ?hy515_0_4⟩) (by assumption) ?_
      case hy515_0_4 => (intro w hSw; (try dsimp only at hSw); go_simp; try (with_reducible rfl))
      (try simp only [Act.put, List.getElem_toArray, List.getElem_cons_zero, List.getElem_cons_succ, List.setIfInBounds_toArray, List.set_cons_zero, List.set_cons_succ])
      refine wpAnyH_take (i := 5) (v := ?v515_0_5) rfl (by kernel_rfl) (by kernel_rfl) (by kernel_rfl) (fun _ _ _ h => h) (Or.inl ⟨by rfl, ?hy515_0_5⟩) (by assumption) ?_
      case hy515_0_5 => (intro w hSw; (try dsimp only at hSw); go_simp; try (with_reducible rfl))
      (try simp only [Act.put, List.getElem_toArray, List.getElem_cons_zero, List.getElem_cons_succ, List.setIfInBounds_toArray, List.set_cons_zero, List.set_cons_succ])
      refine wpAnyH_take (i := 6) (v := ?v515_0_6) rfl (by kernel_rfl) (by kernel_rfl) (by kernel_rfl) (fun _ _ _ h => h) (Or.inl ⟨by rfl, ?hy515_0_6⟩) (by assumption) ?_
      case hy515_0_6 => (intro w hSw; (try dsimp only at hSw); go_simp; try (with_reducible rfl))
      (try simp only [Act.put, List.getElem_toArray, List.getElem_cons_zero, List.getElem_cons_succ, List.setIfInBounds_toArray, List.set_cons_zero, List.set_cons_succ])
      refine wpAnyH_take (i := 7) (v := ?v515_0_7) rfl (by kernel_rfl) (by kernel_rfl) (by kernel_rfl) (fun _ _ _ h => h) (Or.inl ⟨by rfl, ?hy515_0_7⟩) (by assumption) ?_
      case hy515_0_7 => (intro w hSw; (try dsimp only at hSw); go_simp; try (with_reducible rfl))
      (try simp only [Act.put, List.getElem_toArray, List.getElem_cons_zero, List.getElem_cons_succ, List.setIfInBounds_toArray, List.set_cons_zero, List.set_cons_succ])
      refine wpAnyH_take (i := 8) (v := ?v515_0_8) rfl (by kernel_rfl) (by kernel_rfl) (by kernel_rfl) (fun _ _ _ h => h) (Or.inl ⟨by rfl, ?hy515_0_8⟩) (by assumption) ?_
      case hy515_0_8 => (intro w hSw; (try dsimp only at hSw); go_simp; try (with_reducible rfl))
      (try simp only [Act.put, List.getElem_toArray, List.getElem_cons_zero, List.getElem_cons_succ, List.setIfInBounds_toArray, List.set_cons_zero, List.set_cons_succ])
      refine wpAnyH_take (i := 9) (v := ?v515_0_9) rfl (by kernel_rfl) (by kernel_rfl) (by kernel_rfl) (fun _ _ _ h => h) (Or.inl ⟨by rfl, ?hy515_0_9⟩) (by assumption) ?_
      case hy515_0_9 => (intro w hSw; (try dsimp only at hSw); go_simp; try (with_reducible rfl))
      (try simp only [Act.put, List.getElem_toArray, List.getElem_cons_zero, List.getElem_cons_succ, List.setIfInBounds_toArray, List.set_cons_zero, List.set_cons_succ])
      refine wpAnyH_take (i := 10) (v := ?v515_0_10) rfl (by kernel_rfl) (by kernel_rfl) (by kernel_rfl) (fun _ _ _ h => h) (Or.inl ⟨by rfl, ?hy515_0_10⟩) (by assumption) ?_
      case hy515_0_10 => (intro w hSw; (try dsimp only at hSw); go_simp; try (with_reducible rfl))
      (try simp only [Act.put, List.getElem_toArray, List.getElem_cons_zero, List.getElem_cons_succ, List.setIfInBounds_toArray, List.set_cons_zero, List.set_cons_succ])
      refine wpAnyH_take (i := 12) (v := ?v515_0_12) rfl (by kernel_rfl) (by kernel_rfl) (by kernel_rfl) (fun _ _ _ h => h) (Or.inl ⟨by rfl, ?hy515_0_12⟩) (by assumption) ?_
      case hy515_0_12 => (intro w hSw; (try dsimp only at hSw); go_simp; try (with_reducible rfl))
      (try simp only [Act.put, List.getElem_toArray, List.getElem_cons_zero, List.getElem_cons_succ, List.setIfInBounds_toArray, List.set_cons_zero, List.set_cons_succ])
      refine wpAnyH_take (i := 13) (v := ?v515_0_13) rfl (by kernel_rfl) (by kernel_rfl) (by kernel_rfl) (fun _ _ _ h => h) (Or.inl ⟨by rfl, ?hy515_0_13⟩) (by assumption) ?_
      case hy515_0_13 => (intro w hSw; (try dsimp only at hSw); go_simp; try (with_reducible rfl))
      (try simp only [Act.put, List.getElem_toArray, List.getElem_cons_zero, List.getElem_cons_succ, List.setIfInBounds_toArray, List.set_cons_zero, List.set_cons_succ])
      refine wpAnyH_take (i := 14) (v := ?v515_0_14) rfl (by kernel_rfl) (by kernel_rfl) (by kernel_rfl) (fun _ _ _ h => h) (Or.inl ⟨by rfl, ?hy515_0_14⟩) (by assumption) ?_
      case hy515_0_14 => (intro w hSw; (try dsimp only at hSw); go_simp; try (with_reducible rfl))
      (try simp only [Act.put, List.getElem_toArray, List.getElem_cons_zero, List.getElem_cons_succ, List.setIfInBounds_toArray, List.set_cons_zero, List.set_cons_succ])
      refine wpAnyH_take (i := 15) (v := ?v515_0_15) rfl (by kernel_rfl) (by kernel_rfl) (by kernel_rfl) (fun _ _ _ h => h) (Or.inl ⟨by rfl, ?hy515_0_15⟩) (by assumption) ?_
      case hy515_0_15 => (intro w hSw; (try dsimp only at hSw); go_simp; try (with_reducible rfl))
      (try simp only [Act.put, List.getElem_toArray, List.getElem_cons_zero, List.getElem_cons_succ, List.setIfInBounds_toArray, List.set_cons_zero, List.set_cons_succ])
      refine wpAnyH_take (i := 16) (v := ?v515_0_16) rfl (by kernel_rfl) (by kernel_rfl) (by kernel_rfl) (fun _ _ _ h => h) (Or.inl ⟨by rfl, ?hy515_0_16⟩) (by assumption) ?_
      case hy515_0_16 => (intro w hSw; (try dsimp only at hSw); go_simp; try (with_reducible rfl))
      (try simp only [Act.put, List.getElem_toArray, List.getElem_cons_zero, List.getElem_cons_succ, List.setIfInBounds_toArray, List.set_cons_zero, List.set_cons_succ])
      refine wpAnyH_ready (rs := [11]) (by kernel_rfl) (by simp) (AllReadyH.cons rfl (fun K hK => ?_) AllReadyH.nil)
      go_simp
      refine hK.out _ _ ?_ (fun hHeld => ?_)
      · exact hHeld
      clear hK K
      (try simp only [Act.put, List.getElem_toArray, List.getElem_cons_zero, List.getElem_cons_succ, List.setIfInBounds_toArray, List.set_cons_zero, List.set_cons_succ])
      refine wpAnyH_take (i := 17) (v := ?v515_0_17) rfl (by kernel_rfl) (by kernel_rfl) (by kernel_rfl) (fun _ _ _ h => h) (Or.inl ⟨by rfl, ?hy515_0_17⟩) (by assumption) ?_
      case hy515_0_17 => (intro w hSw; (try dsimp only at hSw); go_simp; try (with_reducible rfl))
      (try simp only [Act.put, List.getElem_toArray, List.getElem_cons_zero, List.getElem_cons_succ, List.setIfInBounds_toArray, List.set_cons_zero, List.set_cons_succ])
      refine wpAnyH_take (i := 18) (v := ?v515_0_18) rfl (by kernel_rfl) (by kernel_rfl) (by kernel_rfl) (fun _ _ _ h => h) (Or.inl ⟨by rfl, ?hy515_0_18⟩) (by assumption) ?_
      case hy515_0_18 => (intro w hSw; (try dsimp only at hSw); go_simp; try (with_reducible rfl))
      (try simp only [Act.put, List.getElem_toArray, List.getElem_cons_zero, List.getElem_cons_succ, List.setIfInBounds_toArray, List.set_cons_zero, List.set_cons_succ])
      refine wpAnyH_ready (rs := [19]) (by kernel_rfl) (by simp) (AllReadyH.cons rfl (fun K hK => ?_) AllReadyH.nil)
      go_simp
      refine hK.out _ _ ?_ (fun hHeld => ?_)
      · exact KC15.out _
      clear hK K
      (try simp only [Act.put, List.getElem_toArray, List.getElem_cons_zero, List.getElem_cons_succ, List.setIfInBounds_toArray, List.set_cons_zero, List.set_cons_succ])
      refine wpAnyH_done (by kernel_rfl) ?_ _
      go_wp2
      go_roundw
      case rel => exact ⟨k + 1, by omega, by go_num, ⟨HZ.out.1.blk.drew.drew, HZ.out.1.good⟩, HZ.out.2.1.drew.drew, HZ.out.2.2.drew.drew⟩
      case measure => simp [intOf]; omega
    · obtain rfl : k = ps.length := by omega
      obtain ⟨hg, hr, hch⟩ := HI.out
      rw [List.take_of_length_le (Nat.le_refl _)] at hg hr
      have hcb : w2.heap.size ≤ cb := by have := HX.out.2.2.2.2; omega
      have b5 := B2.out.chg hch (by simp)
      have d0 : wr.cell? ⟨w.heap.size, 0, none⟩ = some (.int .u8 s) := b5.cell 0
      have d1 : wr.cell? ⟨w.heap.size, 1, none⟩ = some (.int .u8 t) := b5.cell 1
      have d2 : wr.cell? ⟨w.heap.size, 2, none⟩ = some (.int .i64 want) := b5.cell 2
      have HW := Lib.hid (And.intro hg (And.intro hr (And.intro hch b5)))
      have HHas := Lib.hid HF.out.2.1
      clear hg hr hch b5 hk hkl HX HI B4
      go_wp2
      go_loop [12] (fun p => ∃ k : Nat, k ≤ 17 ∧ p = .int .u8 k) (fun p => (18 - intOf p).toNat)
      case atStart => exact ⟨0, by omega, rfl⟩
      case round =>
        obtain ⟨k, hk, rfl⟩ := hrel
        by_cases hlt : k < 17
        · have hk1 : (k : Int) < 17 := by omega
          have hk2 : (0 : Int) ≤ (k : Int) := by omega
          have e := HW.out.2.1.cell k
          rw [rowA_get _ _ hlt, HHas.out k] at e
          by_cases p1 : k = s
          · subst p1
            have p2 : ¬ k = t := HC.out.2.2
            rw [if_neg p2, if_pos rfl] at e
            have t2 : ((k : Int) == t) = false := a2
            go_wp2
            go_round
            case rel => exact ⟨k + 1, by omega, by go_num⟩
            case measure => simp [intOf]; omega
          · have t1 : ((k : Int) == s) = false := by rw [beq_eq_false_iff_ne]; omega
            by_cases p2 : k = t
            · subst p2
              rw [if_pos rfl] at e
              go_wp2
              go_round
              case rel => exact ⟨k + 1, by omega, by go_num⟩
              case measure => simp [intOf]; omega
            · have t2 : ((k : Int) == t) = false := by rw [beq_eq_false_iff_ne]; omega
              rw [if_neg p2, if_neg p1] at e
              clear p1 p2
              go_wp2
              go_round
              case rel => exact ⟨k + 1, by omega, by go_num⟩
              case measure => simp [intOf]; omega
        · obtain rfl : k = 17 := by omega
          go_wp2_with fail
          refine (fmost (.inl ⟨b, rfl, ⟨G2.out.blk.chg HW.out.2.2.1 (by simp), G2.out.good⟩⟩) s t).mono ?_
          rintro e w5 ⟨rfl, hC⟩
          have hM : got = min want (mostF C s t) := HF.out.2.2.1
          generalize mostF C s t = M at *
          have c5 := HW.out.2.2.2.chg hC (by simp)
          have d0 : w5.cell? ⟨w.heap.size, 0, none⟩ = some (.int .u8 s) := c5.cell 0
          have d1 : w5.cell? ⟨w.heap.size, 1, none⟩ = some (.int .u8 t) := c5.cell 1
          have d2 : w5.cell? ⟨w.heap.size, 2, none⟩ = some (.int .i64 want) := c5.cell 2
          have C5 := Lib.hid (HW.out.2.2.1.trans hC)
          have GC := Lib.hid (HW.out.1.blk.chg hC (by simp))
          have GG := Lib.hid HW.out.1.good
          clear hC c5
          by_cases hfull : got = want
          · subst hfull
            have hm1 : ¬ M < got := by omega
            clear hM
            go_wp2_with (go_at_call 27; refine (lives7 _).mono ?_; rintro e w' ⟨rfl, hc⟩)
            go_ret
            exact ⟨rfl, C2.out.trans (C5.out.trans hc)⟩
          · have hlt : got < want := by omega
            obtain rfl : M = got := by omega
            have hb3 : (M == want) = false := by rw [beq_eq_false_iff_ne]; exact hfull
            have hoff := HF.out.2.2.2.1 hlt
            have hcut := HF.out.2.2.2.2 hlt
            have hRlt := reached_lt (pushAll C ps) HC.out.1
            clear hM hfull
            go_wp2_with fail
            refine (freached (.inl ⟨cb, rfl, ⟨GC.out, GG.out⟩⟩) HC.out.1).mono ?_
            rintro e w6 ⟨rfl, rfl⟩
            generalize reached (pushAll C ps) s = R at *
            have t1 := tb_zero (i := t) (by omega) hoff
            have HCT := Lib.hid hcut
            clear hcut hoff
            go_wp2_with fail
            refine (fcut (.inl ⟨b, rfl, ⟨G2.out.blk.chg C5.out (by simp), G2.out.good⟩⟩) R (by omega) M).mono ?_
            rw [decide_eq_true HCT.out]
            rintro e w7 ⟨rfl, rfl⟩
            go_wp2_with (go_at_call 27; refine (lives7 _).mono ?_; rintro e w' ⟨rfl, hc⟩)
            go_ret
            exact ⟨rfl, C2.out.trans (C5.out.trans hc)⟩

/-- Whatever edges there are, and whatever is asked. -/
theorem flowsMost_walk {w : World} {va : Value} {l : List Fl} (hl : RdFl w va l) {s t : Nat} (_ : s < 256) (_ : t < 256) {want : Int} (hw : -9223372036854775808 ≤ want ∧ want ≤ 9223372036854775807) :
    Calls Try.prog 5 #[va, .agg #[.int .u8 s, .int .u8 t, .int .i64 want]] w fun e w' => e = .returned (.bool true) ∧ Chg [] w w' := by
  by_cases h300 : 300 < l.length
  · exact flowsMost_long hl s t want h300
  · cases hnew : newG l with
    | none => exact flowsMost_bad hl s t want hw.2 (by omega) hnew
    | some C =>
      by_cases hoff : want < 1 ∨ s = t ∨ s < 1 ∨ 16 < s ∨ t < 1 ∨ 16 < t
      · exact flowsMost_off hl hw.2 (by omega) hnew hoff
      · exact flowsMost_on hl hw.2 (by omega) hnew (by omega) (mem_P16.2 (by omega)) (mem_P16.2 (by omega)) (by omega)
end Go.Proofs.Ytfpdkeokdojejaa
