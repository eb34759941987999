/-
  The law GraphsPlay, walked.
-/
import Derived.Test.YtfpdkeokdojejaaRefNew
import Derived.Test.YtfpdkeokdojejaaPageF
import Derived.Deep.RegionHeld3
import Derived.Deep.DrawnRows
import Derived.Deep.DeepCutAuto
namespace Go.Proofs.Ytfpdkeokdojejaa
open Go.RowKit Pl
attribute [local go_sem ↓] Go.wp_at_zero Go.wp_at_succ

theorem IsG.heap {w w' : World} {b : Nat} {C : Caps} (h : IsG w b C) (e : w'.heap = w.heap) : IsG w' b C := h.same (by rw [e])
theorem Chg.like {s : List Nat} {a w w' : World} (h : Chg s a w) (e1 : w'.heap = w.heap) (e2 : w'.os = w.os) (e3 : w'.tape = w.tape) (e4 : w'.output = w.output) : Chg s a w' :=
  h.trans ⟨e2, e3, e4, by rw [e1]; exact Nat.le_refl _, fun k _ _ => by rw [e1]⟩
theorem Chg.thru {s : List Nat} {a w w' w2 : World} (h : Chg s a w) (k : Chg s w' w2) (e1 : w'.heap = w.heap) (e2 : w'.os = w.os) (e3 : w'.tape = w.tape) (e4 : w'.output = w.output) : Chg s a w2 := (h.like e1 e2 e3 e4).trans k
theorem IsM.heap {w w' : World} {mb : Nat} {v : Value} {C : Caps} (h : IsM w mb v C) (e1 : w'.heap = w.heap) (e2 : w'.os = w.os) (e3 : w'.tape = w.tape) (e4 : w'.output = w.output) : IsM w' mb v C :=
  h.chg0 ((Chg.refl [] w).like e1 e2 e3 e4)
theorem RdFl.get {w : World} {v : Value} {l : List Fl} (h : RdFl w v l) {k : Nat} (hk : k < l.length) : ∃ g off cap, v = .slice (some ⟨g, off, none⟩) l.length cap ∧ l.length ≤ cap ∧
    w.cell? ⟨g, off + k * 3, none⟩ = some (.int .u8 l[k].f) ∧ w.cell? ⟨g, off + k * 3 + 1, none⟩ = some (.int .u8 l[k].t) ∧ w.cell? ⟨g, off + k * 3 + 2, none⟩ = some (.int .i64 l[k].n) := by
  rcases h with ⟨rfl, _⟩ | ⟨g, off, cap, rfl, hn, hc⟩
  · simp at hk
  · exact ⟨g, off, cap, rfl, hn, hc k hk⟩

theorem IsBook.chg {w w' : World} {base kb : Nat} {v : Value} {ps : List Value} {s : List Nat} (h : IsBook w base kb v ps) (k : Chg s w w') (hk : kb ∉ s) (hv : ∀ g, v.ownBlock = some g → g ∉ s) : IsBook w' base kb v ps := by
  refine ⟨h.blk.chg k hk, ?_⟩
  obtain ⟨hl, h0 | ⟨g, c, cs, he, hbg, hg, hr⟩⟩ := h.own
  · exact ⟨hl, .inl h0⟩
  · refine ⟨hl, .inr ⟨g, c, cs, he, hbg, ?_, hr⟩⟩
    rw [k.block g (Array.getElem?_eq_some_iff.1 hg).1 (hv g (by rw [he]; rfl))]; exact hg

/-- A condition that is kept may be weakened. -/
theorem wpAnyH_more {P : Program} {md : Region.Mode} {ops : Array Oper} {Q : Exit → Act → World → Prop} {S S' : World → Prop} (h : ∀ w, S' w → S w) : ∀ (fuel : Nat) (listed : Array Bool) (a : Act) (w : World), wpAnyH P md ops Q S' fuel listed a w → wpAnyH P md ops Q S fuel listed a w
  | 0, _, _, _, H => H
  | fuel + 1, _, _, _, H => ⟨H.1, fun i hi => wpOp_mono (fun a' w' h' => ⟨h _ h'.1, wpAnyH_more h fuel _ a' w' h'.2⟩) (H.2 i hi)⟩
theorem RdFl.like {w w' : World} {v : Value} {l : List Fl} (h : RdFl w v l) (e1 : w'.heap = w.heap) (e2 : w'.os = w.os) (e3 : w'.tape = w.tape) (e4 : w'.output = w.output) : RdFl w' v l := h.chg0 ((Chg.refl [] w).like e1 e2 e3 e4)

/-- What stands while the two graphs are played: the graph in block b, the document's in block mb, the push in block xb. -/
structure PS (w7 wx : World) (b mb xb : Nat) (x : Fl) (v : Value) (D E : Caps) : Prop where
  g : IsG wx b D
  m : IsM wx mb v E
  c : Chg [b, mb] w7 wx
  x : Blk wx xb 35 #[.int .u8 x.f, .int .u8 x.t, .int .i64 x.n]
  own : ∀ g, v.ownBlock = some g → g ≠ b
  lt : b < mb ∧ mb < xb
section
variable {w7 wx wy wz : World} {b mb xb : Nat} {x : Fl} {v : Value} {D E : Caps}
theorem PS.like (h : PS w7 wx b mb xb x v D E) (e1 : wy.heap = wx.heap) (e2 : wy.os = wx.os) (e3 : wy.tape = wx.tape) (e4 : wy.output = wx.output) : PS w7 wy b mb xb x v D E :=
  ⟨h.g.heap e1, h.m.heap e1 e2 e3 e4, h.c.like e1 e2 e3 e4, h.x.same (by rw [e1]), h.own, h.lt⟩
theorem PS.keep (h : PS w7 wx b mb xb x v D E) (e1 : wy.heap = wx.heap) : wy.cell? ⟨xb, 0, none⟩ = some (.int .u8 x.f) ∧ wy.cell? ⟨xb, 1, none⟩ = some (.int .u8 x.t) ∧ wy.cell? ⟨xb, 2, none⟩ = some (.int .i64 x.n) := by
  have hb := h.x.same (w' := wy) (by rw [e1])
  exact ⟨hb.cell 0, hb.cell 1, hb.cell 2⟩
theorem PS.push {D' : Caps} (h : PS w7 wx b mb xb x v D E) (hg : IsG wz b D') (hc : Chg [b] wy wz) (e1 : wy.heap = wx.heap) (e2 : wy.os = wx.os) (e3 : wy.tape = wx.tape) (e4 : wy.output = wx.output) : PS w7 wz b mb xb x v D' E := by
  have h' := h.like e1 e2 e3 e4
  have := h.lt
  exact ⟨hg, h'.m.chg hc (by simp; omega) (by intro g hg; simp; exact h.own g hg), h'.c.trans (hc.mono (by simp)), h'.x.chg hc (by simp; omega), h.own, h.lt⟩
theorem PS.rpush {v' : Value} {E' : Caps} (h : PS w7 wx b mb xb x v D E) (hm : IsM wz mb v' E') (hc : Chg [mb] wy wz) (hv : v' = v ∨ ∀ g, v'.ownBlock = some g → wy.heap.size ≤ g) (e1 : wy.heap = wx.heap) (e2 : wy.os = wx.os) (e3 : wy.tape = wx.tape) (e4 : wy.output = wx.output) : PS w7 wz b mb xb x v' D E' := by
  have h' := h.like e1 e2 e3 e4
  have := h.lt
  have hgl := h'.g.lt
  refine ⟨h'.g.chg hc (by simp; omega), hm, h'.c.trans (hc.mono (by simp)), h'.x.chg hc (by simp; omega), ?_, h.lt⟩
  rcases hv with rfl | hv
  · exact h.own
  · intro g hg; have := hv g hg; omega
theorem PS.quiet (h : PS w7 wx b mb xb x v D E) (hc : Chg [] wy wz) (e1 : wy.heap = wx.heap) (e2 : wy.os = wx.os) (e3 : wy.tape = wx.tape) (e4 : wy.output = wx.output) : PS w7 wz b mb xb x v D E := by
  have h' := h.like e1 e2 e3 e4
  exact ⟨h'.g.chg hc (by simp), h'.m.chg0 hc, h'.c.trans (hc.mono (by simp)), h'.x.chg hc (by simp), h.own, h.lt⟩
end

theorem sameFlows_yes {w : World} {u v : Value} {l : List Fl} (h : RdFl w u l) (k : RdFl w v l) (hm : l.length ≤ 1000000) :
    Calls Try.prog 21 #[u, v] w fun e w' => e = .returned (.bool true) ∧ Chg [] w w' := by
  have := sameFlows h k hm
  rwa [show decide (l = l) = true from decide_eq_true rfl] at this

set_option maxRecDepth 100000 in
set_option maxHeartbeats 8000000 in
theorem graphsPlay_walk {w : World} {u v : Value} {l m : List Fl} (hu : RdFl w u l) (hv : RdFl w v m) :
    Calls Try.prog 3 #[u, v] w fun e w' => e = .returned (.bool true) ∧ Chg [] w w' := by
  obtain ⟨ao, cap, rfl⟩ := hu.shape
  obtain ⟨ao', cap', rfl⟩ := hv.shape
  have HU := Lib.hid hu
  have HV := Lib.hid hv
  clear hu hv
  by_cases hl : 300 < l.length
  · go_enter Try.func3, Try.ntmps3
    go_wp2_with fail
    refine (lives5 _).mono ?_; rintro e w1 ⟨rfl, hc⟩
    have HC := Lib.hid hc
    clear hc
    go_wp2
    go_ret
    exact ⟨rfl, HC.out⟩
  have HML : Hid (l.length ≤ 1000000) := by show _ ≤ _; omega
  by_cases hm : 60 < m.length
  · go_enter Try.func3, Try.ntmps3
    go_wp2_with fail
    refine (lives5 _).mono ?_; rintro e w1 ⟨rfl, hc⟩
    have HC := Lib.hid hc
    clear hc
    go_wp2
    go_ret
    exact ⟨rfl, HC.out⟩
  go_enter Try.func3, Try.ntmps3
  go_wp2_with fail
  refine (twinFlows HU.out HML.out).mono ?_; rintro e w1 ⟨gt, hgt, rfl, hbt, hc1⟩
  have H1 := Lib.hid (And.intro hgt (And.intro hbt hc1))
  clear hgt hbt hc1
  go_wp2_with fail
  refine (gnew (RdFl.of_twin H1.out.2.1) HML.out).mono ?_; intro e w2 hp
  cases hN : newG l with
  | none =>
    obtain ⟨rfl, hc2⟩ := NewPost.no hN hp
    have H2 := Lib.hid hc2
    have HN := Lib.hid hN
    clear hp hc2 hN
    go_wp2_with fail
    refine (rnew (HU.out.chg0 (H1.out.2.2.trans H2.out)) HML.out).mono ?_; intro e w3 hp
    obtain ⟨rfl, hc3⟩ := RNewPost.no HN.out hp
    have H3 := Lib.hid hc3
    clear hp hc3
    go_wp2_with fail
    refine (leftFlows (H1.out.2.1.chg (H2.out.trans H3.out) (by simp)) (HU.out.chg0 (H1.out.2.2.trans (H2.out.trans H3.out))) HML.out).mono ?_; rintro e w4 ⟨rfl, hc4⟩
    have H4 := Lib.hid hc4
    clear hc4
    go_wp2_with fail
    refine (lives5 _).mono ?_; rintro e w5 ⟨rfl, hc5⟩
    have H5 := Lib.hid hc5
    clear hc5
    go_wp2
    go_ret
    exact ⟨rfl, H1.out.2.2.trans (H2.out.trans (H3.out.trans (H4.out.trans H5.out)))⟩
  | some C =>
    obtain ⟨b, hb, rfl, hG, hc2⟩ := NewPost.yes hN hp
    have H2 := Lib.hid (And.intro hb (And.intro hG hc2))
    have HN := Lib.hid hN
    clear hp hb hG hc2 hN
    go_wp2_with fail
    refine (rnew (HU.out.chg0 (H1.out.2.2.trans H2.out.2.2)) HML.out).mono ?_; intro e w3 hp
    obtain ⟨mb, v0, hmb, rfl, hM, hv0, hc3⟩ := RNewPost.yes HN.out hp
    have H3 := Lib.hid (And.intro hmb (And.intro hM (And.intro hv0 hc3)))
    clear hp hc3 hmb hM hv0
    go_wp2_with fail
    refine (leftFlows (H1.out.2.1.chg (H2.out.2.2.trans H3.out.2.2.2) (by simp)) (HU.out.chg0 (H1.out.2.2.trans (H2.out.2.2.trans H3.out.2.2.2))) HML.out).mono ?_; rintro e w4 ⟨rfl, hc4⟩
    have H4 := Lib.hid hc4
    clear hc4
    -- what stands now, at w4
    have hbt4 := H1.out.2.1.chg (H2.out.2.2.trans (H3.out.2.2.2.trans H4.out)) (by simp)
    have hG4 := H2.out.2.1.chg (H3.out.2.2.2.trans H4.out) (by simp)
    have hM4 := H3.out.2.1.chg0 H4.out
    have hc4 := H1.out.2.2.trans (H2.out.2.2.trans (H3.out.2.2.2.trans H4.out))
    have hgt1 := H1.out.2.1.lt
    have hb2 := H2.out.2.1.lt
    have hs3 := H3.out.2.2.2.size
    have hgt0 := H1.out.1
    have hb0 := H2.out.1
    have hmb0 := H3.out.1
    have hv00 := H3.out.2.2.1
    have hs0 := H1.out.2.2.size
    have hs1 := H2.out.2.2.size
    have hmb4 := hM4.blk.lt
    have hb4 := hG4.lt
    have hgt4 := hbt4.lt
    have ST : Hid (w.heap.size ≤ gt ∧ gt < b ∧ b < mb ∧ mb < w4.heap.size ∧ (∀ g, v0.ownBlock = some g → b < g ∧ w.heap.size ≤ g ∧ g ≠ mb) ∧ IsG w4 b C ∧ IsM w4 mb v0 C ∧ Blk w4 gt 35 (flsCells (l ++ [⟨0, 0, -77⟩, ⟨0, 0, -77⟩])).toArray ∧ Chg [] w w4) :=
      ⟨hgt0, by omega, by omega, hmb4, fun g hg => by
        have := hv00 g hg
        exact ⟨by omega, by omega, fun e => hM4.off (by rw [hg, e])⟩, hG4, hM4, hbt4, hc4⟩
    clear hbt4 hG4 hM4 hc4 hgt1 hb2 hs3 hgt0 hb0 hmb0 hv00 hs0 hs1 hmb4 hb4 hgt4 H1 H2 H3 H4 HN HU
    go_wp2
    go_loopw [10] (fun i wr => ∃ k : Nat, k ≤ l.length ∧ i = .int .i64 k ∧ Chg [gt] w4 wr ∧ ∃ cs, Blk wr gt 35 cs ∧ cs.size = l.length * 3 + 6) (fun i _ => l.length - (intOf i).toNat)
    case atStart => exact ⟨0, Nat.zero_le _, rfl, Chg.refl _ _, _, ST.out.2.2.2.2.2.2.2.1, by simp [flsCells_length]; omega⟩
    case round =>
      obtain ⟨k, hk, rfl, hchg, cs, hbt, hcs⟩ := hrel
      by_cases hlt : k < l.length
      · have f0 := hbt.frozen (k * 3 + 2)
        obtain ⟨x, c0⟩ : ∃ x, wr.cell? ⟨gt, k * 3 + 2, none⟩ = some x := ⟨_, by rw [hbt.cell, Array.getElem?_eq_getElem (by omega)]⟩
        have hb' := hbt.set (k * 3 + 2) (.int .i64 0)
        have hc' := hchg.setCell (p := ⟨gt, k * 3 + 2, none⟩) (.inl (by simp)) (.int .i64 0)
        have FF := Lib.hid (And.intro hc' (And.intro hb' hcs))
        clear hb' hc' hcs hbt hchg
        go_wp2
        go_roundw
        case rel => exact ⟨k + 1, by omega, by go_num, FF.out.1, _, FF.out.2.1, by simpa using FF.out.2.2⟩
        case measure => simp [intOf]; omega
      · obtain rfl : k = l.length := by omega
        have hG5 := ST.out.2.2.2.2.2.1.chg hchg (by have := ST.out.2.1; simp; omega)
        have hM5 := ST.out.2.2.2.2.2.2.1.chg hchg (by have := ST.out.2.1; have := ST.out.2.2.1; simp; omega) (by
          intro g hg; have := (ST.out.2.2.2.2.1 g hg).1; have := ST.out.2.1; simp; omega)
        have hc5 := ST.out.2.2.2.2.2.2.2.2.fresh hchg (by intro x hx; simp at hx; subst hx; exact .inr ST.out.1)
        have S5 : Hid (w.heap.size ≤ b ∧ b < mb ∧ mb < wr.heap.size ∧ (∀ g, v0.ownBlock = some g → b < g ∧ w.heap.size ≤ g ∧ g ≠ mb) ∧ IsG wr b C ∧ IsM wr mb v0 C ∧ Chg [] w wr) :=
          ⟨by have := ST.out.1; have := ST.out.2.1; omega, ST.out.2.2.1, hM5.blk.lt, ST.out.2.2.2.2.1, hG5, hM5, hc5⟩
        clear hG5 hM5 hc5 hchg hbt hcs ST
        go_wp2_with fail
        refine (gcopy S5.out.2.2.2.2.1).mono ?_; rintro e w6 ⟨rfl, hG6, hc6⟩
        have S6 := Lib.hid (And.intro hG6 hc6)
        clear hG6 hc6
        go_wp2_with fail
        refine (rcopy (S5.out.2.2.2.2.2.1.chg0 S6.out.2)).mono ?_; intro e w7 hp
        obtain ⟨db, u0, hdb, rfl, hD, hc7, hu0⟩ := hp
        have S7 := Lib.hid (And.intro hdb (And.intro hD (And.intro hc7 hu0)))
        clear hdb hD hc7 hu0
        obtain ⟨cb, hcb⟩ : ∃ cb : Nat, cb = wr.heap.size := ⟨_, rfl⟩
        rw [← hcb] at S6 ⊢
        have T7 : Hid (w.heap.size ≤ b ∧ b < mb ∧ mb < cb ∧ cb < db ∧ (∀ g, v0.ownBlock = some g → g ≠ b ∧ g ≠ mb ∧ w.heap.size ≤ g) ∧ (∀ g, u0.ownBlock = some g → g ≠ b ∧ g ≠ mb) ∧ IsG w7 b C ∧ IsM w7 mb v0 C ∧ IsG w7 cb C ∧ IsM w7 db u0 C ∧ Chg [] w w7) := by
          obtain ⟨a1, a2, a3, a4, a5, a6, a7⟩ := S5.out
          obtain ⟨b1, b2⟩ := S6.out
          obtain ⟨d1, d2, d3, d4⟩ := S7.out
          have hl6 := b1.lt
          refine ⟨a1, a2, by omega, by omega, fun g hg => ?_, fun g hg => ?_, (a5.chg b2 (by simp)).chg d3 (by simp), (a6.chg0 b2).chg0 d3, b1.chg d3 (by simp), d2, a7.trans (b2.trans d3)⟩
          · have := a4 g hg; exact ⟨by omega, this.2.2, this.2.1⟩
          · have := d4 g hg; exact ⟨by omega, by omega⟩
        clear S5 S6 S7 hcb
        go_wp2
        go_loopw [13] (fun i wr => ∃ (k : Nat) (D : Caps) (v : Value), k ≤ m.length ∧ i = .int .i64 k ∧ IsG wr b D ∧ IsM wr mb v D ∧ Chg [b, mb] w7 wr ∧ Hid (∀ g, v.ownBlock = some g → g ≠ b)) (fun i _ => m.length - (intOf i).toNat)
        case atStart => exact ⟨0, C, v0, Nat.zero_le _, rfl, T7.out.2.2.2.2.2.2.1, T7.out.2.2.2.2.2.2.2.1, Chg.refl _ _, fun g hg => (T7.out.2.2.2.2.1 g hg).1⟩
        case round =>
          obtain ⟨k, D, v, hk, rfl, hG, hM, hchg, hvb⟩ := hrel
          by_cases hkm : k < m.length
          · obtain ⟨g, off, cap2, hsl, hcap2, q1, q2, q3⟩ := HV.out.get hkm
            simp only [Value.slice.injEq] at hsl
            obtain ⟨rfl, -, rfl⟩ := hsl
            have hgl := block_lt_of_cell q1
            have c1 := ((T7.out.2.2.2.2.2.2.2.2.2.2.fresh hchg (by intro x hx; simp at hx; have := T7.out.1; have := T7.out.2.1; right; omega)).cell (p := ⟨g, off + k * 3, none⟩) hgl (by simp)).trans q1
            have c2 := ((T7.out.2.2.2.2.2.2.2.2.2.2.fresh hchg (by intro x hx; simp at hx; have := T7.out.1; have := T7.out.2.1; right; omega)).cell (p := ⟨g, off + k * 3 + 1, none⟩) hgl (by simp)).trans q2
            have c3 := ((T7.out.2.2.2.2.2.2.2.2.2.2.fresh hchg (by intro x hx; simp at hx; have := T7.out.1; have := T7.out.2.1; right; omega)).cell (p := ⟨g, off + k * 3 + 2, none⟩) hgl (by simp)).trans q3
            generalize m[k] = x at c1 c2 c3 q1 q2 q3
            obtain ⟨f, t, n⟩ := x
            dsimp only at c1 c2 c3
            clear q1 q2 q3 hgl
            have hGx := hG.alloc (.cells #[.int .u8 f, .int .u8 t, .int .i64 n] 35)
            have hMx := hM.chg0 ((Chg.refl [] wr).alloc (.cells #[.int .u8 f, .int .u8 t, .int .i64 n] 35))
            have hcx := hchg.alloc (.cells #[.int .u8 f, .int .u8 t, .int .i64 n] 35)
            have hbx := Blk.new wr 35 #[.int .u8 f, .int .u8 t, .int .i64 n]
            have hmx : b < wr.heap.size ∧ mb < wr.heap.size := ⟨hG.lt, hM.blk.lt⟩
            have SX := Lib.hid (And.intro hGx (And.intro hMx (And.intro hcx (And.intro hbx hmx))))
            clear hGx hMx hcx hbx hmx hG hM hchg
            go_upto_region 20 with fail
            clear c1 c2 c3
            obtain ⟨W, hW⟩ : ∃ W : World, W = wr.alloc (.cells #[.int .u8 f, .int .u8 t, .int .i64 n] 35) := ⟨_, rfl⟩
            rw [← hW] at SX ⊢
            obtain ⟨xb, hxb⟩ : ∃ xb : Nat, xb = wr.heap.size := ⟨_, rfl⟩
            rw [← hxb] at SX ⊢
            clear hW hxb
            have SP : Hid (PS w7 W b mb xb ⟨f, t, n⟩ v D D) := ⟨SX.out.1, SX.out.2.1, SX.out.2.2.1, SX.out.2.2.2.1, hvb.out, T7.out.2.1, SX.out.2.2.2.2.2⟩
            have HF : Hid (∀ C : Caps, (edgesOf C).length ≤ 1000000) := fun C => Nat.le_trans (edgesOf_len C) (by omega)
            clear SX hvb
            go_cut [133] (fun c wx => c = .bool false ∧ ∃ v', PS w7 wx b mb xb ⟨f, t, n⟩ v' (pushC D f t n) (pushC D f t n))
            case first =>
              refine wp_region_held_drew (S := (fun w' : World => w'.cell? ⟨xb, 0, none⟩ = some (.int .u8 f) ∧ w'.cell? ⟨xb, 1, none⟩ = some (.int .u8 t) ∧ w'.cell? ⟨xb, 2, none⟩ = some (.int .i64 n))) (by kernel_rfl) ?_ (fun hHeld => ?_)
              · exact SP.out.keep rfl
              refine wpAnyH_take (i := 0) (v := ?v20_0) rfl (by kernel_rfl) (by kernel_rfl) (by kernel_rfl) (fun _ _ _ h => h) (Or.inl ⟨by rfl, ?hy20_0⟩) (by assumption) ?_
              case hy20_0 =>  (intro w hSw; (try dsimp only at hSw); go_simp; try (with_reducible rfl))
              (try simp only [Act.put, List.getElem_toArray, List.getElem_cons_zero, List.setIfInBounds_toArray, List.set_cons_zero, List.set_cons_succ])
              refine wpAnyH_take (i := 1) (v := ?v20_1) rfl (by kernel_rfl) (by kernel_rfl) (by kernel_rfl) (fun _ _ _ h => h) (Or.inl ⟨by rfl, ?hy20_1⟩) (by assumption) ?_
              case hy20_1 =>  (intro w hSw; (try dsimp only at hSw); go_simp; try (with_reducible rfl))
              (try simp only [Act.put, List.getElem_toArray, List.getElem_cons_zero, List.getElem_cons_succ, List.setIfInBounds_toArray, List.set_cons_zero, List.set_cons_succ])
              refine wpAnyH_take (i := 2) (v := ?v20_2) rfl (by kernel_rfl) (by kernel_rfl) (by kernel_rfl) (fun _ _ _ h => h) (Or.inl ⟨by rfl, ?hy20_2⟩) (by assumption) ?_
              case hy20_2 =>  (intro w hSw; (try dsimp only at hSw); go_simp; try (with_reducible rfl))
              (try simp only [Act.put, List.getElem_toArray, List.getElem_cons_zero, List.getElem_cons_succ, List.setIfInBounds_toArray, List.set_cons_zero, List.set_cons_succ])
              refine wpAnyH_take (i := 3) (v := ?v20_3) rfl (by kernel_rfl) (by kernel_rfl) (by kernel_rfl) (fun _ _ _ h => h) (Or.inl ⟨by rfl, ?hy20_3⟩) (by assumption) ?_
              case hy20_3 =>  (intro w hSw; (try dsimp only at hSw); go_simp; try (with_reducible rfl))
              (try simp only [Act.put, List.getElem_toArray, List.getElem_cons_zero, List.getElem_cons_succ, List.setIfInBounds_toArray, List.set_cons_zero, List.set_cons_succ])
              refine wpAnyH_take (i := 4) (v := ?v20_4) rfl (by kernel_rfl) (by kernel_rfl) (by kernel_rfl) (fun _ _ _ h => h) (Or.inl ⟨by rfl, ?hy20_4⟩) (by assumption) ?_
              case hy20_4 =>  (intro w hSw; (try dsimp only at hSw); go_simp; try (with_reducible rfl))
              (try simp only [Act.put, List.getElem_toArray, List.getElem_cons_zero, List.getElem_cons_succ, List.setIfInBounds_toArray, List.set_cons_zero, List.set_cons_succ])
              refine wpAnyH_take (i := 5) (v := ?v20_5) rfl (by kernel_rfl) (by kernel_rfl) (by kernel_rfl) (fun _ _ _ h => h) (Or.inl ⟨by rfl, ?hy20_5⟩) (by assumption) ?_
              case hy20_5 =>  (intro w hSw; (try dsimp only at hSw); go_simp; try (with_reducible rfl))
              (try simp only [Act.put, List.getElem_toArray, List.getElem_cons_zero, List.getElem_cons_succ, List.setIfInBounds_toArray, List.set_cons_zero, List.set_cons_succ])
              refine wpAnyH_take (i := 6) (v := ?v20_6) rfl (by kernel_rfl) (by kernel_rfl) (by kernel_rfl) (fun _ _ _ h => h) (Or.inl ⟨by rfl, ?hy20_6⟩) (by assumption) ?_
              case hy20_6 =>  (intro w hSw; (try dsimp only at hSw); go_simp; try (with_reducible rfl))
              (try simp only [Act.put, List.getElem_toArray, List.getElem_cons_zero, List.getElem_cons_succ, List.setIfInBounds_toArray, List.set_cons_zero, List.set_cons_succ])
              refine wpAnyH_take (i := 8) (v := ?v20_8) rfl (by kernel_rfl) (by kernel_rfl) (by kernel_rfl) (fun _ _ _ h => h) (Or.inl ⟨by rfl, ?hy20_8⟩) (by assumption) ?_
              case hy20_8 =>  (intro w hSw; (try dsimp only at hSw); go_simp; try (with_reducible rfl))
              (try simp only [Act.put, List.getElem_toArray, List.getElem_cons_zero, List.getElem_cons_succ, List.setIfInBounds_toArray, List.set_cons_zero, List.set_cons_succ])
              refine wpAnyH_take (i := 9) (v := ?v20_9) rfl (by kernel_rfl) (by kernel_rfl) (by kernel_rfl) (fun _ _ _ h => h) (Or.inl ⟨by rfl, ?hy20_9⟩) (by assumption) ?_
              case hy20_9 =>  (intro w hSw; (try dsimp only at hSw); go_simp; try (with_reducible rfl))
              (try simp only [Act.put, List.getElem_toArray, List.getElem_cons_zero, List.getElem_cons_succ, List.setIfInBounds_toArray, List.set_cons_zero, List.set_cons_succ])
              refine wpAnyH_take (i := 10) (v := ?v20_10) rfl (by kernel_rfl) (by kernel_rfl) (by kernel_rfl) (fun _ _ _ h => h) (Or.inl ⟨by rfl, ?hy20_10⟩) (by assumption) ?_
              case hy20_10 =>  (intro w hSw; (try dsimp only at hSw); go_simp; try (with_reducible rfl))
              (try simp only [Act.put, List.getElem_toArray, List.getElem_cons_zero, List.getElem_cons_succ, List.setIfInBounds_toArray, List.set_cons_zero, List.set_cons_succ])
              refine wpAnyH_take (i := 11) (v := ?v20_11) rfl (by kernel_rfl) (by kernel_rfl) (by kernel_rfl) (fun _ _ _ h => h) (Or.inl ⟨by rfl, ?hy20_11⟩) (by assumption) ?_
              case hy20_11 =>  (intro w hSw; (try dsimp only at hSw); go_simp; try (with_reducible rfl))
              (try simp only [Act.put, List.getElem_toArray, List.getElem_cons_zero, List.getElem_cons_succ, List.setIfInBounds_toArray, List.set_cons_zero, List.set_cons_succ])
              refine wpAnyH_take (i := 12) (v := ?v20_12) rfl (by kernel_rfl) (by kernel_rfl) (by kernel_rfl) (fun _ _ _ h => h) (Or.inl ⟨by rfl, ?hy20_12⟩) (by assumption) ?_
              case hy20_12 =>  (intro w hSw; (try dsimp only at hSw); go_simp; try (with_reducible rfl))
              (try simp only [Act.put, List.getElem_toArray, List.getElem_cons_zero, List.getElem_cons_succ, List.setIfInBounds_toArray, List.set_cons_zero, List.set_cons_succ])
              refine wpAnyH_take (i := 13) (v := ?v20_13) rfl (by kernel_rfl) (by kernel_rfl) (by kernel_rfl) (fun _ _ _ h => h) (Or.inl ⟨by rfl, ?hy20_13⟩) (by assumption) ?_
              case hy20_13 =>  (intro w hSw; (try dsimp only at hSw); go_simp; try (with_reducible rfl))
              (try simp only [Act.put, List.getElem_toArray, List.getElem_cons_zero, List.getElem_cons_succ, List.setIfInBounds_toArray, List.set_cons_zero, List.set_cons_succ])
              refine wpAnyH_take (i := 14) (v := ?v20_14) rfl (by kernel_rfl) (by kernel_rfl) (by kernel_rfl) (fun _ _ _ h => h) (Or.inl ⟨by rfl, ?hy20_14⟩) (by assumption) ?_
              case hy20_14 =>  (intro w hSw; (try dsimp only at hSw); go_simp; try (with_reducible rfl))
              (try simp only [Act.put, List.getElem_toArray, List.getElem_cons_zero, List.getElem_cons_succ, List.setIfInBounds_toArray, List.set_cons_zero, List.set_cons_succ])
              refine wpAnyH_ready (rs := [7]) (by kernel_rfl) (by simp) (AllReadyH.cons rfl (fun K hK => ?_) AllReadyH.nil)
              go_simp
              (refine (gpush (b := b) (C := D) (f := f) (t := t) ?_ n rfl rfl).mono ?_; exact SP.out.g.heap rfl; rintro e wA ⟨rfl, hgA, hcA⟩; have SA := Lib.hid (SP.out.push hgA hcA rfl rfl rfl rfl); clear hgA hcA)
              (try go_wp2_with fail)
              refine hK.out _ _ ?_ (fun hHeld => ?_)
              · exact SA.out.keep rfl
              clear hK K
              (try simp only [Act.put, List.getElem_toArray, List.getElem_cons_zero, List.getElem_cons_succ, List.setIfInBounds_toArray, List.set_cons_zero, List.set_cons_succ])
              refine wpAnyH_ready (rs := [15]) (by kernel_rfl) (by simp) (AllReadyH.cons rfl (fun K hK => ?_) AllReadyH.nil)
              go_simp
              (refine (rpush (mb := mb) (v := v) (C := D) (f := f) (t := t) ?_ n rfl rfl).mono ?_; exact SA.out.m.heap rfl rfl rfl rfl; rintro e wB ⟨rfl, v1, hm1, hc1, hv1⟩; obtain ⟨a1, k1, rfl⟩ := hm1.row.shape; have SB := Lib.hid (SA.out.rpush hm1 hc1 hv1 rfl rfl rfl rfl); clear hm1 hc1 hv1)
              (try go_wp2_with fail)
              refine hK.out _ _ ?_ (fun hHeld => ?_)
              · exact SB.out.keep rfl
              clear hK K
              (try simp only [Act.put, List.getElem_toArray, List.getElem_cons_zero, List.getElem_cons_succ, List.setIfInBounds_toArray, List.set_cons_zero, List.set_cons_succ])
              refine wpAnyH_take (i := 16) (v := ?v20_16) rfl (by kernel_rfl) (by kernel_rfl) (by kernel_rfl) (fun _ _ _ h => h) (Or.inl ⟨by rfl, ?hy20_16⟩) (by assumption) ?_
              case hy20_16 =>  (intro w hSw; (try dsimp only at hSw); go_simp; try (with_reducible rfl))
              (try simp only [Act.put, List.getElem_toArray, List.getElem_cons_zero, List.getElem_cons_succ, List.setIfInBounds_toArray, List.set_cons_zero, List.set_cons_succ])
              refine wpAnyH_take (i := 17) (v := ?v20_17) rfl (by kernel_rfl) (by kernel_rfl) (by kernel_rfl) (fun _ _ _ h => h) (Or.inl ⟨by rfl, ?hy20_17⟩) (by assumption) ?_
              case hy20_17 =>  (intro w hSw; (try dsimp only at hSw); go_simp; try (with_reducible rfl))
              (try simp only [Act.put, List.getElem_toArray, List.getElem_cons_zero, List.getElem_cons_succ, List.setIfInBounds_toArray, List.set_cons_zero, List.set_cons_succ])
              refine wpAnyH_take (i := 18) (v := ?v20_18) rfl (by kernel_rfl) (by kernel_rfl) (by kernel_rfl) (fun _ _ _ h => h) (Or.inl ⟨by rfl, ?hy20_18⟩) (by assumption) ?_
              case hy20_18 =>  (intro w hSw; (try dsimp only at hSw); go_simp; try (with_reducible rfl))
              (try simp only [Act.put, List.getElem_toArray, List.getElem_cons_zero, List.getElem_cons_succ, List.setIfInBounds_toArray, List.set_cons_zero, List.set_cons_succ])
              refine wpAnyH_take (i := 19) (v := ?v20_19) rfl (by kernel_rfl) (by kernel_rfl) (by kernel_rfl) (fun _ _ _ h => h) (Or.inl ⟨by rfl, ?hy20_19⟩) (by assumption) ?_
              case hy20_19 =>  (intro w hSw; (try dsimp only at hSw); go_simp; try (with_reducible rfl))
              (try simp only [Act.put, List.getElem_toArray, List.getElem_cons_zero, List.getElem_cons_succ, List.setIfInBounds_toArray, List.set_cons_zero, List.set_cons_succ])
              refine wpAnyH_take (i := 20) (v := ?v20_20) rfl (by kernel_rfl) (by kernel_rfl) (by kernel_rfl) (fun _ _ _ h => h) (Or.inl ⟨by rfl, ?hy20_20⟩) (by assumption) ?_
              case hy20_20 =>  (intro w hSw; (try dsimp only at hSw); go_simp; try (with_reducible rfl))
              (try simp only [Act.put, List.getElem_toArray, List.getElem_cons_zero, List.getElem_cons_succ, List.setIfInBounds_toArray, List.set_cons_zero, List.set_cons_succ])
              refine wpAnyH_take (i := 21) (v := ?v20_21) rfl (by kernel_rfl) (by kernel_rfl) (by kernel_rfl) (fun _ _ _ h => h) (Or.inl ⟨by rfl, ?hy20_21⟩) (by assumption) ?_
              case hy20_21 =>  (intro w hSw; (try dsimp only at hSw); go_simp; try (with_reducible rfl))
              (try simp only [Act.put, List.getElem_toArray, List.getElem_cons_zero, List.getElem_cons_succ, List.setIfInBounds_toArray, List.set_cons_zero, List.set_cons_succ])
              refine wpAnyH_take (i := 22) (v := ?v20_22) rfl (by kernel_rfl) (by kernel_rfl) (by kernel_rfl) (fun _ _ _ h => h) (Or.inl ⟨by rfl, ?hy20_22⟩) (by assumption) ?_
              case hy20_22 =>  (intro w hSw; (try dsimp only at hSw); go_simp; try (with_reducible rfl))
              (try simp only [Act.put, List.getElem_toArray, List.getElem_cons_zero, List.getElem_cons_succ, List.setIfInBounds_toArray, List.set_cons_zero, List.set_cons_succ])
              refine wpAnyH_take (i := 24) (v := ?v20_24) rfl (by kernel_rfl) (by kernel_rfl) (by kernel_rfl) (fun _ _ _ h => h) (Or.inl ⟨by rfl, ?hy20_24⟩) (by assumption) ?_
              case hy20_24 =>  (intro w hSw; (try dsimp only at hSw); go_simp; try (with_reducible rfl))
              (try simp only [Act.put, List.getElem_toArray, List.getElem_cons_zero, List.getElem_cons_succ, List.setIfInBounds_toArray, List.set_cons_zero, List.set_cons_succ])
              refine wpAnyH_take (i := 25) (v := ?v20_25) rfl (by kernel_rfl) (by kernel_rfl) (by kernel_rfl) (fun _ _ _ h => h) (Or.inl ⟨by rfl, ?hy20_25⟩) (by assumption) ?_
              case hy20_25 =>  (intro w hSw; (try dsimp only at hSw); go_simp; try (with_reducible rfl))
              (try simp only [Act.put, List.getElem_toArray, List.getElem_cons_zero, List.getElem_cons_succ, List.setIfInBounds_toArray, List.set_cons_zero, List.set_cons_succ])
              refine wpAnyH_take (i := 26) (v := ?v20_26) rfl (by kernel_rfl) (by kernel_rfl) (by kernel_rfl) (fun _ _ _ h => h) (Or.inl ⟨by rfl, ?hy20_26⟩) (by assumption) ?_
              case hy20_26 =>  (intro w hSw; (try dsimp only at hSw); go_simp; try (with_reducible rfl))
              (try simp only [Act.put, List.getElem_toArray, List.getElem_cons_zero, List.getElem_cons_succ, List.setIfInBounds_toArray, List.set_cons_zero, List.set_cons_succ])
              refine wpAnyH_take (i := 27) (v := ?v20_27) rfl (by kernel_rfl) (by kernel_rfl) (by kernel_rfl) (fun _ _ _ h => h) (Or.inl ⟨by rfl, ?hy20_27⟩) (by assumption) ?_
              case hy20_27 =>  (intro w hSw; (try dsimp only at hSw); go_simp; try (with_reducible rfl))
              (try simp only [Act.put, List.getElem_toArray, List.getElem_cons_zero, List.getElem_cons_succ, List.setIfInBounds_toArray, List.set_cons_zero, List.set_cons_succ])
              refine wpAnyH_take (i := 28) (v := ?v20_28) rfl (by kernel_rfl) (by kernel_rfl) (by kernel_rfl) (fun _ _ _ h => h) (Or.inl ⟨by rfl, ?hy20_28⟩) (by assumption) ?_
              case hy20_28 =>  (intro w hSw; (try dsimp only at hSw); go_simp; try (with_reducible rfl))
              (try simp only [Act.put, List.getElem_toArray, List.getElem_cons_zero, List.getElem_cons_succ, List.setIfInBounds_toArray, List.set_cons_zero, List.set_cons_succ])
              refine wpAnyH_ready (rs := [23]) (by kernel_rfl) (by simp) (AllReadyH.cons rfl (fun K hK => ?_) AllReadyH.nil)
              go_simp
              (refine (gcap (b := b) (C := pushC D f t n) ?_ rfl rfl).mono ?_; exact SB.out.g.heap rfl; rintro e w' ⟨rfl, rfl⟩)
              (try go_wp2_with fail)
              refine hK.out _ _ ?_ (fun hHeld => ?_)
              · exact SB.out.keep rfl
              clear hK K
              (try simp only [Act.put, List.getElem_toArray, List.getElem_cons_zero, List.getElem_cons_succ, List.setIfInBounds_toArray, List.set_cons_zero, List.set_cons_succ])
              refine wpAnyH_ready (rs := [29]) (by kernel_rfl) (by simp) (AllReadyH.cons rfl (fun K hK => ?_) AllReadyH.nil)
              go_simp
              (refine (rcap (mb := mb) (v := (.slice a1 (edgesOf (pushC D f t n)).length k1)) (C := pushC D f t n) ?_ rfl rfl).mono ?_; exact (SB.out.m).heap rfl rfl rfl rfl; rintro e w' ⟨rfl, rfl⟩)
              (try go_wp2_with fail)
              refine hK.out _ _ ?_ (fun hHeld => ?_)
              · exact SB.out.keep rfl
              clear hK K
              (try simp only [Act.put, List.getElem_toArray, List.getElem_cons_zero, List.getElem_cons_succ, List.setIfInBounds_toArray, List.set_cons_zero, List.set_cons_succ])
              refine wpAnyH_take (i := 30) (v := ?v20_30) rfl (by kernel_rfl) (by kernel_rfl) (by kernel_rfl) (fun _ _ _ h => h) (Or.inl ⟨by rfl, ?hy20_30⟩) (by assumption) ?_
              case hy20_30 =>  (intro w hSw; (try dsimp only at hSw); go_simp; try (with_reducible rfl))
              (try simp only [Act.put, List.getElem_toArray, List.getElem_cons_zero, List.getElem_cons_succ, List.setIfInBounds_toArray, List.set_cons_zero, List.set_cons_succ])
              refine wpAnyH_take (i := 31) (v := ?v20_31) rfl (by kernel_rfl) (by kernel_rfl) (by kernel_rfl) (fun _ _ _ h => h) (Or.inl ⟨by rfl, ?hy20_31⟩) (by assumption) ?_
              case hy20_31 =>  (intro w hSw; (try dsimp only at hSw); go_simp; try (with_reducible rfl))
              (try simp only [Act.put, List.getElem_toArray, List.getElem_cons_zero, List.getElem_cons_succ, List.setIfInBounds_toArray, List.set_cons_zero, List.set_cons_succ])
              refine wpAnyH_take (i := 32) (v := ?v20_32) rfl (by kernel_rfl) (by kernel_rfl) (by kernel_rfl) (fun _ _ _ h => h) (Or.inl ⟨by rfl, ?hy20_32⟩) (by assumption) ?_
              case hy20_32 =>  (intro w hSw; (try dsimp only at hSw); go_simp; try (with_reducible rfl))
              (try simp only [Act.put, List.getElem_toArray, List.getElem_cons_zero, List.getElem_cons_succ, List.setIfInBounds_toArray, List.set_cons_zero, List.set_cons_succ])
              refine wpAnyH_take (i := 33) (v := ?v20_33) rfl (by kernel_rfl) (by kernel_rfl) (by kernel_rfl) (fun _ _ _ h => h) (Or.inl ⟨by rfl, ?hy20_33⟩) (by assumption) ?_
              case hy20_33 =>  (intro w hSw; (try dsimp only at hSw); go_simp; try (with_reducible rfl))
              (try simp only [Act.put, List.getElem_toArray, List.getElem_cons_zero, List.getElem_cons_succ, List.setIfInBounds_toArray, List.set_cons_zero, List.set_cons_succ])
              refine wpAnyH_take (i := 34) (v := ?v20_34) rfl (by kernel_rfl) (by kernel_rfl) (by kernel_rfl) (fun _ _ _ h => h) (Or.inl ⟨by rfl, ?hy20_34⟩) (by assumption) ?_
              case hy20_34 =>  (intro w hSw; (try dsimp only at hSw); go_simp; try (with_reducible rfl))
              (try simp only [Act.put, List.getElem_toArray, List.getElem_cons_zero, List.getElem_cons_succ, List.setIfInBounds_toArray, List.set_cons_zero, List.set_cons_succ])
              refine wpAnyH_take (i := 35) (v := ?v20_35) rfl (by kernel_rfl) (by kernel_rfl) (by kernel_rfl) (fun _ _ _ h => h) (Or.inl ⟨by rfl, ?hy20_35⟩) (by assumption) ?_
              case hy20_35 =>  (intro w hSw; (try dsimp only at hSw); go_simp; try (with_reducible rfl))
              (try simp only [Act.put, List.getElem_toArray, List.getElem_cons_zero, List.getElem_cons_succ, List.setIfInBounds_toArray, List.set_cons_zero, List.set_cons_succ])
              refine wpAnyH_take (i := 36) (v := ?v20_36) rfl (by kernel_rfl) (by kernel_rfl) (by kernel_rfl) (fun _ _ _ h => h) (Or.inl ⟨by rfl, ?hy20_36⟩) (by assumption) ?_
              case hy20_36 =>  (intro w hSw; (try dsimp only at hSw); go_simp; try (with_reducible rfl))
              (try simp only [Act.put, List.getElem_toArray, List.getElem_cons_zero, List.getElem_cons_succ, List.setIfInBounds_toArray, List.set_cons_zero, List.set_cons_succ])
              refine wpAnyH_take (i := 37) (v := ?v20_37) rfl (by kernel_rfl) (by kernel_rfl) (by kernel_rfl) (fun _ _ _ h => h) (Or.inl ⟨by rfl, ?hy20_37⟩) (by assumption) ?_
              case hy20_37 =>  (intro w hSw; (try dsimp only at hSw); go_simp; try (with_reducible rfl))
              (try simp only [Act.put, List.getElem_toArray, List.getElem_cons_zero, List.getElem_cons_succ, List.setIfInBounds_toArray, List.set_cons_zero, List.set_cons_succ])
              refine wpAnyH_take (i := 39) (v := ?v20_39) rfl (by kernel_rfl) (by kernel_rfl) (by kernel_rfl) (fun _ _ _ h => h) (Or.inl ⟨by rfl, ?hy20_39⟩) (by assumption) ?_
              case hy20_39 =>  (intro w hSw; (try dsimp only at hSw); go_simp; try (with_reducible rfl))
              (try simp only [Act.put, List.getElem_toArray, List.getElem_cons_zero, List.getElem_cons_succ, List.setIfInBounds_toArray, List.set_cons_zero, List.set_cons_succ])
              refine wpAnyH_take (i := 40) (v := ?v20_40) rfl (by kernel_rfl) (by kernel_rfl) (by kernel_rfl) (fun _ _ _ h => h) (Or.inl ⟨by rfl, ?hy20_40⟩) (by assumption) ?_
              case hy20_40 =>  (intro w hSw; (try dsimp only at hSw); go_simp; try (with_reducible rfl))
              (try simp only [Act.put, List.getElem_toArray, List.getElem_cons_zero, List.getElem_cons_succ, List.setIfInBounds_toArray, List.set_cons_zero, List.set_cons_succ])
              refine wpAnyH_take (i := 41) (v := ?v20_41) rfl (by kernel_rfl) (by kernel_rfl) (by kernel_rfl) (fun _ _ _ h => h) (Or.inl ⟨by rfl, ?hy20_41⟩) (by assumption) ?_
              case hy20_41 =>  (intro w hSw; (try dsimp only at hSw); go_simp; try (with_reducible rfl))
              (try simp only [Act.put, List.getElem_toArray, List.getElem_cons_zero, List.getElem_cons_succ, List.setIfInBounds_toArray, List.set_cons_zero, List.set_cons_succ])
              refine wpAnyH_take (i := 42) (v := ?v20_42) rfl (by kernel_rfl) (by kernel_rfl) (by kernel_rfl) (fun _ _ _ h => h) (Or.inl ⟨by rfl, ?hy20_42⟩) (by assumption) ?_
              case hy20_42 =>  (intro w hSw; (try dsimp only at hSw); go_simp; try (with_reducible rfl))
              (try simp only [Act.put, List.getElem_toArray, List.getElem_cons_zero, List.getElem_cons_succ, List.setIfInBounds_toArray, List.set_cons_zero, List.set_cons_succ])
              refine wpAnyH_take (i := 43) (v := ?v20_43) rfl (by kernel_rfl) (by kernel_rfl) (by kernel_rfl) (fun _ _ _ h => h) (Or.inl ⟨by rfl, ?hy20_43⟩) (by assumption) ?_
              case hy20_43 =>  (intro w hSw; (try dsimp only at hSw); go_simp; try (with_reducible rfl))
              (try simp only [Act.put, List.getElem_toArray, List.getElem_cons_zero, List.getElem_cons_succ, List.setIfInBounds_toArray, List.set_cons_zero, List.set_cons_succ])
              refine wpAnyH_ready (rs := [38]) (by kernel_rfl) (by simp) (AllReadyH.cons rfl (fun K hK => ?_) AllReadyH.nil)
              go_simp
              (refine (gcap (b := b) (C := pushC D f t n) ?_ rfl rfl).mono ?_; exact SB.out.g.heap rfl; rintro e w' ⟨rfl, rfl⟩)
              (try go_wp2_with fail)
              refine hK.out _ _ ?_ (fun hHeld => ?_)
              · exact SB.out.keep rfl
              clear hK K
              (try simp only [Act.put, List.getElem_toArray, List.getElem_cons_zero, List.getElem_cons_succ, List.setIfInBounds_toArray, List.set_cons_zero, List.set_cons_succ])
              refine wpAnyH_ready (rs := [44]) (by kernel_rfl) (by simp) (AllReadyH.cons rfl (fun K hK => ?_) AllReadyH.nil)
              go_simp
              (refine (rcap (mb := mb) (v := (.slice a1 (edgesOf (pushC D f t n)).length k1)) (C := pushC D f t n) ?_ rfl rfl).mono ?_; exact (SB.out.m).heap rfl rfl rfl rfl; rintro e w' ⟨rfl, rfl⟩)
              (try go_wp2_with fail)
              refine hK.out _ _ ?_ (fun hHeld => ?_)
              · exact SB.out.keep rfl
              clear hK K
              (try simp only [Act.put, List.getElem_toArray, List.getElem_cons_zero, List.getElem_cons_succ, List.setIfInBounds_toArray, List.set_cons_zero, List.set_cons_succ])
              refine wpAnyH_take (i := 45) (v := ?v20_45) rfl (by kernel_rfl) (by kernel_rfl) (by kernel_rfl) (fun _ _ _ h => h) (Or.inl ⟨by rfl, ?hy20_45⟩) (by assumption) ?_
              case hy20_45 =>  (intro w hSw; (try dsimp only at hSw); go_simp; try (with_reducible rfl))
              (try simp only [Act.put, List.getElem_toArray, List.getElem_cons_zero, List.getElem_cons_succ, List.setIfInBounds_toArray, List.set_cons_zero, List.set_cons_succ])
              refine wpAnyH_take (i := 46) (v := ?v20_46) rfl (by kernel_rfl) (by kernel_rfl) (by kernel_rfl) (fun _ _ _ h => h) (Or.inl ⟨by rfl, ?hy20_46⟩) (by assumption) ?_
              case hy20_46 =>  (intro w hSw; (try dsimp only at hSw); go_simp; try (with_reducible rfl))
              (try simp only [Act.put, List.getElem_toArray, List.getElem_cons_zero, List.getElem_cons_succ, List.setIfInBounds_toArray, List.set_cons_zero, List.set_cons_succ])
              refine wpAnyH_take (i := 47) (v := ?v20_47) rfl (by kernel_rfl) (by kernel_rfl) (by kernel_rfl) (fun _ _ _ h => h) (Or.inl ⟨by rfl, ?hy20_47⟩) (by assumption) ?_
              case hy20_47 =>  (intro w hSw; (try dsimp only at hSw); go_simp; try (with_reducible rfl))
              (try simp only [Act.put, List.getElem_toArray, List.getElem_cons_zero, List.getElem_cons_succ, List.setIfInBounds_toArray, List.set_cons_zero, List.set_cons_succ])
              refine wpAnyH_more (S' := (fun w' : World => (w'.cell? ⟨xb, 0, none⟩ = some (.int .u8 f) ∧ w'.cell? ⟨xb, 1, none⟩ = some (.int .u8 t) ∧ w'.cell? ⟨xb, 2, none⟩ = some (.int .i64 n)) ∧ w'.cell? ⟨mb, 0, none⟩ = some (.slice a1 (edgesOf (pushC D f t n)).length k1))) (fun w' h => h.1) _ _ _ _ ?_
              clear hHeld
              have hHeld : (fun w' : World => (w'.cell? ⟨xb, 0, none⟩ = some (.int .u8 f) ∧ w'.cell? ⟨xb, 1, none⟩ = some (.int .u8 t) ∧ w'.cell? ⟨xb, 2, none⟩ = some (.int .i64 n)) ∧ w'.cell? ⟨mb, 0, none⟩ = some (.slice a1 (edgesOf (pushC D f t n)).length k1)) _ := ⟨SB.out.keep rfl, (SB.out.m.heap rfl rfl rfl rfl).blk.cell 0⟩
              refine wpAnyH_take (i := 48) (v := ?v20_48) rfl (by kernel_rfl) (by kernel_rfl) (by kernel_rfl) (fun _ _ _ h => h) (Or.inl ⟨by rfl, ?hy20_48⟩) (by assumption) ?_
              case hy20_48 =>  (intro w hSw; (try dsimp only at hSw); go_simp; try (with_reducible rfl))
              (try simp only [Act.put, List.getElem_toArray, List.getElem_cons_zero, List.getElem_cons_succ, List.setIfInBounds_toArray, List.set_cons_zero, List.set_cons_succ])
              refine wpAnyH_take (i := 50) (v := ?v20_50) rfl (by kernel_rfl) (by kernel_rfl) (by kernel_rfl) (fun _ _ _ h => h) (Or.inl ⟨by rfl, ?hy20_50⟩) (by assumption) ?_
              case hy20_50 =>  (intro w hSw; (try dsimp only at hSw); go_simp; try (with_reducible rfl))
              (try simp only [Act.put, List.getElem_toArray, List.getElem_cons_zero, List.getElem_cons_succ, List.setIfInBounds_toArray, List.set_cons_zero, List.set_cons_succ])
              refine wpAnyH_take (i := 51) (v := ?v20_51) rfl (by kernel_rfl) (by kernel_rfl) (by kernel_rfl) (fun _ _ _ h => h) (Or.inl ⟨by rfl, ?hy20_51⟩) (by assumption) ?_
              case hy20_51 =>  (intro w hSw; (try dsimp only at hSw); go_simp; try (with_reducible rfl))
              (try simp only [Act.put, List.getElem_toArray, List.getElem_cons_zero, List.getElem_cons_succ, List.setIfInBounds_toArray, List.set_cons_zero, List.set_cons_succ])
              refine wpAnyH_take (i := 52) (v := ?v20_52) rfl (by kernel_rfl) (by kernel_rfl) (by kernel_rfl) (fun _ _ _ h => h) (Or.inl ⟨by rfl, ?hy20_52⟩) (by assumption) ?_
              case hy20_52 =>  (intro w hSw; (try dsimp only at hSw); go_simp; try (with_reducible rfl))
              (try simp only [Act.put, List.getElem_toArray, List.getElem_cons_zero, List.getElem_cons_succ, List.setIfInBounds_toArray, List.set_cons_zero, List.set_cons_succ])
              refine wpAnyH_take (i := 53) (v := ?v20_53) rfl (by kernel_rfl) (by kernel_rfl) (by kernel_rfl) (fun _ _ _ h => h) (Or.inl ⟨by rfl, ?hy20_53⟩) (by assumption) ?_
              case hy20_53 =>  (intro w hSw; (try dsimp only at hSw); go_simp; try (with_reducible rfl))
              (try simp only [Act.put, List.getElem_toArray, List.getElem_cons_zero, List.getElem_cons_succ, List.setIfInBounds_toArray, List.set_cons_zero, List.set_cons_succ])
              refine wpAnyH_ready (rs := [49]) (by kernel_rfl) (by simp) (AllReadyH.cons rfl (fun K hK => ?_) AllReadyH.nil)
              go_simp
              (refine (gedges (b := b) (C := pushC D f t n) ?_).mono ?_; exact SB.out.g.heap rfl; rintro e wC ⟨⟨ev, rfl, hov⟩, hcC⟩; have hrd := hov.rd; obtain ⟨a2, k2, rfl⟩ := hrd.shape; have SC := Lib.hid (And.intro (SB.out.quiet hcC rfl rfl rfl rfl) hrd); clear hov hcC hrd)
              (try go_wp2_with fail)
              refine hK.out _ _ ?_ (fun hHeld => ?_)
              · exact ⟨SC.out.1.keep rfl, (SC.out.1.m.heap rfl rfl rfl rfl).blk.cell 0⟩
              clear hK K
              (try simp only [Act.put, List.getElem_toArray, List.getElem_cons_zero, List.getElem_cons_succ, List.setIfInBounds_toArray, List.set_cons_zero, List.set_cons_succ])
              refine wpAnyH_ready (rs := [54]) (by kernel_rfl) (by simp) (AllReadyH.cons rfl (fun K hK => ?_) AllReadyH.nil)
              go_simp
              (refine (sameFlows_yes (l := edgesOf (pushC D f t n)) ?_ ?_ (HF.out _)).mono ?_; exact SC.out.2.like rfl rfl rfl rfl; exact SC.out.1.m.row.like rfl rfl rfl rfl; rintro e wD ⟨rfl, hcD⟩; have SD := Lib.hid (SC.out.1.quiet hcD rfl rfl rfl rfl); clear hcD)
              (try go_wp2_with fail)
              refine hK.out _ _ ?_ (fun hHeld => ?_)
              · exact ⟨SD.out.keep rfl, (SD.out.m.heap rfl rfl rfl rfl).blk.cell 0⟩
              clear hK K
              (try simp only [Act.put, List.getElem_toArray, List.getElem_cons_zero, List.getElem_cons_succ, List.setIfInBounds_toArray, List.set_cons_zero, List.set_cons_succ])
              refine wpAnyH_take (i := 55) (v := ?v20_55) rfl (by kernel_rfl) (by kernel_rfl) (by kernel_rfl) (fun _ _ _ h => h) (Or.inl ⟨by rfl, ?hy20_55⟩) (by assumption) ?_
              case hy20_55 =>  (intro w hSw; (try dsimp only at hSw); go_simp; try (with_reducible rfl))
              (try simp only [Act.put, List.getElem_toArray, List.getElem_cons_zero, List.getElem_cons_succ, List.setIfInBounds_toArray, List.set_cons_zero, List.set_cons_succ])
              refine wpAnyH_take (i := 56) (v := ?v20_56) rfl (by kernel_rfl) (by kernel_rfl) (by kernel_rfl) (fun _ _ _ h => h) (Or.inl ⟨by rfl, ?hy20_56⟩) (by assumption) ?_
              case hy20_56 =>  (intro w hSw; (try dsimp only at hSw); go_simp; try (with_reducible rfl))
              (try simp only [Act.put, List.getElem_toArray, List.getElem_cons_zero, List.getElem_cons_succ, List.setIfInBounds_toArray, List.set_cons_zero, List.set_cons_succ])
              refine wpAnyH_done (by kernel_rfl) ?_ _
              go_wp2_with fail
              go_meet
              exact ⟨rfl, _, SD.out⟩
            case rest =>
              obtain ⟨rfl, v', hP⟩ := hcut
              have SR : Hid (IsG wc b (pushC D f t n) ∧ IsM wc mb v' (pushC D f t n) ∧ Chg [b, mb] w7 wc ∧ (∀ g, v'.ownBlock = some g → g ≠ b)) := ⟨hP.g, hP.m, hP.c, hP.own⟩
              clear hP
              go_wp2
              go_roundw
              case rel => exact ⟨k + 1, _, v', by omega, by go_num, SR.out⟩
              case measure => simp [intOf]; omega
          · obtain rfl : k = m.length := by omega
            have hcc := T7.out.2.2.1
            have hcd := T7.out.2.2.2.1
            have hcb := T7.out.2.1
            have hCc := T7.out.2.2.2.2.2.2.2.2.1.chg hchg (by simp; omega)
            have hDd := T7.out.2.2.2.2.2.2.2.2.2.1.chg hchg (by simp; omega) (by intro g hg; have := T7.out.2.2.2.2.2.1 g hg; simp; exact this)
            have hcw := T7.out.2.2.2.2.2.2.2.2.2.2.fresh hchg (by intro x hx; simp at hx; have := T7.out.1; right; omega)
            obtain ⟨va, vk, rfl⟩ := hM.row.shape
            obtain ⟨ua, uk, rfl⟩ := hDd.row.shape
            have KG : Hid (∀ W, Chg [] wr W → IsG W b D ∧ IsM W mb (.slice va (edgesOf D).length vk) D ∧ IsG W cb C ∧ IsM W db (.slice ua (edgesOf C).length uk) C) := fun W hW => ⟨hG.chg hW (by simp), hM.chg0 hW, hCc.chg hW (by simp), hDd.chg0 hW⟩
            have K0 : Hid (Chg [] wr wr) := Chg.refl _ _
            have HF : Hid (∀ C : Caps, (edgesOf C).length ≤ 1000000) := fun C => Nat.le_trans (edgesOf_len C) (by omega)
            obtain ⟨q, hq⟩ : ∃ q, q = decide (edgesOf D = edgesOf C) := ⟨_, rfl⟩
            have GS : Hid (∀ W, IsG W b D → IsG W cb C → Calls Try.prog 23 #[.pointer (some ⟨b, 0, none⟩), .pointer (some ⟨cb, 0, none⟩)] W fun e w' => e = .returned (.bool q) ∧ Chg [] W w') := fun W h1 h2 => by
              have := gsame h1 h2
              rwa [capsEq_edges h1.good.nonneg h2.good.nonneg, ← hq] at this
            have SF : Hid (∀ W, RdFl W (.slice va (edgesOf D).length vk) (edgesOf D) → RdFl W (.slice ua (edgesOf C).length uk) (edgesOf C) → Calls Try.prog 21 #[.slice va (edgesOf D).length vk, .slice ua (edgesOf C).length uk] W fun e w' => e = .returned (.bool q) ∧ Chg [] W w') := fun W h1 h2 => by
              have := sameFlows h1 h2 (HF.out _)
              rwa [← hq] at this
            have GC : Hid (∀ W, IsG W b D → Calls Try.prog 15 #[.pointer (some ⟨b, 0, none⟩)] W fun e w' => ∃ cc, e = .returned (.pointer (some ⟨cc, 0, none⟩)) ∧ IsG w' cc D ∧ Chg [] W w') := fun W h1 => (gcopy h1).mono fun e w' h => ⟨_, h⟩
            have GS2 : Hid (∀ W cc, IsG W b D → IsG W cc D → Calls Try.prog 23 #[.pointer (some ⟨b, 0, none⟩), .pointer (some ⟨cc, 0, none⟩)] W fun e w' => e = .returned (.bool true) ∧ Chg [] W w') := fun W cc h1 h2 => by
              have := gsame h1 h2
              rwa [capsEq_refl] at this
            have HW := Lib.hid hcw
            clear hG hM hchg hCc hDd hcw hcc hcd hcb hq hvb T7 HV
            go_upto_region 22 with fail
            refine wp_region_held_drew (S := (fun w' : World => w'.cell? ⟨mb, 0, none⟩ = some (.slice va (edgesOf D).length vk) ∧ w'.cell? ⟨db, 0, none⟩ = some (.slice ua (edgesOf C).length uk))) (by kernel_rfl) ?_ (fun hHeld => ?_)
            · exact ⟨((KG.out _ K0.out).2.1.heap rfl rfl rfl rfl).blk.cell 0, ((KG.out _ K0.out).2.2.2.heap rfl rfl rfl rfl).blk.cell 0⟩
            refine wpAnyH_take (i := 0) (v := ?v22_0) rfl (by kernel_rfl) (by kernel_rfl) (by kernel_rfl) (fun _ _ _ h => h) (Or.inl ⟨by rfl, ?hy22_0⟩) (by assumption) ?_
            case hy22_0 =>  (intro w hSw; (try dsimp only at hSw); go_simp; try (with_reducible rfl))
            (try simp only [Act.put, List.getElem_toArray, List.getElem_cons_zero, List.setIfInBounds_toArray, List.set_cons_zero, List.set_cons_succ])
            refine wpAnyH_take (i := 1) (v := ?v22_1) rfl (by kernel_rfl) (by kernel_rfl) (by kernel_rfl) (fun _ _ _ h => h) (Or.inl ⟨by rfl, ?hy22_1⟩) (by assumption) ?_
            case hy22_1 =>  (intro w hSw; (try dsimp only at hSw); go_simp; try (with_reducible rfl))
            (try simp only [Act.put, List.getElem_toArray, List.getElem_cons_zero, List.getElem_cons_succ, List.setIfInBounds_toArray, List.set_cons_zero, List.set_cons_succ])
            refine wpAnyH_take (i := 3) (v := ?v22_3) rfl (by kernel_rfl) (by kernel_rfl) (by kernel_rfl) (fun _ _ _ h => h) (Or.inl ⟨by rfl, ?hy22_3⟩) (by assumption) ?_
            case hy22_3 =>  (intro w hSw; (try dsimp only at hSw); go_simp; try (with_reducible rfl))
            (try simp only [Act.put, List.getElem_toArray, List.getElem_cons_zero, List.getElem_cons_succ, List.setIfInBounds_toArray, List.set_cons_zero, List.set_cons_succ])
            refine wpAnyH_take (i := 4) (v := ?v22_4) rfl (by kernel_rfl) (by kernel_rfl) (by kernel_rfl) (fun _ _ _ h => h) (Or.inl ⟨by rfl, ?hy22_4⟩) (by assumption) ?_
            case hy22_4 =>  (intro w hSw; (try dsimp only at hSw); go_simp; try (with_reducible rfl))
            (try simp only [Act.put, List.getElem_toArray, List.getElem_cons_zero, List.getElem_cons_succ, List.setIfInBounds_toArray, List.set_cons_zero, List.set_cons_succ])
            refine wpAnyH_take (i := 5) (v := ?v22_5) rfl (by kernel_rfl) (by kernel_rfl) (by kernel_rfl) (fun _ _ _ h => h) (Or.inl ⟨by rfl, ?hy22_5⟩) (by assumption) ?_
            case hy22_5 =>  (intro w hSw; (try dsimp only at hSw); go_simp; try (with_reducible rfl))
            (try simp only [Act.put, List.getElem_toArray, List.getElem_cons_zero, List.getElem_cons_succ, List.setIfInBounds_toArray, List.set_cons_zero, List.set_cons_succ])
            refine wpAnyH_take (i := 6) (v := ?v22_6) rfl (by kernel_rfl) (by kernel_rfl) (by kernel_rfl) (fun _ _ _ h => h) (Or.inl ⟨by rfl, ?hy22_6⟩) (by assumption) ?_
            case hy22_6 =>  (intro w hSw; (try dsimp only at hSw); go_simp; try (with_reducible rfl))
            (try simp only [Act.put, List.getElem_toArray, List.getElem_cons_zero, List.getElem_cons_succ, List.setIfInBounds_toArray, List.set_cons_zero, List.set_cons_succ])
            refine wpAnyH_take (i := 7) (v := ?v22_7) rfl (by kernel_rfl) (by kernel_rfl) (by kernel_rfl) (fun _ _ _ h => h) (Or.inl ⟨by rfl, ?hy22_7⟩) (by assumption) ?_
            case hy22_7 =>  (intro w hSw; (try dsimp only at hSw); go_simp; try (with_reducible rfl))
            (try simp only [Act.put, List.getElem_toArray, List.getElem_cons_zero, List.getElem_cons_succ, List.setIfInBounds_toArray, List.set_cons_zero, List.set_cons_succ])
            refine wpAnyH_take (i := 8) (v := ?v22_8) rfl (by kernel_rfl) (by kernel_rfl) (by kernel_rfl) (fun _ _ _ h => h) (Or.inl ⟨by rfl, ?hy22_8⟩) (by assumption) ?_
            case hy22_8 =>  (intro w hSw; (try dsimp only at hSw); go_simp; try (with_reducible rfl))
            (try simp only [Act.put, List.getElem_toArray, List.getElem_cons_zero, List.getElem_cons_succ, List.setIfInBounds_toArray, List.set_cons_zero, List.set_cons_succ])
            refine wpAnyH_take (i := 9) (v := ?v22_9) rfl (by kernel_rfl) (by kernel_rfl) (by kernel_rfl) (fun _ _ _ h => h) (Or.inl ⟨by rfl, ?hy22_9⟩) (by assumption) ?_
            case hy22_9 =>  (intro w hSw; (try dsimp only at hSw); go_simp; try (with_reducible rfl))
            (try simp only [Act.put, List.getElem_toArray, List.getElem_cons_zero, List.getElem_cons_succ, List.setIfInBounds_toArray, List.set_cons_zero, List.set_cons_succ])
            refine wpAnyH_take (i := 10) (v := ?v22_10) rfl (by kernel_rfl) (by kernel_rfl) (by kernel_rfl) (fun _ _ _ h => h) (Or.inl ⟨by rfl, ?hy22_10⟩) (by assumption) ?_
            case hy22_10 =>  (intro w hSw; (try dsimp only at hSw); go_simp; try (with_reducible rfl))
            (try simp only [Act.put, List.getElem_toArray, List.getElem_cons_zero, List.getElem_cons_succ, List.setIfInBounds_toArray, List.set_cons_zero, List.set_cons_succ])
            refine wpAnyH_ready (rs := [2]) (by kernel_rfl) (by simp) (AllReadyH.cons rfl (fun K hK => ?_) AllReadyH.nil)
            go_simp
            (refine (GS.out _ ?_ ?_).mono ?_; exact (KG.out _ K0.out).1.heap rfl; exact (KG.out _ K0.out).2.2.1.heap rfl; rintro e wA ⟨rfl, hcA⟩; have KA := Lib.hid (K0.out.thru hcA rfl rfl rfl rfl); clear hcA)
            (try go_wp2_with fail)
            refine hK.out _ _ ?_ (fun hHeld => ?_)
            · exact ⟨((KG.out _ KA.out).2.1.heap rfl rfl rfl rfl).blk.cell 0, ((KG.out _ KA.out).2.2.2.heap rfl rfl rfl rfl).blk.cell 0⟩
            clear hK K
            (try simp only [Act.put, List.getElem_toArray, List.getElem_cons_zero, List.getElem_cons_succ, List.setIfInBounds_toArray, List.set_cons_zero, List.set_cons_succ])
            refine wpAnyH_ready (rs := [11]) (by kernel_rfl) (by simp) (AllReadyH.cons rfl (fun K hK => ?_) AllReadyH.nil)
            go_simp
            (refine (SF.out _ ?_ ?_).mono ?_; exact (KG.out _ KA.out).2.1.row.like rfl rfl rfl rfl; exact (KG.out _ KA.out).2.2.2.row.like rfl rfl rfl rfl; rintro e wB ⟨rfl, hcB⟩; have KB := Lib.hid (KA.out.thru hcB rfl rfl rfl rfl); clear hcB)
            (try go_wp2_with fail)
            refine hK.out _ _ ?_ (fun hHeld => ?_)
            · exact ⟨((KG.out _ KB.out).2.1.heap rfl rfl rfl rfl).blk.cell 0, ((KG.out _ KB.out).2.2.2.heap rfl rfl rfl rfl).blk.cell 0⟩
            clear hK K
            (try simp only [Act.put, List.getElem_toArray, List.getElem_cons_zero, List.getElem_cons_succ, List.setIfInBounds_toArray, List.set_cons_zero, List.set_cons_succ])
            refine wpAnyH_take (i := 12) (v := ?v22_12) rfl (by kernel_rfl) (by kernel_rfl) (by kernel_rfl) (fun _ _ _ h => h) (Or.inl ⟨by rfl, ?hy22_12⟩) (by assumption) ?_
            case hy22_12 =>  (intro w hSw; (try dsimp only at hSw); go_simp; try (with_reducible rfl))
            (try simp only [Act.put, List.getElem_toArray, List.getElem_cons_zero, List.getElem_cons_succ, List.setIfInBounds_toArray, List.set_cons_zero, List.set_cons_succ])
            refine wpAnyH_take (i := 13) (v := ?v22_13) rfl (by kernel_rfl) (by kernel_rfl) (by kernel_rfl) (fun _ _ _ h => h) (Or.inl ⟨by rfl, ?hy22_13⟩) (by assumption) ?_
            case hy22_13 =>  (intro w hSw; (try dsimp only at hSw); go_simp; try (with_reducible rfl))
            (try simp only [Act.put, List.getElem_toArray, List.getElem_cons_zero, List.getElem_cons_succ, List.setIfInBounds_toArray, List.set_cons_zero, List.set_cons_succ])
            refine wpAnyH_take (i := 14) (v := ?v22_14) rfl (by kernel_rfl) (by kernel_rfl) (by kernel_rfl) (fun _ _ _ h => h) (Or.inl ⟨by rfl, ?hy22_14⟩) (by assumption) ?_
            case hy22_14 =>  (intro w hSw; (try dsimp only at hSw); go_simp; try (with_reducible rfl))
            (try simp only [Act.put, List.getElem_toArray, List.getElem_cons_zero, List.getElem_cons_succ, List.setIfInBounds_toArray, List.set_cons_zero, List.set_cons_succ])
            refine wpAnyH_take (i := 15) (v := ?v22_15) rfl (by kernel_rfl) (by kernel_rfl) (by kernel_rfl) (fun _ _ _ h => h) (Or.inl ⟨by rfl, ?hy22_15⟩) (by assumption) ?_
            case hy22_15 =>  (intro w hSw; (try dsimp only at hSw); go_simp; try (with_reducible rfl))
            (try simp only [Act.put, List.getElem_toArray, List.getElem_cons_zero, List.getElem_cons_succ, List.setIfInBounds_toArray, List.set_cons_zero, List.set_cons_succ])
            refine wpAnyH_ready (rs := [16]) (by kernel_rfl) (by simp) (AllReadyH.cons rfl (fun K hK => ?_) AllReadyH.nil)
            go_simp
            (refine (GC.out _ ?_).mono ?_; exact (KG.out _ KB.out).1.heap rfl; rintro e wC ⟨cc, rfl, hgC, hcC⟩; have KC := Lib.hid (And.intro (KB.out.thru hcC rfl rfl rfl rfl) hgC); clear hcC hgC)
            (try go_wp2_with fail)
            refine hK.out _ _ ?_ (fun hHeld => ?_)
            · exact ⟨((KG.out _ KC.out.1).2.1.heap rfl rfl rfl rfl).blk.cell 0, ((KG.out _ KC.out.1).2.2.2.heap rfl rfl rfl rfl).blk.cell 0⟩
            clear hK K
            (try simp only [Act.put, List.getElem_toArray, List.getElem_cons_zero, List.getElem_cons_succ, List.setIfInBounds_toArray, List.set_cons_zero, List.set_cons_succ])
            refine wpAnyH_ready (rs := [17]) (by kernel_rfl) (by simp) (AllReadyH.cons rfl (fun K hK => ?_) AllReadyH.nil)
            go_simp
            (refine (GS2.out _ cc ?_ ?_).mono ?_; exact (KG.out _ KC.out.1).1.heap rfl; exact KC.out.2.heap rfl; rintro e wD ⟨rfl, hcD⟩; have KD := Lib.hid (KC.out.1.thru hcD rfl rfl rfl rfl); clear hcD)
            (try go_wp2_with fail)
            refine hK.out _ _ ?_ (fun hHeld => ?_)
            · exact ⟨((KG.out _ KD.out).2.1.heap rfl rfl rfl rfl).blk.cell 0, ((KG.out _ KD.out).2.2.2.heap rfl rfl rfl rfl).blk.cell 0⟩
            clear hK K
            (try simp only [Act.put, List.getElem_toArray, List.getElem_cons_zero, List.getElem_cons_succ, List.setIfInBounds_toArray, List.set_cons_zero, List.set_cons_succ])
            refine wpAnyH_take (i := 18) (v := ?v22_18) rfl (by kernel_rfl) (by kernel_rfl) (by kernel_rfl) (fun _ _ _ h => h) (Or.inl ⟨by rfl, ?hy22_18⟩) (by assumption) ?_
            case hy22_18 =>  (intro w hSw; (try dsimp only at hSw); go_simp; try (with_reducible rfl))
            (try simp only [Act.put, List.getElem_toArray, List.getElem_cons_zero, List.getElem_cons_succ, List.setIfInBounds_toArray, List.set_cons_zero, List.set_cons_succ])
            refine wpAnyH_take (i := 19) (v := ?v22_19) rfl (by kernel_rfl) (by kernel_rfl) (by kernel_rfl) (fun _ _ _ h => h) (Or.inl ⟨by rfl, ?hy22_19⟩) (by assumption) ?_
            case hy22_19 =>  (intro w hSw; (try dsimp only at hSw); go_simp; try (with_reducible rfl))
            (try simp only [Act.put, List.getElem_toArray, List.getElem_cons_zero, List.getElem_cons_succ, List.setIfInBounds_toArray, List.set_cons_zero, List.set_cons_succ])
            refine wpAnyH_take (i := 20) (v := ?v22_20) rfl (by kernel_rfl) (by kernel_rfl) (by kernel_rfl) (fun _ _ _ h => h) (Or.inl ⟨by rfl, ?hy22_20⟩) (by assumption) ?_
            case hy22_20 =>  (intro w hSw; (try dsimp only at hSw); go_simp; try (with_reducible rfl))
            (try simp only [Act.put, List.getElem_toArray, List.getElem_cons_zero, List.getElem_cons_succ, List.setIfInBounds_toArray, List.set_cons_zero, List.set_cons_succ])
            refine wpAnyH_take (i := 21) (v := ?v22_21) rfl (by kernel_rfl) (by kernel_rfl) (by kernel_rfl) (fun _ _ _ h => h) (Or.inl ⟨by rfl, ?hy22_21⟩) (by assumption) ?_
            case hy22_21 =>  (intro w hSw; (try dsimp only at hSw); go_simp; try (with_reducible rfl))
            (try simp only [Act.put, List.getElem_toArray, List.getElem_cons_zero, List.getElem_cons_succ, List.setIfInBounds_toArray, List.set_cons_zero, List.set_cons_succ])
            refine wpAnyH_take (i := 23) (v := ?v22_23) rfl (by kernel_rfl) (by kernel_rfl) (by kernel_rfl) (fun _ _ _ h => h) (Or.inl ⟨by rfl, ?hy22_23⟩) (by assumption) ?_
            case hy22_23 =>  (intro w hSw; (try dsimp only at hSw); go_simp; try (with_reducible rfl))
            (try simp only [Act.put, List.getElem_toArray, List.getElem_cons_zero, List.getElem_cons_succ, List.setIfInBounds_toArray, List.set_cons_zero, List.set_cons_succ])
            refine wpAnyH_take (i := 24) (v := ?v22_24) rfl (by kernel_rfl) (by kernel_rfl) (by kernel_rfl) (fun _ _ _ h => h) (Or.inl ⟨by rfl, ?hy22_24⟩) (by assumption) ?_
            case hy22_24 =>  (intro w hSw; (try dsimp only at hSw); go_simp; try (with_reducible rfl))
            (try simp only [Act.put, List.getElem_toArray, List.getElem_cons_zero, List.getElem_cons_succ, List.setIfInBounds_toArray, List.set_cons_zero, List.set_cons_succ])
            refine wpAnyH_take (i := 25) (v := ?v22_25) rfl (by kernel_rfl) (by kernel_rfl) (by kernel_rfl) (fun _ _ _ h => h) (Or.inl ⟨by rfl, ?hy22_25⟩) (by assumption) ?_
            case hy22_25 =>  (intro w hSw; (try dsimp only at hSw); go_simp; try (with_reducible rfl))
            (try simp only [Act.put, List.getElem_toArray, List.getElem_cons_zero, List.getElem_cons_succ, List.setIfInBounds_toArray, List.set_cons_zero, List.set_cons_succ])
            refine wpAnyH_take (i := 26) (v := ?v22_26) rfl (by kernel_rfl) (by kernel_rfl) (by kernel_rfl) (fun _ _ _ h => h) (Or.inl ⟨by rfl, ?hy22_26⟩) (by assumption) ?_
            case hy22_26 =>  (intro w hSw; (try dsimp only at hSw); go_simp; try (with_reducible rfl))
            (try simp only [Act.put, List.getElem_toArray, List.getElem_cons_zero, List.getElem_cons_succ, List.setIfInBounds_toArray, List.set_cons_zero, List.set_cons_succ])
            refine wpAnyH_ready (rs := [22]) (by kernel_rfl) (by simp) (AllReadyH.cons rfl (fun K hK => ?_) AllReadyH.nil)
            go_simp
            (refine (gedges (b := cb) (C := C) ?_).mono ?_; exact (KG.out _ KD.out).2.2.1.heap rfl; rintro e wE ⟨⟨ev, rfl, hov⟩, hcE⟩; have hrd := hov.rd; obtain ⟨a2, k2, rfl⟩ := hrd.shape; have KE := Lib.hid (And.intro (KD.out.thru hcE rfl rfl rfl rfl) hrd); clear hov hcE hrd)
            (try go_wp2_with fail)
            refine hK.out _ _ ?_ (fun hHeld => ?_)
            · exact ⟨((KG.out _ KE.out.1).2.1.heap rfl rfl rfl rfl).blk.cell 0, ((KG.out _ KE.out.1).2.2.2.heap rfl rfl rfl rfl).blk.cell 0⟩
            clear hK K
            (try simp only [Act.put, List.getElem_toArray, List.getElem_cons_zero, List.getElem_cons_succ, List.setIfInBounds_toArray, List.set_cons_zero, List.set_cons_succ])
            refine wpAnyH_ready (rs := [27]) (by kernel_rfl) (by simp) (AllReadyH.cons rfl (fun K hK => ?_) AllReadyH.nil)
            go_simp
            (refine (sameFlows_yes (l := edgesOf C) ?_ ?_ (HF.out _)).mono ?_; exact KE.out.2.like rfl rfl rfl rfl; exact (KG.out _ KE.out.1).2.2.2.row.like rfl rfl rfl rfl; rintro e wF ⟨rfl, hcF⟩; have KF := Lib.hid (KE.out.1.thru hcF rfl rfl rfl rfl); clear hcF)
            (try go_wp2_with fail)
            refine hK.out _ _ ?_ (fun hHeld => ?_)
            · exact ⟨((KG.out _ KF.out).2.1.heap rfl rfl rfl rfl).blk.cell 0, ((KG.out _ KF.out).2.2.2.heap rfl rfl rfl rfl).blk.cell 0⟩
            clear hK K
            (try simp only [Act.put, List.getElem_toArray, List.getElem_cons_zero, List.getElem_cons_succ, List.setIfInBounds_toArray, List.set_cons_zero, List.set_cons_succ])
            refine wpAnyH_take (i := 28) (v := ?v22_28) rfl (by kernel_rfl) (by kernel_rfl) (by kernel_rfl) (fun _ _ _ h => h) (Or.inl ⟨by rfl, ?hy22_28⟩) (by assumption) ?_
            case hy22_28 =>  (intro w hSw; (try dsimp only at hSw); go_simp; try (with_reducible rfl))
            (try simp only [Act.put, List.getElem_toArray, List.getElem_cons_zero, List.getElem_cons_succ, List.setIfInBounds_toArray, List.set_cons_zero, List.set_cons_succ])
            refine wpAnyH_take (i := 29) (v := ?v22_29) rfl (by kernel_rfl) (by kernel_rfl) (by kernel_rfl) (fun _ _ _ h => h) (Or.inl ⟨by rfl, ?hy22_29⟩) (by assumption) ?_
            case hy22_29 =>  (intro w hSw; (try dsimp only at hSw); go_simp; try (with_reducible rfl))
            (try simp only [Act.put, List.getElem_toArray, List.getElem_cons_zero, List.getElem_cons_succ, List.setIfInBounds_toArray, List.set_cons_zero, List.set_cons_succ])
            refine wpAnyH_done (by kernel_rfl) ?_ _
            have hk2 := KF.out.alloc (.cells #[.slice none 0 0] 46)
            have hkb := Blk.new wF 46 #[.slice none 0 0]
            clear KA KB KC KD KE GS SF GC GS2 hHeld
            go_wp2_with fail
            obtain ⟨W2, hW2⟩ : ∃ W2 : World, W2 = wF.alloc (.cells #[.slice none 0 0] 46) := ⟨_, rfl⟩
            obtain ⟨kb, hkbe⟩ : ∃ kb : Nat, kb = wF.heap.size := ⟨_, rfl⟩
            have hs2 : W2.heap.size = kb + 1 := by rw [hW2, World.size_alloc, hkbe]
            rw [← hW2] at hk2 hkb ⊢
            rw [← hkbe] at hkb ⊢
            have hkw : wr.heap.size ≤ kb := by rw [hkbe]; exact KF.out.size
            have K2 := Lib.hid (And.intro hk2 (And.intro hkb (And.intro hs2 hkw)))
            clear hk2 hkb hs2 hkw hW2 hkbe KF
            refine (gedges (b := b) (C := D) ((KG.out _ K2.out.1).1)).mono ?_
            rintro e W3 ⟨⟨e1, rfl, ho1⟩, hc3⟩
            obtain ⟨p1, hv1, hr1, hg1, hsh1⟩ := ho1.page (Nat.le_trans (edgesOf_len D) (by omega)) 1
            have B3 : IsBook W3 kb kb (.slice none 0 0) [] := ⟨K2.out.2.1.chg hc3 (by simp), World.ownsRow_nil _ _ _ _⟩
            have K3 := Lib.hid (And.intro (K2.out.1.trans hc3) (And.intro B3 (And.intro hv1 (And.intro hr1 (And.intro hg1 (And.intro hsh1 hc3.size))))))
            clear ho1 hc3 hv1 hr1 hg1 B3
            have F1 := Lib.hid (book_flows K3.out.2.1 (by simp) (by have := K2.out.2.2.1; have := K3.out.2.2.2.2.2.2; omega) (by simp [Value.ownBlock]) e1 hsh1)
            have hsl1 : ∃ a n c, e1 = .slice a n c := by
              rcases hsh1 with rfl | ⟨g, n, rfl⟩
              · exact ⟨_, _, _, rfl⟩
              · exact ⟨_, _, _, rfl⟩
            obtain ⟨x1, x2, x3, rfl⟩ := hsl1
            clear hsh1
            go_wp2_with fail
            refine F1.out.mono ?_
            rintro e W4 ⟨rfl, bv1, hB4, hc4, hbo⟩
            have K4 := Lib.hid (And.intro hB4 (And.intro hc4 hbo))
            clear hB4 hc4 hbo F1
            have hcw4 : Hid (Chg [] wr W4) := K3.out.1.fresh K4.out.2.1 (by intro x hx; simp [Value.ownBlock] at hx; subst hx; exact .inr K2.out.2.2.2)
            go_wp2_with fail
            refine (gedges (b := b) (C := D) ((KG.out _ hcw4.out).1)).mono ?_
            rintro e W5 ⟨⟨e2, rfl, ho2⟩, hc5⟩
            obtain ⟨p2, hv2, hr2, hg2, hsh2⟩ := ho2.page (Nat.le_trans (edgesOf_len D) (by omega)) 2
            have hb1 : ∀ g, bv1.ownBlock = some g → W3.heap.size ≤ g ∧ g < W4.heap.size := by
              intro g hg
              refine ⟨?_, ?_⟩
              · rcases K4.out.2.2 with h | ⟨g', h, h'⟩
                · rw [h] at hg; simp [Value.ownBlock] at hg
                · rw [h] at hg; cases hg; exact h'
              · exact (K4.out.1.own.lt g hg).2
            have B5 : IsBook W5 kb kb bv1 _ := K4.out.1.chg hc5 (by simp) (by simp)
            have K5 := Lib.hid (And.intro (hcw4.out.trans hc5) (And.intro B5 (And.intro hv2 (And.intro hr2 (And.intro hg2 (And.intro hsh2 (And.intro hc5 hb1)))))))
            clear ho2 hc5 hv2 hr2 hg2 B5 hb1
            have F2 := Lib.hid (book_flows K5.out.2.1 (by simp) (by have := K5.out.2.1.blk.lt; omega) (by intro g hg; have := K5.out.2.2.2.2.2.2.2 g hg; have := K3.out.2.2.2.2.2.2; have := K2.out.2.2.1; omega) e2 hsh2)
            have hsl2 : ∃ a n c, e2 = .slice a n c := by
              rcases hsh2 with rfl | ⟨g, n, rfl⟩
              · exact ⟨_, _, _, rfl⟩
              · exact ⟨_, _, _, rfl⟩
            obtain ⟨y1, y2, y3, rfl⟩ := hsl2
            clear hsh2
            go_wp2_with fail
            refine F2.out.mono ?_
            rintro e W6 ⟨rfl, bv2, hB6, hc6, hbo6⟩
            have K6 := Lib.hid (And.intro hB6 (And.intro hc6 hbo6))
            clear hB6 hc6 hbo6 F2
            have K7 : Hid (Chg [] wr W6) := K5.out.1.fresh K6.out.2.1 (by
              intro x hx
              have := K2.out.2.2.2
              have := K2.out.2.2.1
              have := K3.out.2.2.2.2.2.2
              have hq := K5.out.2.2.2.2.2.2.2
              simp at hx
              rcases hx with rfl | hx
              · exact .inr (by omega)
              · have := hq x hx; exact .inr (by omega))
            have AP : Hid (Calls Try.prog 25 #[.pointer (some ⟨kb, 0, none⟩)] W6.drew fun e w' => e = .returned (.bool true) ∧ Chg [] wr w') := by
              obtain ⟨a1, a2, a3, a4⟩ := K2.out
              obtain ⟨b1, b2, b3, b4, b5, b6, b7⟩ := K3.out
              obtain ⟨c1, c2, c3⟩ := K4.out
              obtain ⟨d1, d2, d3, d4, d5, d6, d7, d8⟩ := K5.out
              obtain ⟨g1, g2, g3⟩ := K6.out
              have s4 := c2.size
              have s5 := d7.size
              have r1 : p1.Ready W6.drew := p1.ready _ _ [] (p1.ready _ _ _ (p1.ready _ _ _ (p1.ready _ _ _ b4 c2 (by intro g hg; have := b5 g hg; simp [Value.ownBlock]; omega)) d7 (by simp)) g2 (by
                intro g hg; have := b5 g hg; simp
                refine ⟨by omega, fun e => ?_⟩
                have := d8 g e; omega)) (Chg.refl [] W6).drew (by simp)
              have r2 : p2.Ready W6.drew := p2.ready _ _ [] (p2.ready _ _ _ d4 g2 (by
                intro g hg; have := d5 g hg; simp
                refine ⟨by omega, fun e => ?_⟩
                have := d8 g e; omega)) (Chg.refl [] W6).drew (by simp)
              have hB : IsBook W6.drew kb kb bv2 ([p1, p2].map Page.val) := by
                have := g1.chg (Chg.refl [] W6).drew (by simp) (by simp)
                simpa [b3, d3] using this
              have ho : ∀ g, bv2.ownBlock = some g → (W3.heap.size ≤ g ∧ g < W4.heap.size) ∨ W5.heap.size ≤ g := by
                intro g hg
                rcases g3 with h | ⟨g', h, h'⟩
                · rw [h] at hg; exact .inl (d8 g hg)
                · rw [h] at hg; cases hg; exact .inr h'
              refine (book_apart hB (by simp) ?_ ?_ ?_).mono ?_
              · intro p hp g hg
                simp at hp
                rcases hp with rfl | rfl
                · have := b5 g hg
                  refine ⟨by omega, fun e => ?_⟩
                  have := ho g e; omega
                · have := d5 g hg
                  refine ⟨by omega, fun e => ?_⟩
                  have := ho g e; omega
              · simp
                intro g hg hg'
                have := b5 g hg
                have := d5 g hg'
                omega
              · intro p hp
                simp at hp
                rcases hp with rfl | rfl
                · exact r1
                · exact r2
              · rintro e w' ⟨he, hc⟩
                refine ⟨he, (K7.out.drew).fresh hc ?_⟩
                intro x hx
                simp at hx
                rcases hx with hx | hx
                · have := b5 x hx; exact .inr (by omega)
                · have := d5 x hx; exact .inr (by omega)
            clear K2 K3 K4 K5 K6 hcw4
            go_upto_region 27 with fail
            refine wp_region_held_drew (S := (fun w' : World => w'.cell? ⟨mb, 0, none⟩ = some (.slice va (edgesOf D).length vk))) (by kernel_rfl) ?_ (fun hHeld => ?_)
            · exact ((KG.out _ K7.out).2.1.heap rfl rfl rfl rfl).blk.cell 0
            refine wpAnyH_ready (rs := [0]) (by kernel_rfl) (by simp) (AllReadyH.cons rfl (fun K hK => ?_) AllReadyH.nil)
            go_simp
            (refine AP.out.mono ?_; rintro e wP ⟨rfl, hcP⟩; have KP := Lib.hid hcP; clear hcP)
            (try go_wp2_with fail)
            refine hK.out _ _ ?_ (fun hHeld => ?_)
            · exact ((KG.out _ KP.out).2.1.heap rfl rfl rfl rfl).blk.cell 0
            clear hK K
            (try simp only [Act.put, List.getElem_toArray, List.getElem_cons_zero, List.getElem_cons_succ, List.setIfInBounds_toArray, List.set_cons_zero, List.set_cons_succ])
            refine wpAnyH_take (i := 1) (v := ?v27_1) rfl (by kernel_rfl) (by kernel_rfl) (by kernel_rfl) (fun _ _ _ h => h) (Or.inl ⟨by rfl, ?hy27_1⟩) (by assumption) ?_
            case hy27_1 =>  (intro w hSw; (try dsimp only at hSw); go_simp; try (with_reducible rfl))
            (try simp only [Act.put, List.getElem_toArray, List.getElem_cons_zero, List.getElem_cons_succ, List.setIfInBounds_toArray, List.set_cons_zero, List.set_cons_succ])
            refine wpAnyH_take (i := 2) (v := ?v27_2) rfl (by kernel_rfl) (by kernel_rfl) (by kernel_rfl) (fun _ _ _ h => h) (Or.inl ⟨by rfl, ?hy27_2⟩) (by assumption) ?_
            case hy27_2 =>  (intro w hSw; (try dsimp only at hSw); go_simp; try (with_reducible rfl))
            (try simp only [Act.put, List.getElem_toArray, List.getElem_cons_zero, List.getElem_cons_succ, List.setIfInBounds_toArray, List.set_cons_zero, List.set_cons_succ])
            refine wpAnyH_take (i := 4) (v := ?v27_4) rfl (by kernel_rfl) (by kernel_rfl) (by kernel_rfl) (fun _ _ _ h => h) (Or.inl ⟨by rfl, ?hy27_4⟩) (by assumption) ?_
            case hy27_4 =>  (intro w hSw; (try dsimp only at hSw); go_simp; try (with_reducible rfl))
            (try simp only [Act.put, List.getElem_toArray, List.getElem_cons_zero, List.getElem_cons_succ, List.setIfInBounds_toArray, List.set_cons_zero, List.set_cons_succ])
            refine wpAnyH_take (i := 5) (v := ?v27_5) rfl (by kernel_rfl) (by kernel_rfl) (by kernel_rfl) (fun _ _ _ h => h) (Or.inl ⟨by rfl, ?hy27_5⟩) (by assumption) ?_
            case hy27_5 =>  (intro w hSw; (try dsimp only at hSw); go_simp; try (with_reducible rfl))
            (try simp only [Act.put, List.getElem_toArray, List.getElem_cons_zero, List.getElem_cons_succ, List.setIfInBounds_toArray, List.set_cons_zero, List.set_cons_succ])
            refine wpAnyH_take (i := 6) (v := ?v27_6) rfl (by kernel_rfl) (by kernel_rfl) (by kernel_rfl) (fun _ _ _ h => h) (Or.inl ⟨by rfl, ?hy27_6⟩) (by assumption) ?_
            case hy27_6 =>  (intro w hSw; (try dsimp only at hSw); go_simp; try (with_reducible rfl))
            (try simp only [Act.put, List.getElem_toArray, List.getElem_cons_zero, List.getElem_cons_succ, List.setIfInBounds_toArray, List.set_cons_zero, List.set_cons_succ])
            refine wpAnyH_take (i := 7) (v := ?v27_7) rfl (by kernel_rfl) (by kernel_rfl) (by kernel_rfl) (fun _ _ _ h => h) (Or.inl ⟨by rfl, ?hy27_7⟩) (by assumption) ?_
            case hy27_7 =>  (intro w hSw; (try dsimp only at hSw); go_simp; try (with_reducible rfl))
            (try simp only [Act.put, List.getElem_toArray, List.getElem_cons_zero, List.getElem_cons_succ, List.setIfInBounds_toArray, List.set_cons_zero, List.set_cons_succ])
            refine wpAnyH_ready (rs := [3]) (by kernel_rfl) (by simp) (AllReadyH.cons rfl (fun K hK => ?_) AllReadyH.nil)
            go_simp
            (refine (gedges (b := b) (C := D) ?_).mono ?_; exact (KG.out _ KP.out).1.heap rfl; rintro e wQ ⟨⟨ev, rfl, hov⟩, hcQ⟩; have hrd := hov.rd; obtain ⟨a3, k3, rfl⟩ := hrd.shape; have KQ := Lib.hid (And.intro (KP.out.thru hcQ rfl rfl rfl rfl) hrd); clear hov hcQ hrd)
            (try go_wp2_with fail)
            refine hK.out _ _ ?_ (fun hHeld => ?_)
            · exact ((KG.out _ KQ.out.1).2.1.heap rfl rfl rfl rfl).blk.cell 0
            clear hK K
            (try simp only [Act.put, List.getElem_toArray, List.getElem_cons_zero, List.getElem_cons_succ, List.setIfInBounds_toArray, List.set_cons_zero, List.set_cons_succ])
            refine wpAnyH_ready (rs := [8]) (by kernel_rfl) (by simp) (AllReadyH.cons rfl (fun K hK => ?_) AllReadyH.nil)
            go_simp
            (refine (sameFlows_yes (l := edgesOf D) ?_ ?_ (HF.out _)).mono ?_; exact KQ.out.2.like rfl rfl rfl rfl; exact (KG.out _ KQ.out.1).2.1.row.like rfl rfl rfl rfl; rintro e wR ⟨rfl, hcR⟩; have KR := Lib.hid (KQ.out.1.thru hcR rfl rfl rfl rfl); clear hcR)
            (try go_wp2_with fail)
            refine hK.out _ _ ?_ (fun hHeld => ?_)
            · exact ((KG.out _ KR.out).2.1.heap rfl rfl rfl rfl).blk.cell 0
            clear hK K
            (try simp only [Act.put, List.getElem_toArray, List.getElem_cons_zero, List.getElem_cons_succ, List.setIfInBounds_toArray, List.set_cons_zero, List.set_cons_succ])
            refine wpAnyH_take (i := 9) (v := ?v27_9) rfl (by kernel_rfl) (by kernel_rfl) (by kernel_rfl) (fun _ _ _ h => h) (Or.inl ⟨by rfl, ?hy27_9⟩) (by assumption) ?_
            case hy27_9 =>  (intro w hSw; (try dsimp only at hSw); go_simp; try (with_reducible rfl))
            (try simp only [Act.put, List.getElem_toArray, List.getElem_cons_zero, List.getElem_cons_succ, List.setIfInBounds_toArray, List.set_cons_zero, List.set_cons_succ])
            refine wpAnyH_take (i := 10) (v := ?v27_10) rfl (by kernel_rfl) (by kernel_rfl) (by kernel_rfl) (fun _ _ _ h => h) (Or.inl ⟨by rfl, ?hy27_10⟩) (by assumption) ?_
            case hy27_10 =>  (intro w hSw; (try dsimp only at hSw); go_simp; try (with_reducible rfl))
            (try simp only [Act.put, List.getElem_toArray, List.getElem_cons_zero, List.getElem_cons_succ, List.setIfInBounds_toArray, List.set_cons_zero, List.set_cons_succ])
            refine wpAnyH_ready (rs := [11]) (by kernel_rfl) (by simp) (AllReadyH.cons rfl (fun K hK => ?_) AllReadyH.nil)
            go_simp
            (refine (lives5 _).mono ?_; rintro e wS ⟨rfl, hcS⟩; have KS := Lib.hid (KR.out.thru hcS rfl rfl rfl rfl); clear hcS)
            (try go_wp2_with fail)
            refine hK.out _ _ ?_ (fun hHeld => ?_)
            · exact ((KG.out _ KS.out).2.1.heap rfl rfl rfl rfl).blk.cell 0
            clear hK K
            (try simp only [Act.put, List.getElem_toArray, List.getElem_cons_zero, List.getElem_cons_succ, List.setIfInBounds_toArray, List.set_cons_zero, List.set_cons_succ])
            refine wpAnyH_take (i := 12) (v := ?v27_12) rfl (by kernel_rfl) (by kernel_rfl) (by kernel_rfl) (fun _ _ _ h => h) (Or.inl ⟨by rfl, ?hy27_12⟩) (by assumption) ?_
            case hy27_12 =>  (intro w hSw; (try dsimp only at hSw); go_simp; try (with_reducible rfl))
            (try simp only [Act.put, List.getElem_toArray, List.getElem_cons_zero, List.getElem_cons_succ, List.setIfInBounds_toArray, List.set_cons_zero, List.set_cons_succ])
            refine wpAnyH_take (i := 13) (v := ?v27_13) rfl (by kernel_rfl) (by kernel_rfl) (by kernel_rfl) (fun _ _ _ h => h) (Or.inl ⟨by rfl, ?hy27_13⟩) (by assumption) ?_
            case hy27_13 =>  (intro w hSw; (try dsimp only at hSw); go_simp; try (with_reducible rfl))
            (try simp only [Act.put, List.getElem_toArray, List.getElem_cons_zero, List.getElem_cons_succ, List.setIfInBounds_toArray, List.set_cons_zero, List.set_cons_succ])
            refine wpAnyH_done (by kernel_rfl) ?_ _
            go_wp2
            go_ret
            exact ⟨rfl, HW.out.trans KS.out⟩
end Go.Proofs.Ytfpdkeokdojejaa
