/-
  The law GraphsLedger, walked.
-/
import Derived.Test.YtfpdkeokdojejaaLMade
import Derived.Test.YtfpdkeokdojejaaPlRoom
import Derived.Test.YtfpdkeokdojejaaLives5
import Derived.Deep.RegionHeld3
import Derived.Deep.DrawnRows
import Derived.Deep.DeepCutAuto
namespace Go.Proofs.Ytfpdkeokdojejaa
open Go.RowKit Go.Maps Pl
attribute [local go_sem ↓] Go.wp_at_zero Go.wp_at_succ

/-- What stands while pushes are played on a graph and on its ledger. -/
structure GI (w wr : World) (gb ob lb mb : Nat) (S : Nat → Bool) (L : List Ln) (c1 : Nat) (O D : Caps) : Prop where
  led : IsL wr lb mb S L
  g : IsG wr gb D
  o : IsG wr ob O
  oe : capsL S L c1 = O
  ch : Chg [] w wr
  ge : w.heap.size ≤ lb ∧ w.heap.size ≤ mb ∧ w.heap.size ≤ gb ∧ w.heap.size ≤ ob
  di : lb ≠ mb ∧ gb ≠ lb ∧ gb ≠ mb ∧ ob ≠ gb ∧ ob ≠ mb
/-- The like, with the push that is played. -/
structure GX (w wr : World) (gb ob lb mb : Nat) (S : Nat → Bool) (L : List Ln) (c1 : Nat) (O D : Caps) (xb f t : Nat) (n : Int) : Prop where
  gi : GI w wr gb ob lb mb S L c1 O D
  x : Blk wr xb 35 #[.int .u8 f, .int .u8 t, .int .i64 n]
  xn : xb ≠ gb ∧ xb ≠ mb ∧ xb ≠ lb ∧ xb ≠ ob ∧ w.heap.size ≤ xb
section
variable {w wr w' : World} {gb ob lb mb xb f t c1 : Nat} {S : Nat → Bool} {L L' : List Ln} {O D D' : Caps} {n : Int}
theorem GI.chg0 (h : GI w wr gb ob lb mb S L c1 O D) (k : Chg [] wr w') : GI w w' gb ob lb mb S L c1 O D :=
  ⟨h.led.chg0 k, h.g.chg k (by simp), h.o.chg k (by simp), h.oe, h.ch.trans k, h.ge, h.di⟩
theorem GX.chg0 (h : GX w wr gb ob lb mb S L c1 O D xb f t n) (k : Chg [] wr w') : GX w w' gb ob lb mb S L c1 O D xb f t n :=
  ⟨h.gi.chg0 k, h.x.chg k (by simp), h.xn⟩
theorem GX.gpush (h : GX w wr gb ob lb mb S L c1 O D xb f t n) (hg : IsG w' gb D') (k : Chg [gb] wr w') : GX w w' gb ob lb mb S L c1 O D' xb f t n := by
  obtain ⟨d1, d2, d3, d4, d5⟩ := h.gi.di
  obtain ⟨x1, x2, x3, x4, x5⟩ := h.xn
  exact ⟨⟨h.gi.led.chg k (by simpa using d2.symm) (by simpa using d3.symm), hg, h.gi.o.chg k (by simpa using d4), h.gi.oe, h.gi.ch.fresh k (by intro b hb; simp at hb; subst hb; exact .inr h.gi.ge.2.2.1), h.gi.ge, h.gi.di⟩, h.x.chg k (by simpa using x1), h.xn⟩
theorem GX.lpush (h : GX w wr gb ob lb mb S L c1 O D xb f t n) (hl : IsL w' lb mb S L') (k : Chg [mb] wr w') (oe : capsL S L' c1 = O) : GX w w' gb ob lb mb S L' c1 O D xb f t n := by
  obtain ⟨d1, d2, d3, d4, d5⟩ := h.gi.di
  obtain ⟨x1, x2, x3, x4, x5⟩ := h.xn
  exact ⟨⟨hl, h.gi.g.chg k (by simpa using d3), h.gi.o.chg k (by simpa using d5), oe, h.gi.ch.fresh k (by intro b hb; simp at hb; subst hb; exact .inr h.gi.ge.2.1), h.gi.ge, h.gi.di⟩, h.x.chg k (by simpa using x2), h.xn⟩
theorem GX.set (h : GX w wr gb ob lb mb S L c1 O D xb f t n) (n' : Int) : GX w (wr.setCell ⟨xb, 2, none⟩ (.int .i64 n')) gb ob lb mb S L c1 O D xb f t n' := by
  obtain ⟨x1, x2, x3, x4, x5⟩ := h.xn
  exact ⟨⟨⟨h.gi.led.blk.far (a := ⟨xb, 2, none⟩) x3.symm _, h.gi.led.map.far (a := ⟨xb, 2, none⟩) x2.symm _, h.gi.led.good⟩, ⟨h.gi.g.blk.far (a := ⟨xb, 2, none⟩) x1.symm _, h.gi.g.good⟩, ⟨h.gi.o.blk.far (a := ⟨xb, 2, none⟩) x4.symm _, h.gi.o.good⟩, h.gi.oe, h.gi.ch.setCell (.inr x5) _, h.gi.ge, h.gi.di⟩, h.x.set 2 _, h.xn⟩
end
theorem RdFl.at {w : World} {v : Value} {l : List Fl} (h : RdFl w v l) {k : Nat} (hk : k < l.length) : ∃ g off cap, v = .slice (some ⟨g, off, none⟩) l.length cap ∧ l.length ≤ cap ∧
    w.cell? ⟨g, off + k * 3, none⟩ = some (.int .u8 l[k].f) ∧ w.cell? ⟨g, off + k * 3 + 1, none⟩ = some (.int .u8 l[k].t) ∧ w.cell? ⟨g, off + k * 3 + 2, none⟩ = some (.int .i64 l[k].n) := by
  rcases h with ⟨rfl, _⟩ | ⟨g, off, cap, rfl, hn, hc⟩
  · simp at hk
  · exact ⟨g, off, cap, rfl, hn, hc k hk⟩
theorem RdFl.form {w : World} {v : Value} {l : List Fl} (h : RdFl w v l) : ∃ ao cap, v = .slice ao l.length cap := by
  rcases h with ⟨rfl, ao, cap, rfl, _⟩ | ⟨g, off, cap, rfl, _, _⟩
  · exact ⟨ao, cap, rfl⟩
  · exact ⟨_, cap, rfl⟩
theorem RdAct.shape {w : World} {v : Value} {l : List Deed} (h : RdAct w v l) : ∃ ao cap, v = .slice ao l.length cap := by
  rcases h with ⟨rfl, ao, cap, rfl, _⟩ | ⟨g, off, cap, rfl, _, _⟩
  · exact ⟨ao, cap, rfl⟩
  · exact ⟨_, cap, rfl⟩

set_option maxRecDepth 100000 in
set_option maxHeartbeats 8000000 in
theorem graphsLedger_walk {w : World} {va vm : Value} {l : List Deed} {m : List Fl} {c : Nat} (hl : RdAct w va l) (hc : c < 256) (hm : RdFl w vm m ∧ ∀ x ∈ m, x.f < 256 ∧ x.t < 256) :
    Calls Try.prog 8 #[va, .int .u8 c, vm] w fun e w' => e = .returned (.bool true) ∧ Chg [] w w' := by
  have HLV := Lib.hid (fun W => lives5 W)
  have HA := Lib.hid hl
  have HM := Lib.hid hm
  obtain ⟨ao, acap, rfl⟩ := hl.shape
  obtain ⟨mo, mcap, rfl⟩ := hm.1.form
  clear hl hm
  by_cases hla : 120 < l.length
  · have hla1 : (120 : Int) < l.length := by omega
    go_enter Try.func8, Try.ntmps8
    go_wp2_with fail
    refine (HLV.out _).mono ?_; rintro e w' ⟨rfl, hc⟩
    have HC := Lib.hid hc
    clear hc
    go_wp2
    go_ret
    exact ⟨rfl, HC.out⟩
  have hla1 : (l.length : Int) ≤ 120 := by omega
  by_cases hlm : 40 < m.length
  · have hlm1 : (40 : Int) < m.length := by omega
    go_enter Try.func8, Try.ntmps8
    go_wp2_with fail
    refine (HLV.out _).mono ?_; rintro e w' ⟨rfl, hc⟩
    have HC := Lib.hid hc
    clear hc
    go_wp2
    go_ret
    exact ⟨rfl, HC.out⟩
  have hlm1 : (m.length : Int) ≤ 40 := by omega
  obtain ⟨c1, hc1⟩ : ∃ c1, c1 = (c + 1) % 256 := ⟨_, rfl⟩
  have hcw : IntKind.u8.wrap ((c : Int) + 1) = (c1 : Int) := by rw [IntKind.wrap_u8, hc1]; omega
  have HC1 : Hid (c1 ≠ c) := Lib.hid (by omega)
  have hc256 : c1 < 256 := by omega
  clear hc1
  go_enter Try.func8, Try.ntmps8
  go_wp2_with fail
  refine (lmade HA.out (by omega)).mono ?_
  rintro e w1 ⟨lb, mb, rfl, hled⟩
  obtain ⟨g1, g2, ⟨S, L, hI⟩, hch⟩ := hled
  have H1 := Lib.hid (And.intro g1 (And.intro g2 (And.intro hI hch)))
  clear g1 g2 hI hch HA
  go_wp2_with fail
  refine (gof H1.out.2.2.1 hc).mono ?_
  rintro e w2 ⟨gb, hgb, rfl, hg, hch⟩
  have H2 := Lib.hid (And.intro hgb (And.intro hg hch))
  clear hgb hg hch
  go_wp2_with fail
  refine (gof (H1.out.2.2.1.chg0 H2.out.2.2) hc256).mono ?_
  rintro e w3 ⟨ob, hob, rfl, hg, hch⟩
  have HK0 : Hid (GI w w3 gb ob lb mb S L c1 (capsL S L c1) (capsL S L c)) := Lib.hid (by
    obtain ⟨a1, a2, a3, a4⟩ := H1.out
    obtain ⟨b1, b2, b3⟩ := H2.out
    have s1 := a4.size
    have s2 := b3.size
    have l1 := a3.blk.lt
    have l2 := a3.map.lt
    have l3 := b2.lt
    exact ⟨(a3.chg0 b3).chg0 hch, b2.chg hch (by simp), hg, rfl, (a4.trans b3).trans hch, ⟨a1, a2, by omega, by omega⟩, ⟨a3.ne, by omega, by omega, by omega, by omega⟩⟩)
  clear hob hg hch H1 H2
  have hu := hc
  go_wp2
  obtain ⟨O, hO⟩ : ∃ O, O = capsL S L c1 := ⟨_, rfl⟩
  rw [← hO] at HK0
  clear hO
  go_loopw [10] (fun i wr => ∃ (k : Nat) (L : List Ln), k ≤ m.length ∧ i = .int .i64 k ∧ Hid (GI w wr gb ob lb mb S L c1 O (capsL S L c))) (fun i _ => m.length - (intOf i).toNat)
  case atStart => exact ⟨0, L, by omega, rfl, HK0⟩
  case round =>
    clear HK0
    obtain ⟨k, L, hk, rfl, HK⟩ := hrel
    by_cases hlt : k < m.length
    · obtain ⟨g, off, cap2, hsl, hcap2, q1, q2, q3⟩ := HM.out.1.at hlt
      simp only [Value.slice.injEq] at hsl
      obtain ⟨rfl, -, rfl⟩ := hsl
      have hgl := block_lt_of_cell q1
      have c1_ := (HK.out.ch.cell (p := ⟨g, off + k * 3, none⟩) hgl (by simp)).trans q1
      have c2_ := (HK.out.ch.cell (p := ⟨g, off + k * 3 + 1, none⟩) hgl (by simp)).trans q2
      have c3_ := (HK.out.ch.cell (p := ⟨g, off + k * 3 + 2, none⟩) hgl (by simp)).trans q3
      obtain ⟨hf, ht⟩ := HM.out.2 m[k] (List.getElem_mem hlt)
      generalize m[k] = x at c1_ c2_ c3_ q1 q2 q3 hf ht
      obtain ⟨f, t, n⟩ := x
      dsimp only at c1_ c2_ c3_ hf ht
      clear q1 q2 q3 hgl
      go_upto_region 10 with fail
      clear c1_ c2_ c3_
      have HX : Hid (GX w (wr.alloc (.cells #[.int .u8 f, .int .u8 t, .int .i64 n] 35)) gb ob lb mb S L c1 O (capsL S L c) wr.heap.size f t n) := Lib.hid (by
        have l1 := HK.out.led.blk.lt
        have l2 := HK.out.led.map.lt
        have l3 := HK.out.g.lt
        have l4 := HK.out.o.lt
        have l5 := HK.out.ch.size
        exact ⟨HK.out.chg0 ((Chg.refl _ _).alloc _), Blk.new _ _ _, by omega, by omega, by omega, by omega, l5⟩)
      obtain ⟨W2, hW2⟩ : ∃ W2 : World, W2 = wr.alloc (.cells #[.int .u8 f, .int .u8 t, .int .i64 n] 35) := ⟨_, rfl⟩
      rw [← hW2] at HX ⊢
      obtain ⟨xb, hxb⟩ : ∃ xb : Nat, xb = wr.heap.size := ⟨_, rfl⟩
      rw [← hxb] at HX ⊢
      clear hW2 hxb HK
      have HGL := Lib.hid HX.out.gi.led.good
      have HSO := Lib.hid HX.out.gi.led.map.sorted
      have HSM := Lib.hid HX.out.gi.led.map.small
      obtain ⟨cp, hcp⟩ : ∃ cp, cp = capsL S L c f t := ⟨_, rfl⟩
      have HCP : Hid (cp = room L f t c) := Lib.hid (hcp.trans (capsL_room HGL.out HSM.out hf ht))
      have KC2 : Hid (∀ W, IsG W gb (capsL S L c) → Calls Try.prog 19 #[.pointer (some ⟨gb, 0, none⟩), .int .u8 f, .int .u8 t] W fun e w' => e = .returned (.int .i64 cp) ∧ W = w') := Lib.hid fun W hW => by rw [hcp]; exact gcap hW rfl rfl
      have KC : Hid (∀ W, Chg [] W2 W → Calls Try.prog 19 #[.pointer (some ⟨gb, 0, none⟩), .int .u8 f, .int .u8 t] W fun e w' => e = .returned (.int .i64 cp) ∧ Chg [] W w') := Lib.hid fun W hW => (KC2.out W (HX.out.gi.g.chg hW (by simp))).mono fun e w' ⟨he, hw⟩ => ⟨he, hw ▸ Chg.refl _ _⟩
      have KR : Hid (∀ W, Chg [] W2 W → Calls Try.prog 35 #[.pointer (some ⟨lb, 0, none⟩), .int .u8 f, .int .u8 t, .int .u8 c] W fun e w' => e = .returned (.int .i64 cp) ∧ Chg [] W w') := Lib.hid fun W hW => by rw [HCP.out]; exact lroom (HX.out.gi.led.chg0 hW) hf ht hu
      have KS : Hid (∀ W, Chg [] W2 W → W.cell? ⟨xb, 0, none⟩ = some (.int .u8 f) ∧ W.cell? ⟨xb, 1, none⟩ = some (.int .u8 t) ∧ W.cell? ⟨xb, 2, none⟩ = some (.int .i64 n)) := Lib.hid fun W hW => ⟨(HX.out.x.chg hW (by simp)).cell 0, (HX.out.x.chg hW (by simp)).cell 1, (HX.out.x.chg hW (by simp)).cell 2⟩
      have KSM : Hid (∀ W b c C, IsG W b C → IsG W c C → Calls Try.prog 23 #[.pointer (some ⟨b, 0, none⟩), .pointer (some ⟨c, 0, none⟩)] W fun e w' => e = .returned (.bool true) ∧ Chg [] W w') := Lib.hid fun W b c C h1 h2 => by
        have := gsame h1 h2
        rwa [capsEq_refl] at this
      have HCC : Hid (Chg [] W2 W2.drew) := Lib.hid (Chg.refl _ _).drew
      clear hcp
      refine wp_region_held_drew (S := (fun w' : World => w'.cell? ⟨xb, 0, none⟩ = some (.int .u8 f) ∧ w'.cell? ⟨xb, 1, none⟩ = some (.int .u8 t) ∧ w'.cell? ⟨xb, 2, none⟩ = some (.int .i64 n))) (by kernel_rfl) ?_ (fun hHeld => ?_)
      · exact KS.out _ HCC.out
      refine wpAnyH_take (i := 0) (v := ?v810_0_0) rfl (by kernel_rfl) (by kernel_rfl) (by kernel_rfl) (fun _ _ _ h => h) (Or.inl ⟨by rfl, ?hy810_0_0⟩) (by assumption) ?_
      case hy810_0_0 => (intro w hSw; (try dsimp only at hSw); go_simp; try (with_reducible rfl))
      (try simp only [Act.put, List.getElem_toArray, List.getElem_cons_zero, List.setIfInBounds_toArray, List.set_cons_zero, List.set_cons_succ])
      refine wpAnyH_take (i := 1) (v := ?v810_0_1) rfl (by kernel_rfl) (by kernel_rfl) (by kernel_rfl) (fun _ _ _ h => h) (Or.inl ⟨by rfl, ?hy810_0_1⟩) (by assumption) ?_
      case hy810_0_1 => (intro w hSw; (try dsimp only at hSw); go_simp; try (with_reducible rfl))
      (try simp only [Act.put, List.getElem_toArray, List.getElem_cons_zero, List.getElem_cons_succ, List.setIfInBounds_toArray, List.set_cons_zero, List.set_cons_succ])
      refine wpAnyH_take (i := 2) (v := ?v810_0_2) rfl (by kernel_rfl) (by kernel_rfl) (by kernel_rfl) (fun _ _ _ h => h) (Or.inl ⟨by rfl, ?hy810_0_2⟩) (by assumption) ?_
      case hy810_0_2 => (intro w hSw; (try dsimp only at hSw); go_simp; try (with_reducible rfl))
      (try simp only [Act.put, List.getElem_toArray, List.getElem_cons_zero, List.getElem_cons_succ, List.setIfInBounds_toArray, List.set_cons_zero, List.set_cons_succ])
      refine wpAnyH_take (i := 3) (v := ?v810_0_3) rfl (by kernel_rfl) (by kernel_rfl) (by kernel_rfl) (fun _ _ _ h => h) (Or.inl ⟨by rfl, ?hy810_0_3⟩) (by assumption) ?_
      case hy810_0_3 => (intro w hSw; (try dsimp only at hSw); go_simp; try (with_reducible rfl))
      (try simp only [Act.put, List.getElem_toArray, List.getElem_cons_zero, List.getElem_cons_succ, List.setIfInBounds_toArray, List.set_cons_zero, List.set_cons_succ])
      refine wpAnyH_take (i := 4) (v := ?v810_0_4) rfl (by kernel_rfl) (by kernel_rfl) (by kernel_rfl) (fun _ _ _ h => h) (Or.inl ⟨by rfl, ?hy810_0_4⟩) (by assumption) ?_
      case hy810_0_4 => (intro w hSw; (try dsimp only at hSw); go_simp; try (with_reducible rfl))
      (try simp only [Act.put, List.getElem_toArray, List.getElem_cons_zero, List.getElem_cons_succ, List.setIfInBounds_toArray, List.set_cons_zero, List.set_cons_succ])
      refine wpAnyH_take (i := 6) (v := ?v810_0_6) rfl (by kernel_rfl) (by kernel_rfl) (by kernel_rfl) (fun _ _ _ h => h) (Or.inl ⟨by rfl, ?hy810_0_6⟩) (by assumption) ?_
      case hy810_0_6 => (intro w hSw; (try dsimp only at hSw); go_simp; try (with_reducible rfl))
      (try simp only [Act.put, List.getElem_toArray, List.getElem_cons_zero, List.getElem_cons_succ, List.setIfInBounds_toArray, List.set_cons_zero, List.set_cons_succ])
      refine wpAnyH_take (i := 7) (v := ?v810_0_7) rfl (by kernel_rfl) (by kernel_rfl) (by kernel_rfl) (fun _ _ _ h => h) (Or.inl ⟨by rfl, ?hy810_0_7⟩) (by assumption) ?_
      case hy810_0_7 => (intro w hSw; (try dsimp only at hSw); go_simp; try (with_reducible rfl))
      (try simp only [Act.put, List.getElem_toArray, List.getElem_cons_zero, List.getElem_cons_succ, List.setIfInBounds_toArray, List.set_cons_zero, List.set_cons_succ])
      refine wpAnyH_take (i := 8) (v := ?v810_0_8) rfl (by kernel_rfl) (by kernel_rfl) (by kernel_rfl) (fun _ _ _ h => h) (Or.inl ⟨by rfl, ?hy810_0_8⟩) (by assumption) ?_
      case hy810_0_8 => (intro w hSw; (try dsimp only at hSw); go_simp; try (with_reducible rfl))
      (try simp only [Act.put, List.getElem_toArray, List.getElem_cons_zero, List.getElem_cons_succ, List.setIfInBounds_toArray, List.set_cons_zero, List.set_cons_succ])
      refine wpAnyH_take (i := 9) (v := ?v810_0_9) rfl (by kernel_rfl) (by kernel_rfl) (by kernel_rfl) (fun _ _ _ h => h) (Or.inl ⟨by rfl, ?hy810_0_9⟩) (by assumption) ?_
      case hy810_0_9 => (intro w hSw; (try dsimp only at hSw); go_simp; try (with_reducible rfl))
      (try simp only [Act.put, List.getElem_toArray, List.getElem_cons_zero, List.getElem_cons_succ, List.setIfInBounds_toArray, List.set_cons_zero, List.set_cons_succ])
      refine wpAnyH_take (i := 10) (v := ?v810_0_10) rfl (by kernel_rfl) (by kernel_rfl) (by kernel_rfl) (fun _ _ _ h => h) (Or.inl ⟨by rfl, ?hy810_0_10⟩) (by assumption) ?_
      case hy810_0_10 => (intro w hSw; (try dsimp only at hSw); go_simp; try (with_reducible rfl))
      (try simp only [Act.put, List.getElem_toArray, List.getElem_cons_zero, List.getElem_cons_succ, List.setIfInBounds_toArray, List.set_cons_zero, List.set_cons_succ])
      refine wpAnyH_take (i := 11) (v := ?v810_0_11) rfl (by kernel_rfl) (by kernel_rfl) (by kernel_rfl) (fun _ _ _ h => h) (Or.inl ⟨by rfl, ?hy810_0_11⟩) (by assumption) ?_
      case hy810_0_11 => (intro w hSw; (try dsimp only at hSw); go_simp; try (with_reducible rfl))
      (try simp only [Act.put, List.getElem_toArray, List.getElem_cons_zero, List.getElem_cons_succ, List.setIfInBounds_toArray, List.set_cons_zero, List.set_cons_succ])
      refine wpAnyH_ready (rs := [5]) (by kernel_rfl) (by simp) (AllReadyH.cons rfl (fun K hK => ?_) AllReadyH.nil)
      go_simp
      (refine (KC.out _ HCC.out).mono ?_; rintro e w' ⟨rfl, hc⟩; have HCC := Lib.hid (HCC.out.trans hc); clear hc)
      (try go_wp2_with fail)
      refine hK.out _ _ ?_ (fun hHeld => ?_)
      · exact KS.out _ HCC.out
      clear hK K
      (try simp only [Act.put, List.getElem_toArray, List.getElem_cons_zero, List.getElem_cons_succ, List.setIfInBounds_toArray, List.set_cons_zero, List.set_cons_succ])
      refine wpAnyH_ready (rs := [12]) (by kernel_rfl) (by simp) (AllReadyH.cons rfl (fun K hK => ?_) AllReadyH.nil)
      go_simp
      (refine (KR.out _ HCC.out).mono ?_; rintro e w' ⟨rfl, hc⟩; have HCC := Lib.hid (HCC.out.trans hc); clear hc)
      (try go_wp2_with fail)
      refine hK.out _ _ ?_ (fun hHeld => ?_)
      · exact KS.out _ HCC.out
      clear hK K
      (try simp only [Act.put, List.getElem_toArray, List.getElem_cons_zero, List.getElem_cons_succ, List.setIfInBounds_toArray, List.set_cons_zero, List.set_cons_succ])
      refine wpAnyH_take (i := 13) (v := ?v810_0_13) rfl (by kernel_rfl) (by kernel_rfl) (by kernel_rfl) (fun _ _ _ h => h) (Or.inl ⟨by rfl, ?hy810_0_13⟩) (by assumption) ?_
      case hy810_0_13 => (intro w hSw; (try dsimp only at hSw); go_simp; try (with_reducible rfl))
      (try simp only [Act.put, List.getElem_toArray, List.getElem_cons_zero, List.getElem_cons_succ, List.setIfInBounds_toArray, List.set_cons_zero, List.set_cons_succ])
      refine wpAnyH_done (by kernel_rfl) ?_ _
      have HX2 := Lib.hid (HX.out.chg0 HCC.out)
      clear hHeld HCC KS KR KC HX
      go_upto_if 58 with fail
      go_cut [58] (fun p wx => ∃ n2, GX w wx gb ob lb mb S L c1 O (capsL S L c) xb f t n2)
      case first =>
        have KC : Hid (∀ W, Chg [] w' W → Calls Try.prog 19 #[.pointer (some ⟨gb, 0, none⟩), .int .u8 f, .int .u8 t] W fun e w' => e = .returned (.int .i64 cp) ∧ Chg [] W w') := Lib.hid fun W hW => (KC2.out W (HX2.out.gi.g.chg hW (by simp))).mono fun e w' ⟨he, hw⟩ => ⟨he, hw ▸ Chg.refl _ _⟩
        have KS : Hid (∀ W, Chg [] w' W → W.cell? ⟨xb, 0, none⟩ = some (.int .u8 f) ∧ W.cell? ⟨xb, 1, none⟩ = some (.int .u8 t) ∧ W.cell? ⟨xb, 2, none⟩ = some (.int .i64 n)) := Lib.hid fun W hW => ⟨(HX2.out.x.chg hW (by simp)).cell 0, (HX2.out.x.chg hW (by simp)).cell 1, (HX2.out.x.chg hW (by simp)).cell 2⟩
        have KT : Hid (∀ W, Chg [] w' W → W.cell? ⟨xb, 0, none⟩ = some (.int .u8 f) ∧ W.cell? ⟨xb, 1, none⟩ = some (.int .u8 t)) := Lib.hid fun W hW => ⟨(KS.out W hW).1, (KS.out W hW).2.1⟩
        have KZ : Hid (∀ W, Chg [] w' W → W.frozen? ⟨xb, 2, none⟩ = false) := Lib.hid fun W hW => (HX2.out.x.chg hW (by simp)).frozen 2
        have KT2 : Hid (∀ W v, Chg [] w' W → (W.setCell ⟨xb, 2, none⟩ v).cell? ⟨xb, 0, none⟩ = some (.int .u8 f) ∧ (W.setCell ⟨xb, 2, none⟩ v).cell? ⟨xb, 1, none⟩ = some (.int .u8 t)) := Lib.hid fun W v hW => ⟨((HX2.out.x.chg hW (by simp)).set 2 v).cell 0, ((HX2.out.x.chg hW (by simp)).set 2 v).cell 1⟩
        have HCC : Hid (Chg [] w' w'.drew) := Lib.hid (Chg.refl _ _).drew
        go_wp2_with fail
        · by_cases hnc : n ≤ cp
          ·
            refine wp_region_held_drew (S := (fun w' : World => w'.cell? ⟨xb, 0, none⟩ = some (.int .u8 f) ∧ w'.cell? ⟨xb, 1, none⟩ = some (.int .u8 t))) (by kernel_rfl) ?_ (fun hHeld => ?_)
            · exact KT.out _ HCC.out
            refine wpAnyH_take (i := 0) (v := ?v813a_0_0) rfl (by kernel_rfl) (by kernel_rfl) (by kernel_rfl) (fun _ _ _ h => h) (Or.inl ⟨by rfl, ?hy813a_0_0⟩) (by assumption) ?_
            case hy813a_0_0 => (intro w hSw; (try dsimp only at hSw); go_simp; try (with_reducible rfl))
            (try simp only [Act.put, List.getElem_toArray, List.getElem_cons_zero, List.setIfInBounds_toArray, List.set_cons_zero, List.set_cons_succ])
            refine wpAnyH_take (i := 2) (v := ?v813a_0_2) rfl (by kernel_rfl) (by kernel_rfl) (by kernel_rfl) (fun _ _ _ h => h) (Or.inl ⟨by rfl, ?hy813a_0_2⟩) (by assumption) ?_
            case hy813a_0_2 => (intro w hSw; (try dsimp only at hSw); go_simp; try (with_reducible rfl))
            (try simp only [Act.put, List.getElem_toArray, List.getElem_cons_zero, List.getElem_cons_succ, List.setIfInBounds_toArray, List.set_cons_zero, List.set_cons_succ])
            refine wpAnyH_take (i := 3) (v := ?v813a_0_3) rfl (by kernel_rfl) (by kernel_rfl) (by kernel_rfl) (fun _ _ _ h => h) (Or.inl ⟨by rfl, ?hy813a_0_3⟩) (by assumption) ?_
            case hy813a_0_3 => (intro w hSw; (try dsimp only at hSw); go_simp; try (with_reducible rfl))
            (try simp only [Act.put, List.getElem_toArray, List.getElem_cons_zero, List.getElem_cons_succ, List.setIfInBounds_toArray, List.set_cons_zero, List.set_cons_succ])
            refine wpAnyH_take (i := 4) (v := ?v813a_0_4) rfl (by kernel_rfl) (by kernel_rfl) (by kernel_rfl) (fun _ _ _ h => h) (Or.inl ⟨by rfl, ?hy813a_0_4⟩) (by assumption) ?_
            case hy813a_0_4 => (intro w hSw; (try dsimp only at hSw); go_simp; try (with_reducible rfl))
            (try simp only [Act.put, List.getElem_toArray, List.getElem_cons_zero, List.getElem_cons_succ, List.setIfInBounds_toArray, List.set_cons_zero, List.set_cons_succ])
            refine wpAnyH_take (i := 5) (v := ?v813a_0_5) rfl (by kernel_rfl) (by kernel_rfl) (by kernel_rfl) (fun _ _ _ h => h) (Or.inl ⟨by rfl, ?hy813a_0_5⟩) (by assumption) ?_
            case hy813a_0_5 => (intro w hSw; (try dsimp only at hSw); go_simp; try (with_reducible rfl))
            (try simp only [Act.put, List.getElem_toArray, List.getElem_cons_zero, List.getElem_cons_succ, List.setIfInBounds_toArray, List.set_cons_zero, List.set_cons_succ])
            refine wpAnyH_take (i := 6) (v := ?v813a_0_6) rfl (by kernel_rfl) (by kernel_rfl) (by kernel_rfl) (fun _ _ _ h => h) (Or.inl ⟨by rfl, ?hy813a_0_6⟩) (by assumption) ?_
            case hy813a_0_6 => (intro w hSw; (try dsimp only at hSw); go_simp; try (with_reducible rfl))
            (try simp only [Act.put, List.getElem_toArray, List.getElem_cons_zero, List.getElem_cons_succ, List.setIfInBounds_toArray, List.set_cons_zero, List.set_cons_succ])
            refine wpAnyH_ready (rs := [1, 7]) (by kernel_rfl) (by simp) (AllReadyH.cons rfl (fun K hK => ?_) (AllReadyH.cons rfl (fun K hK => ?_) AllReadyH.nil))
            · have hx3 := (KS.out _ HCC.out).2.2
              go_simp
              refine hK.out _ _ ?_ (fun hHeld => ?_)
              · exact KT.out _ HCC.out
              clear hK K
              (try simp only [Act.put, List.getElem_toArray, List.getElem_cons_zero, List.getElem_cons_succ, List.setIfInBounds_toArray, List.set_cons_zero, List.set_cons_succ])
              refine wpAnyH_ready (rs := [7]) (by kernel_rfl) (by simp) (AllReadyH.cons rfl (fun K hK => ?_) AllReadyH.nil)
              go_simp
              (refine (KC.out _ HCC.out).mono ?_; rintro e w' ⟨rfl, hc⟩; have HCC := Lib.hid (HCC.out.trans hc); clear hc)
              (try go_wp2_with fail)
              refine hK.out _ _ ?_ (fun hHeld => ?_)
              · exact KT.out _ HCC.out
              clear hK K
              (try simp only [Act.put, List.getElem_toArray, List.getElem_cons_zero, List.getElem_cons_succ, List.setIfInBounds_toArray, List.set_cons_zero, List.set_cons_succ])
              refine wpAnyH_take (i := 8) (v := ?v813a_1_8) rfl (by kernel_rfl) (by kernel_rfl) (by kernel_rfl) (fun _ _ _ h => h) (Or.inl ⟨by rfl, ?hy813a_1_8⟩) (by assumption) ?_
              case hy813a_1_8 => (intro w hSw; (try dsimp only at hSw); go_simp; try (with_reducible rfl))
              (try simp only [Act.put, List.getElem_toArray, List.getElem_cons_zero, List.getElem_cons_succ, List.setIfInBounds_toArray, List.set_cons_zero, List.set_cons_succ])
              refine wpAnyH_take (i := 9) (v := ?v813a_1_9) rfl (by kernel_rfl) (by kernel_rfl) (by kernel_rfl) (fun _ _ _ h => h) (Or.inl ⟨by rfl, ?hy813a_1_9⟩) (by assumption) ?_
              case hy813a_1_9 => (intro w hSw; (try dsimp only at hSw); go_simp; try (with_reducible rfl))
              (try simp only [Act.put, List.getElem_toArray, List.getElem_cons_zero, List.getElem_cons_succ, List.setIfInBounds_toArray, List.set_cons_zero, List.set_cons_succ])
              refine wpAnyH_ready (rs := [10]) (by kernel_rfl) (by simp) (AllReadyH.cons rfl (fun K hK => ?_) AllReadyH.nil)
              have hx3 := (KS.out _ HCC.out).2.2
              have hx4 := KZ.out _ HCC.out
              go_simp
              refine hK.out _ _ ?_ (fun hHeld => ?_)
              · exact KT2.out _ _ HCC.out
              clear hK K
              (try simp only [Act.put, List.getElem_toArray, List.getElem_cons_zero, List.getElem_cons_succ, List.setIfInBounds_toArray, List.set_cons_zero, List.set_cons_succ])
              refine wpAnyH_done (by kernel_rfl) ?_ _
              go_wp2_with fail
              go_meet
              exact ⟨n, (HX2.out.chg0 HCC.out).set n⟩
            · go_simp
              (refine (KC.out _ HCC.out).mono ?_; rintro e w' ⟨rfl, hc⟩; have HCC := Lib.hid (HCC.out.trans hc); clear hc)
              (try go_wp2_with fail)
              refine hK.out _ _ ?_ (fun hHeld => ?_)
              · exact KT.out _ HCC.out
              clear hK K
              (try simp only [Act.put, List.getElem_toArray, List.getElem_cons_zero, List.getElem_cons_succ, List.setIfInBounds_toArray, List.set_cons_zero, List.set_cons_succ])
              refine wpAnyH_ready (rs := [1]) (by kernel_rfl) (by simp) (AllReadyH.cons rfl (fun K hK => ?_) AllReadyH.nil)
              have hx3 := (KS.out _ HCC.out).2.2
              go_simp
              refine hK.out _ _ ?_ (fun hHeld => ?_)
              · exact KT.out _ HCC.out
              clear hK K
              (try simp only [Act.put, List.getElem_toArray, List.getElem_cons_zero, List.getElem_cons_succ, List.setIfInBounds_toArray, List.set_cons_zero, List.set_cons_succ])
              refine wpAnyH_take (i := 8) (v := ?v813a_2_8) rfl (by kernel_rfl) (by kernel_rfl) (by kernel_rfl) (fun _ _ _ h => h) (Or.inl ⟨by rfl, ?hy813a_2_8⟩) (by assumption) ?_
              case hy813a_2_8 => (intro w hSw; (try dsimp only at hSw); go_simp; try (with_reducible rfl))
              (try simp only [Act.put, List.getElem_toArray, List.getElem_cons_zero, List.getElem_cons_succ, List.setIfInBounds_toArray, List.set_cons_zero, List.set_cons_succ])
              refine wpAnyH_take (i := 9) (v := ?v813a_2_9) rfl (by kernel_rfl) (by kernel_rfl) (by kernel_rfl) (fun _ _ _ h => h) (Or.inl ⟨by rfl, ?hy813a_2_9⟩) (by assumption) ?_
              case hy813a_2_9 => (intro w hSw; (try dsimp only at hSw); go_simp; try (with_reducible rfl))
              (try simp only [Act.put, List.getElem_toArray, List.getElem_cons_zero, List.getElem_cons_succ, List.setIfInBounds_toArray, List.set_cons_zero, List.set_cons_succ])
              refine wpAnyH_ready (rs := [10]) (by kernel_rfl) (by simp) (AllReadyH.cons rfl (fun K hK => ?_) AllReadyH.nil)
              have hx3 := (KS.out _ HCC.out).2.2
              have hx4 := KZ.out _ HCC.out
              go_simp
              refine hK.out _ _ ?_ (fun hHeld => ?_)
              · exact KT2.out _ _ HCC.out
              clear hK K
              (try simp only [Act.put, List.getElem_toArray, List.getElem_cons_zero, List.getElem_cons_succ, List.setIfInBounds_toArray, List.set_cons_zero, List.set_cons_succ])
              refine wpAnyH_done (by kernel_rfl) ?_ _
              go_wp2_with fail
              go_meet
              exact ⟨n, (HX2.out.chg0 HCC.out).set n⟩
          · have hnc2 : cp < n := by omega
            refine wp_region_held_drew (S := (fun w' : World => w'.cell? ⟨xb, 0, none⟩ = some (.int .u8 f) ∧ w'.cell? ⟨xb, 1, none⟩ = some (.int .u8 t))) (by kernel_rfl) ?_ (fun hHeld => ?_)
            · exact KT.out _ HCC.out
            refine wpAnyH_take (i := 0) (v := ?v813b_0_0) rfl (by kernel_rfl) (by kernel_rfl) (by kernel_rfl) (fun _ _ _ h => h) (Or.inl ⟨by rfl, ?hy813b_0_0⟩) (by assumption) ?_
            case hy813b_0_0 => (intro w hSw; (try dsimp only at hSw); go_simp; try (with_reducible rfl))
            (try simp only [Act.put, List.getElem_toArray, List.getElem_cons_zero, List.setIfInBounds_toArray, List.set_cons_zero, List.set_cons_succ])
            refine wpAnyH_take (i := 2) (v := ?v813b_0_2) rfl (by kernel_rfl) (by kernel_rfl) (by kernel_rfl) (fun _ _ _ h => h) (Or.inl ⟨by rfl, ?hy813b_0_2⟩) (by assumption) ?_
            case hy813b_0_2 => (intro w hSw; (try dsimp only at hSw); go_simp; try (with_reducible rfl))
            (try simp only [Act.put, List.getElem_toArray, List.getElem_cons_zero, List.getElem_cons_succ, List.setIfInBounds_toArray, List.set_cons_zero, List.set_cons_succ])
            refine wpAnyH_take (i := 3) (v := ?v813b_0_3) rfl (by kernel_rfl) (by kernel_rfl) (by kernel_rfl) (fun _ _ _ h => h) (Or.inl ⟨by rfl, ?hy813b_0_3⟩) (by assumption) ?_
            case hy813b_0_3 => (intro w hSw; (try dsimp only at hSw); go_simp; try (with_reducible rfl))
            (try simp only [Act.put, List.getElem_toArray, List.getElem_cons_zero, List.getElem_cons_succ, List.setIfInBounds_toArray, List.set_cons_zero, List.set_cons_succ])
            refine wpAnyH_take (i := 4) (v := ?v813b_0_4) rfl (by kernel_rfl) (by kernel_rfl) (by kernel_rfl) (fun _ _ _ h => h) (Or.inl ⟨by rfl, ?hy813b_0_4⟩) (by assumption) ?_
            case hy813b_0_4 => (intro w hSw; (try dsimp only at hSw); go_simp; try (with_reducible rfl))
            (try simp only [Act.put, List.getElem_toArray, List.getElem_cons_zero, List.getElem_cons_succ, List.setIfInBounds_toArray, List.set_cons_zero, List.set_cons_succ])
            refine wpAnyH_take (i := 5) (v := ?v813b_0_5) rfl (by kernel_rfl) (by kernel_rfl) (by kernel_rfl) (fun _ _ _ h => h) (Or.inl ⟨by rfl, ?hy813b_0_5⟩) (by assumption) ?_
            case hy813b_0_5 => (intro w hSw; (try dsimp only at hSw); go_simp; try (with_reducible rfl))
            (try simp only [Act.put, List.getElem_toArray, List.getElem_cons_zero, List.getElem_cons_succ, List.setIfInBounds_toArray, List.set_cons_zero, List.set_cons_succ])
            refine wpAnyH_take (i := 6) (v := ?v813b_0_6) rfl (by kernel_rfl) (by kernel_rfl) (by kernel_rfl) (fun _ _ _ h => h) (Or.inl ⟨by rfl, ?hy813b_0_6⟩) (by assumption) ?_
            case hy813b_0_6 => (intro w hSw; (try dsimp only at hSw); go_simp; try (with_reducible rfl))
            (try simp only [Act.put, List.getElem_toArray, List.getElem_cons_zero, List.getElem_cons_succ, List.setIfInBounds_toArray, List.set_cons_zero, List.set_cons_succ])
            refine wpAnyH_ready (rs := [1, 7]) (by kernel_rfl) (by simp) (AllReadyH.cons rfl (fun K hK => ?_) (AllReadyH.cons rfl (fun K hK => ?_) AllReadyH.nil))
            · have hx3 := (KS.out _ HCC.out).2.2
              go_simp
              refine hK.out _ _ ?_ (fun hHeld => ?_)
              · exact KT.out _ HCC.out
              clear hK K
              (try simp only [Act.put, List.getElem_toArray, List.getElem_cons_zero, List.getElem_cons_succ, List.setIfInBounds_toArray, List.set_cons_zero, List.set_cons_succ])
              refine wpAnyH_ready (rs := [7]) (by kernel_rfl) (by simp) (AllReadyH.cons rfl (fun K hK => ?_) AllReadyH.nil)
              go_simp
              (refine (KC.out _ HCC.out).mono ?_; rintro e w' ⟨rfl, hc⟩; have HCC := Lib.hid (HCC.out.trans hc); clear hc)
              (try go_wp2_with fail)
              refine hK.out _ _ ?_ (fun hHeld => ?_)
              · exact KT.out _ HCC.out
              clear hK K
              (try simp only [Act.put, List.getElem_toArray, List.getElem_cons_zero, List.getElem_cons_succ, List.setIfInBounds_toArray, List.set_cons_zero, List.set_cons_succ])
              refine wpAnyH_take (i := 8) (v := ?v813b_1_8) rfl (by kernel_rfl) (by kernel_rfl) (by kernel_rfl) (fun _ _ _ h => h) (Or.inl ⟨by rfl, ?hy813b_1_8⟩) (by assumption) ?_
              case hy813b_1_8 => (intro w hSw; (try dsimp only at hSw); go_simp; try (with_reducible rfl))
              (try simp only [Act.put, List.getElem_toArray, List.getElem_cons_zero, List.getElem_cons_succ, List.setIfInBounds_toArray, List.set_cons_zero, List.set_cons_succ])
              refine wpAnyH_take (i := 9) (v := ?v813b_1_9) rfl (by kernel_rfl) (by kernel_rfl) (by kernel_rfl) (fun _ _ _ h => h) (Or.inl ⟨by rfl, ?hy813b_1_9⟩) (by assumption) ?_
              case hy813b_1_9 => (intro w hSw; (try dsimp only at hSw); go_simp; try (with_reducible rfl))
              (try simp only [Act.put, List.getElem_toArray, List.getElem_cons_zero, List.getElem_cons_succ, List.setIfInBounds_toArray, List.set_cons_zero, List.set_cons_succ])
              refine wpAnyH_ready (rs := [10]) (by kernel_rfl) (by simp) (AllReadyH.cons rfl (fun K hK => ?_) AllReadyH.nil)
              have hx3 := (KS.out _ HCC.out).2.2
              have hx4 := KZ.out _ HCC.out
              go_simp
              refine hK.out _ _ ?_ (fun hHeld => ?_)
              · exact KT2.out _ _ HCC.out
              clear hK K
              (try simp only [Act.put, List.getElem_toArray, List.getElem_cons_zero, List.getElem_cons_succ, List.setIfInBounds_toArray, List.set_cons_zero, List.set_cons_succ])
              refine wpAnyH_done (by kernel_rfl) ?_ _
              go_wp2_with fail
              go_meet
              exact ⟨cp, (HX2.out.chg0 HCC.out).set cp⟩
            · go_simp
              (refine (KC.out _ HCC.out).mono ?_; rintro e w' ⟨rfl, hc⟩; have HCC := Lib.hid (HCC.out.trans hc); clear hc)
              (try go_wp2_with fail)
              refine hK.out _ _ ?_ (fun hHeld => ?_)
              · exact KT.out _ HCC.out
              clear hK K
              (try simp only [Act.put, List.getElem_toArray, List.getElem_cons_zero, List.getElem_cons_succ, List.setIfInBounds_toArray, List.set_cons_zero, List.set_cons_succ])
              refine wpAnyH_ready (rs := [1]) (by kernel_rfl) (by simp) (AllReadyH.cons rfl (fun K hK => ?_) AllReadyH.nil)
              have hx3 := (KS.out _ HCC.out).2.2
              go_simp
              refine hK.out _ _ ?_ (fun hHeld => ?_)
              · exact KT.out _ HCC.out
              clear hK K
              (try simp only [Act.put, List.getElem_toArray, List.getElem_cons_zero, List.getElem_cons_succ, List.setIfInBounds_toArray, List.set_cons_zero, List.set_cons_succ])
              refine wpAnyH_take (i := 8) (v := ?v813b_2_8) rfl (by kernel_rfl) (by kernel_rfl) (by kernel_rfl) (fun _ _ _ h => h) (Or.inl ⟨by rfl, ?hy813b_2_8⟩) (by assumption) ?_
              case hy813b_2_8 => (intro w hSw; (try dsimp only at hSw); go_simp; try (with_reducible rfl))
              (try simp only [Act.put, List.getElem_toArray, List.getElem_cons_zero, List.getElem_cons_succ, List.setIfInBounds_toArray, List.set_cons_zero, List.set_cons_succ])
              refine wpAnyH_take (i := 9) (v := ?v813b_2_9) rfl (by kernel_rfl) (by kernel_rfl) (by kernel_rfl) (fun _ _ _ h => h) (Or.inl ⟨by rfl, ?hy813b_2_9⟩) (by assumption) ?_
              case hy813b_2_9 => (intro w hSw; (try dsimp only at hSw); go_simp; try (with_reducible rfl))
              (try simp only [Act.put, List.getElem_toArray, List.getElem_cons_zero, List.getElem_cons_succ, List.setIfInBounds_toArray, List.set_cons_zero, List.set_cons_succ])
              refine wpAnyH_ready (rs := [10]) (by kernel_rfl) (by simp) (AllReadyH.cons rfl (fun K hK => ?_) AllReadyH.nil)
              have hx3 := (KS.out _ HCC.out).2.2
              have hx4 := KZ.out _ HCC.out
              go_simp
              refine hK.out _ _ ?_ (fun hHeld => ?_)
              · exact KT2.out _ _ HCC.out
              clear hK K
              (try simp only [Act.put, List.getElem_toArray, List.getElem_cons_zero, List.getElem_cons_succ, List.setIfInBounds_toArray, List.set_cons_zero, List.set_cons_succ])
              refine wpAnyH_done (by kernel_rfl) ?_ _
              go_wp2_with fail
              go_meet
              exact ⟨cp, (HX2.out.chg0 HCC.out).set cp⟩
        · go_meet
          exact ⟨n, HX2.out⟩
      case rest =>
        obtain ⟨n2, hx⟩ := hcut
        have HX := Lib.hid hx
        clear hx HX2
        have hb0 := HX.out.x.cell 0
        have hb1 := HX.out.x.cell 1
        have hb2 := HX.out.x.cell 2
        by_cases h1 : n2 < 1
        · have e1 : decide (1 ≤ n2) = false := decide_eq_false (by omega)
          have hE : lpushE L f t c n2 = 1 := by unfold lpushE; rw [if_pos h1]
          have KP : Hid (∀ W, IsG W gb (capsL S L c) → Calls Try.prog 17 #[.pointer (some ⟨gb, 0, none⟩), .int .u8 f, .int .u8 t, .int .i64 n2] W fun e w' => e = .returned (.int .i64 1) ∧ IsG w' gb (capsL S (lpushL L f t c n2) c) ∧ Chg [gb] W w') := Lib.hid fun W hW => by
            have := gpush hW (f := f) (t := t) n2 rfl rfl
            rw [pushE_led HGL.out HSM.out hf ht, pushC_led HGL.out HSO.out HSM.out hf ht, hE] at this
            exact this
          have KL : Hid (∀ W, IsL W lb mb S L → Calls Try.prog 36 #[.pointer (some ⟨lb, 0, none⟩), .int .u8 f, .int .u8 t, .int .u8 c, .int .i64 n2] W fun e w' => e = .returned (.int .i64 1) ∧ IsL w' lb mb S (lpushL L f t c n2) ∧ Chg [mb] W w') := Lib.hid fun W hW => by
            have := lpush hW hf ht hu (n := n2)
            rw [hE] at this
            exact this
          have HOE : Hid (capsL S (lpushL L f t c n2) c1 = O) := Lib.hid ((other_led HGL.out HSO.out HSM.out hf ht HC1.out n2).trans HX.out.gi.oe)
          have hcp := HCP.out
          clear hE
          generalize lpushL L f t c n2 = L2 at *
          go_wp2_with fail
          refine (KC2.out _ HX.out.gi.g).mono ?_
          rintro e w' ⟨rfl, rfl⟩
          go_wp2_with fail
          refine (KP.out _ HX.out.gi.g).mono ?_
          rintro e wA ⟨rfl, hgA, hcA⟩
          have HA := Lib.hid (HX.out.gpush hgA hcA)
          have hb0 := HA.out.x.cell 0
          have hb1 := HA.out.x.cell 1
          have hb2 := HA.out.x.cell 2
          clear hgA hcA
          go_wp2_with fail
          refine (KL.out _ HA.out.gi.led).mono ?_
          rintro e wB ⟨rfl, hlB, hcB⟩
          have HB := Lib.hid (HA.out.lpush hlB hcB HOE.out)
          have hd0 := HB.out.x.cell 0
          have hd1 := HB.out.x.cell 1
          have hd2 := HB.out.x.cell 2
          clear hlB hcB
          go_wp2_with fail
          refine (gof HB.out.gi.led hu).mono ?_
          rintro e wC ⟨qb, hqb, rfl, hqC, hcC⟩
          have HD := Lib.hid (And.intro (HB.out.gi.chg0 hcC) hqC)
          clear hqC hcC hqb
          go_wp2_with fail
          refine (KSM.out _ _ _ _ HD.out.1.g HD.out.2).mono ?_
          rintro e wD ⟨rfl, hcD⟩
          have HF := Lib.hid (HD.out.1.chg0 hcD)
          clear hcD
          go_wp2
          go_roundw
          case rel => exact ⟨k + 1, L2, by omega, by go_num, HF⟩
          case measure => simp [intOf]; omega
        · have e1 : decide (1 ≤ n2) = true := decide_eq_true (by omega)
          have e1' : 1 ≤ n2 := by omega
          by_cases h2 : cp < n2
          · have e2 : decide (n2 ≤ cp) = false := decide_eq_false (by omega)
            have hE : lpushE L f t c n2 = 11 := by unfold lpushE; rw [if_neg h1, if_pos (by rw [← HCP.out]; exact h2)]
            have KP : Hid (∀ W, IsG W gb (capsL S L c) → Calls Try.prog 17 #[.pointer (some ⟨gb, 0, none⟩), .int .u8 f, .int .u8 t, .int .i64 n2] W fun e w' => e = .returned (.int .i64 11) ∧ IsG w' gb (capsL S (lpushL L f t c n2) c) ∧ Chg [gb] W w') := Lib.hid fun W hW => by
              have := gpush hW (f := f) (t := t) n2 rfl rfl
              rw [pushE_led HGL.out HSM.out hf ht, pushC_led HGL.out HSO.out HSM.out hf ht, hE] at this
              exact this
            have KL : Hid (∀ W, IsL W lb mb S L → Calls Try.prog 36 #[.pointer (some ⟨lb, 0, none⟩), .int .u8 f, .int .u8 t, .int .u8 c, .int .i64 n2] W fun e w' => e = .returned (.int .i64 11) ∧ IsL w' lb mb S (lpushL L f t c n2) ∧ Chg [mb] W w') := Lib.hid fun W hW => by
              have := lpush hW hf ht hu (n := n2)
              rw [hE] at this
              exact this
            have HOE : Hid (capsL S (lpushL L f t c n2) c1 = O) := Lib.hid ((other_led HGL.out HSO.out HSM.out hf ht HC1.out n2).trans HX.out.gi.oe)
            have hcp := HCP.out
            clear hE
            generalize lpushL L f t c n2 = L2 at *
            go_wp2_with fail
            refine (KC2.out _ HX.out.gi.g).mono ?_
            rintro e w' ⟨rfl, rfl⟩
            go_wp2_with fail
            refine (KP.out _ HX.out.gi.g).mono ?_
            rintro e wA ⟨rfl, hgA, hcA⟩
            have HA := Lib.hid (HX.out.gpush hgA hcA)
            have hb0 := HA.out.x.cell 0
            have hb1 := HA.out.x.cell 1
            have hb2 := HA.out.x.cell 2
            clear hgA hcA
            go_wp2_with fail
            refine (KL.out _ HA.out.gi.led).mono ?_
            rintro e wB ⟨rfl, hlB, hcB⟩
            have HB := Lib.hid (HA.out.lpush hlB hcB HOE.out)
            have hd0 := HB.out.x.cell 0
            have hd1 := HB.out.x.cell 1
            have hd2 := HB.out.x.cell 2
            clear hlB hcB
            go_wp2_with fail
            refine (gof HB.out.gi.led hu).mono ?_
            rintro e wC ⟨qb, hqb, rfl, hqC, hcC⟩
            have HD := Lib.hid (And.intro (HB.out.gi.chg0 hcC) hqC)
            clear hqC hcC hqb
            go_wp2_with fail
            refine (KSM.out _ _ _ _ HD.out.1.g HD.out.2).mono ?_
            rintro e wD ⟨rfl, hcD⟩
            have HF := Lib.hid (HD.out.1.chg0 hcD)
            clear hcD
            go_wp2
            go_roundw
            case rel => exact ⟨k + 1, L2, by omega, by go_num, HF⟩
            case measure => simp [intOf]; omega
          · have e2 : decide (n2 ≤ cp) = true := decide_eq_true (by omega)
            have e2' : n2 ≤ cp := by omega
            have hE : lpushE L f t c n2 = 0 := by unfold lpushE; rw [if_neg h1, if_neg (by rw [← HCP.out]; exact h2)]
            have KP : Hid (∀ W, IsG W gb (capsL S L c) → Calls Try.prog 17 #[.pointer (some ⟨gb, 0, none⟩), .int .u8 f, .int .u8 t, .int .i64 n2] W fun e w' => e = .returned (.int .i64 0) ∧ IsG w' gb (capsL S (lpushL L f t c n2) c) ∧ Chg [gb] W w') := Lib.hid fun W hW => by
              have := gpush hW (f := f) (t := t) n2 rfl rfl
              rw [pushE_led HGL.out HSM.out hf ht, pushC_led HGL.out HSO.out HSM.out hf ht, hE] at this
              exact this
            have KL : Hid (∀ W, IsL W lb mb S L → Calls Try.prog 36 #[.pointer (some ⟨lb, 0, none⟩), .int .u8 f, .int .u8 t, .int .u8 c, .int .i64 n2] W fun e w' => e = .returned (.int .i64 0) ∧ IsL w' lb mb S (lpushL L f t c n2) ∧ Chg [mb] W w') := Lib.hid fun W hW => by
              have := lpush hW hf ht hu (n := n2)
              rw [hE] at this
              exact this
            have HOE : Hid (capsL S (lpushL L f t c n2) c1 = O) := Lib.hid ((other_led HGL.out HSO.out HSM.out hf ht HC1.out n2).trans HX.out.gi.oe)
            have hcp := HCP.out
            clear hE
            generalize lpushL L f t c n2 = L2 at *
            go_wp2_with fail
            refine (KC2.out _ HX.out.gi.g).mono ?_
            rintro e w' ⟨rfl, rfl⟩
            go_wp2_with fail
            refine (KP.out _ HX.out.gi.g).mono ?_
            rintro e wA ⟨rfl, hgA, hcA⟩
            have HA := Lib.hid (HX.out.gpush hgA hcA)
            have hb0 := HA.out.x.cell 0
            have hb1 := HA.out.x.cell 1
            have hb2 := HA.out.x.cell 2
            clear hgA hcA
            go_wp2_with fail
            refine (KL.out _ HA.out.gi.led).mono ?_
            rintro e wB ⟨rfl, hlB, hcB⟩
            have HB := Lib.hid (HA.out.lpush hlB hcB HOE.out)
            have hd0 := HB.out.x.cell 0
            have hd1 := HB.out.x.cell 1
            have hd2 := HB.out.x.cell 2
            clear hlB hcB
            go_wp2_with fail
            refine (gof HB.out.gi.led hu).mono ?_
            rintro e wC ⟨qb, hqb, rfl, hqC, hcC⟩
            have HD := Lib.hid (And.intro (HB.out.gi.chg0 hcC) hqC)
            clear hqC hcC hqb
            go_wp2_with fail
            refine (KSM.out _ _ _ _ HD.out.1.g HD.out.2).mono ?_
            rintro e wD ⟨rfl, hcD⟩
            have HF := Lib.hid (HD.out.1.chg0 hcD)
            clear hcD
            go_wp2
            go_roundw
            case rel => exact ⟨k + 1, L2, by omega, by go_num, HF⟩
            case measure => simp [intOf]; omega
    · obtain rfl : k = m.length := by omega
      go_wp2_with fail
      refine (gof HK.out.led hc256).mono ?_
      rintro e wC ⟨qb, hqb, rfl, hqC, hcC⟩
      have HD := Lib.hid (And.intro (HK.out.chg0 hcC) hqC)
      clear hqC hcC hqb
      have KSM : Hid (∀ W b c C, IsG W b C → IsG W c C → Calls Try.prog 23 #[.pointer (some ⟨b, 0, none⟩), .pointer (some ⟨c, 0, none⟩)] W fun e w' => e = .returned (.bool true) ∧ Chg [] W w') := Lib.hid fun W b c C h1 h2 => by
        have := gsame h1 h2
        rwa [capsEq_refl] at this
      go_wp2_with fail
      refine (KSM.out _ _ _ _ HD.out.1.o (HD.out.1.oe ▸ HD.out.2)).mono ?_
      rintro e wD ⟨rfl, hcD⟩
      have HF := Lib.hid (HD.out.1.chg0 hcD)
      clear hcD
      go_wp2_with fail
      refine (HLV.out _).mono ?_; rintro e wE ⟨rfl, hcE⟩
      have HZ := Lib.hid hcE
      clear hcE
      go_wp2
      go_ret
      exact ⟨rfl, HF.out.ch.trans HZ.out⟩
end Go.Proofs.Ytfpdkeokdojejaa
