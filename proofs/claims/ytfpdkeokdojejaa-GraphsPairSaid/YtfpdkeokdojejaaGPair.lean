/-
  The law GraphsPair, walked.
-/
import Derived.Test.YtfpdkeokdojejaaGLedger
namespace Go.Proofs.Ytfpdkeokdojejaa
open Go.RowKit Go.Maps Pl
attribute [local go_sem ↓] Go.wp_at_zero Go.wp_at_succ

theorem RdAct.chg0 {w w' : World} {v : Value} {l : List Deed} (h : RdAct w v l) (k : Chg [] w w') : RdAct w' v l := by
  rcases h with h | ⟨g, off, cap, rfl, hn, hc⟩
  · exact .inl h
  · exact .inr ⟨g, off, cap, rfl, hn, fun i hi => ⟨(hc i hi).1, (hc i hi).2.chg k⟩⟩

/-- What stands behind the push: the graph, its copy, the push itself. -/
structure PX (w W : World) (gb wb xb : Nat) (C D : Caps) (f t : Nat) (n : Int) : Prop where
  g : IsG W gb D
  o : IsG W wb C
  x : Blk W xb 35 #[.int .u8 f, .int .u8 t, .int .i64 n]
  ch : Chg [] w W
section
variable {w W W' : World} {gb wb xb f t : Nat} {C D : Caps} {n : Int}
theorem PX.chg0 (h : PX w W gb wb xb C D f t n) (k : Chg [] W W') : PX w W' gb wb xb C D f t n := ⟨h.g.chg k (by simp), h.o.chg k (by simp), h.x.chg k (by simp), h.ch.trans k⟩
theorem PX.ks (h : PX w W gb wb xb C D f t n) (k : Chg [] W W') : W'.cell? ⟨xb, 0, none⟩ = some (.int .u8 f) ∧ W'.cell? ⟨xb, 1, none⟩ = some (.int .u8 t) ∧ W'.cell? ⟨xb, 2, none⟩ = some (.int .i64 n) :=
  ⟨(h.x.chg k (by simp)).cell 0, (h.x.chg k (by simp)).cell 1, (h.x.chg k (by simp)).cell 2⟩
theorem gcapQ (h : IsG W gb C) (a b : Nat) : Calls Try.prog 19 #[.pointer (some ⟨gb, 0, none⟩), .int .u8 a, .int .u8 b] W fun e w' => e = .returned (.int .i64 (C a b)) ∧ Chg [] W w' :=
  (gcap h (f := a) (t := b) rfl rfl).mono fun _ _ ⟨he, hw⟩ => ⟨he, hw ▸ Chg.refl _ _⟩
end

set_option maxRecDepth 100000 in
set_option maxHeartbeats 8000000 in
theorem graphsPair_walk {w : World} {va : Value} {l : List Deed} {c f t : Nat} {n : Int} (hl : RdAct w va l) (hc : c < 256) (_ : f < 256) (_ : t < 256) (_ : -9223372036854775808 ≤ n ∧ n ≤ 9223372036854775807) :
    Calls Try.prog 9 #[va, .int .u8 c, .agg #[.int .u8 f, .int .u8 t, .int .i64 n]] w fun e w' => e = .returned (.bool true) ∧ Chg [] w w' := by
  have HLV := Lib.hid (fun W => lives5 W)
  have HA := Lib.hid hl
  obtain ⟨ao, acap, rfl⟩ := hl.shape
  clear hl
  by_cases hla : 120 < l.length
  · have hla1 : (120 : Int) < l.length := by omega
    go_enter Try.func9, Try.ntmps9
    go_wp2_with fail
    refine (HLV.out _).mono ?_; rintro e w' ⟨rfl, hc⟩
    have HC := Lib.hid hc
    clear hc
    go_wp2
    go_ret
    exact ⟨rfl, ((Chg.refl _ _).alloc _).trans HC.out⟩
  have hla1 : (l.length : Int) ≤ 120 := by omega
  have HX0 := Lib.hid (Blk.new w 35 #[.int .u8 f, .int .u8 t, .int .i64 n])
  have HCX : Hid (Chg [] w (w.alloc (.cells #[.int .u8 f, .int .u8 t, .int .i64 n] 35))) := Lib.hid ((Chg.refl _ _).alloc _)
  obtain ⟨W0, hW0⟩ : ∃ W0, W0 = w.alloc (.cells #[.int .u8 f, .int .u8 t, .int .i64 n] 35) := ⟨_, rfl⟩
  obtain ⟨xb, hxb⟩ : ∃ xb, xb = w.heap.size := ⟨_, rfl⟩
  rw [← hW0] at HX0 HCX
  rw [← hxb] at HX0
  go_enter Try.func9, Try.ntmps9
  go_wp2_with fail
  rw [← hW0, ← hxb]
  clear hW0 hxb
  refine (lmade (HA.out.chg0 HCX.out) (by omega)).mono ?_
  rintro e w1 ⟨lb, mb, rfl, hled⟩
  obtain ⟨g1, g2, ⟨S, L, hI⟩, hch⟩ := hled
  have H1 := Lib.hid (And.intro hI hch)
  clear g1 g2 hI hch HA
  go_wp2_with fail
  refine (gof H1.out.1 hc).mono ?_
  rintro e w2 ⟨gb, hgb, rfl, hg, hch⟩
  have H2 := Lib.hid (And.intro hg (H1.out.2.trans hch))
  have hgx : xb < gb ∧ w.heap.size ≤ gb := by
    have l1 := HX0.out.lt
    have l2 := H1.out.2.size
    have l3 := HCX.out.size
    omega
  clear hgb hg hch H1
  generalize capsL S L c = C at H2
  go_wp2_with fail
  refine (gcopy H2.out.1).mono ?_
  rintro e w3 ⟨rfl, hg, hch⟩
  obtain ⟨wb, hwb⟩ : ∃ wb, wb = w2.heap.size := ⟨_, rfl⟩
  rw [← hwb] at hg ⊢
  have H3 := Lib.hid (And.intro (H2.out.1.chg hch (by simp)) (And.intro hg (And.intro ((HX0.out.chg H2.out.2 (by simp)).chg hch (by simp)) (HCX.out.trans (H2.out.2.trans hch)))))
  have hne : wb ≠ gb ∧ xb ≠ gb ∧ w.heap.size ≤ gb := by
    have l1 := H2.out.1.lt
    omega
  clear hg hch H2 HX0 hwb
  have hb0 := H3.out.2.2.1.cell 0
  have hb1 := H3.out.2.2.1.cell 1
  have hb2 := H3.out.2.2.1.cell 2
  go_wp2_with fail
  have KLV : Hid (∀ W0 W, Chg [] W0 W → Calls Try.prog 10 #[] W fun e w' => e = .returned (.bool true) ∧ Chg [] W w') := Lib.hid fun _ W _ => HLV.out W
  by_cases h1 : n < 1
  · have hE : pushE C f t n = 1 := by unfold pushE; rw [if_pos h1]
    have hD : pushC C f t n = C := by unfold pushC; rw [hE, if_neg (by omega)]
    refine (gpush H3.out.1 (f := f) (t := t) n rfl rfl).mono ?_
    rintro e wP ⟨he, hg, hch⟩
    rw [hE] at he
    subst he
    rw [hD] at hg
    have HPX : Hid (PX w wP gb wb xb C C f t n) := Lib.hid ⟨hg, H3.out.2.1.chg hch (by simpa using hne.1), H3.out.2.2.1.chg hch (by simpa using hne.2.1), H3.out.2.2.2.fresh hch (by intro b hb; simp at hb; subst hb; exact .inr hne.2.2)⟩
    clear hg hch hE hD
    have KS : Hid (∀ W, Chg [] wP W → W.cell? ⟨xb, 0, none⟩ = some (.int .u8 f) ∧ W.cell? ⟨xb, 1, none⟩ = some (.int .u8 t) ∧ W.cell? ⟨xb, 2, none⟩ = some (.int .i64 n)) := Lib.hid fun W k => HPX.out.ks k
    have KSM : Hid (∀ W, Chg [] wP W → Calls Try.prog 23 #[.pointer (some ⟨gb, 0, none⟩), .pointer (some ⟨wb, 0, none⟩)] W fun e w' => e = .returned (.bool true) ∧ Chg [] W w') := Lib.hid fun W k => by
      have := gsame (HPX.out.chg0 k).g (HPX.out.chg0 k).o
      rwa [capsEq_refl] at this
    replace KLV : Hid (∀ W, Chg [] wP W → Calls Try.prog 10 #[] W fun e w' => e = .returned (.bool true) ∧ Chg [] W w') := Lib.hid (KLV.out wP)
    have HCC : Hid (Chg [] wP wP.drew) := Lib.hid (Chg.refl _ _).drew
    have hd1 : decide (n < 1) = true := decide_eq_true h1
    go_wp2_with fail
    refine wp_region_held_drew (S := (fun w' : World => w'.cell? ⟨xb, 0, none⟩ = some (.int .u8 f) ∧ w'.cell? ⟨xb, 1, none⟩ = some (.int .u8 t) ∧ w'.cell? ⟨xb, 2, none⟩ = some (.int .i64 n))) (by kernel_rfl) ?_ (fun hHeld => ?_)
    · exact KS.out _ HCC.out
    refine wpAnyH_take (i := 0) (v := ?v97a_0_0) rfl (by kernel_rfl) (by kernel_rfl) (by kernel_rfl) (fun _ _ _ h => h) (Or.inl ⟨by rfl, ?hy97a_0_0⟩) (by assumption) ?_
    case hy97a_0_0 => (intro w hSw; (try dsimp only at hSw); go_simp; try (with_reducible rfl))
    (try simp only [Act.put, List.getElem_toArray, List.getElem_cons_zero, List.setIfInBounds_toArray, List.set_cons_zero, List.set_cons_succ])
    refine wpAnyH_take (i := 1) (v := ?v97a_0_1) rfl (by kernel_rfl) (by kernel_rfl) (by kernel_rfl) (fun _ _ _ h => h) (Or.inl ⟨by rfl, ?hy97a_0_1⟩) (by assumption) ?_
    case hy97a_0_1 => (intro w hSw; (try dsimp only at hSw); go_simp; try (with_reducible rfl))
    (try simp only [Act.put, List.getElem_toArray, List.getElem_cons_zero, List.getElem_cons_succ, List.setIfInBounds_toArray, List.set_cons_zero, List.set_cons_succ])
    refine wpAnyH_ready (rs := [2]) (by kernel_rfl) (by simp) (AllReadyH.cons rfl (fun K hK => ?_) AllReadyH.nil)
    go_simp
    (refine (KSM.out _ HCC.out).mono ?_; rintro e w' ⟨rfl, hc⟩; have HCC := Lib.hid (HCC.out.trans hc); clear hc)
    (try go_wp2_with fail)
    refine hK.out _ _ ?_ (fun hHeld => ?_)
    · exact KS.out _ HCC.out
    clear hK K
    (try simp only [Act.put, List.getElem_toArray, List.getElem_cons_zero, List.getElem_cons_succ, List.setIfInBounds_toArray, List.set_cons_zero, List.set_cons_succ])
    refine wpAnyH_take (i := 3) (v := ?v97a_0_3) rfl (by kernel_rfl) (by kernel_rfl) (by kernel_rfl) (fun _ _ _ h => h) (Or.inl ⟨by rfl, ?hy97a_0_3⟩) (by assumption) ?_
    case hy97a_0_3 => (intro w hSw; (try dsimp only at hSw); go_simp; try (with_reducible rfl))
    (try simp only [Act.put, List.getElem_toArray, List.getElem_cons_zero, List.getElem_cons_succ, List.setIfInBounds_toArray, List.set_cons_zero, List.set_cons_succ])
    refine wpAnyH_take (i := 4) (v := ?v97a_0_4) rfl (by kernel_rfl) (by kernel_rfl) (by kernel_rfl) (fun _ _ _ h => h) (Or.inl ⟨by rfl, ?hy97a_0_4⟩) (by assumption) ?_
    case hy97a_0_4 => (intro w hSw; (try dsimp only at hSw); go_simp; try (with_reducible rfl))
    (try simp only [Act.put, List.getElem_toArray, List.getElem_cons_zero, List.getElem_cons_succ, List.setIfInBounds_toArray, List.set_cons_zero, List.set_cons_succ])
    refine wpAnyH_take (i := 5) (v := ?v97a_0_5) rfl (by kernel_rfl) (by kernel_rfl) (by kernel_rfl) (fun _ _ _ h => h) (Or.inl ⟨by rfl, ?hy97a_0_5⟩) (by assumption) ?_
    case hy97a_0_5 => (intro w hSw; (try dsimp only at hSw); go_simp; try (with_reducible rfl))
    (try simp only [Act.put, List.getElem_toArray, List.getElem_cons_zero, List.getElem_cons_succ, List.setIfInBounds_toArray, List.set_cons_zero, List.set_cons_succ])
    refine wpAnyH_take (i := 6) (v := ?v97a_0_6) rfl (by kernel_rfl) (by kernel_rfl) (by kernel_rfl) (fun _ _ _ h => h) (Or.inl ⟨by rfl, ?hy97a_0_6⟩) (by assumption) ?_
    case hy97a_0_6 => (intro w hSw; (try dsimp only at hSw); go_simp; try (with_reducible rfl))
    (try simp only [Act.put, List.getElem_toArray, List.getElem_cons_zero, List.getElem_cons_succ, List.setIfInBounds_toArray, List.set_cons_zero, List.set_cons_succ])
    refine wpAnyH_take (i := 7) (v := ?v97a_0_7) rfl (by kernel_rfl) (by kernel_rfl) (by kernel_rfl) (fun _ _ _ h => h) (Or.inl ⟨by rfl, ?hy97a_0_7⟩) (by assumption) ?_
    case hy97a_0_7 => (intro w hSw; (try dsimp only at hSw); go_simp; try (with_reducible rfl))
    (try simp only [Act.put, List.getElem_toArray, List.getElem_cons_zero, List.getElem_cons_succ, List.setIfInBounds_toArray, List.set_cons_zero, List.set_cons_succ])
    refine wpAnyH_take (i := 8) (v := ?v97a_0_8) rfl (by kernel_rfl) (by kernel_rfl) (by kernel_rfl) (fun _ _ _ h => h) (Or.inl ⟨by rfl, ?hy97a_0_8⟩) (by assumption) ?_
    case hy97a_0_8 => (intro w hSw; (try dsimp only at hSw); go_simp; try (with_reducible rfl))
    (try simp only [Act.put, List.getElem_toArray, List.getElem_cons_zero, List.getElem_cons_succ, List.setIfInBounds_toArray, List.set_cons_zero, List.set_cons_succ])
    refine wpAnyH_take (i := 9) (v := ?v97a_0_9) rfl (by kernel_rfl) (by kernel_rfl) (by kernel_rfl) (fun _ _ _ h => h) (Or.inl ⟨by rfl, ?hy97a_0_9⟩) (by assumption) ?_
    case hy97a_0_9 => (intro w hSw; (try dsimp only at hSw); go_simp; try (with_reducible rfl))
    (try simp only [Act.put, List.getElem_toArray, List.getElem_cons_zero, List.getElem_cons_succ, List.setIfInBounds_toArray, List.set_cons_zero, List.set_cons_succ])
    refine wpAnyH_take (i := 10) (v := ?v97a_0_10) rfl (by kernel_rfl) (by kernel_rfl) (by kernel_rfl) (fun _ _ _ h => h) (Or.inl ⟨by rfl, ?hy97a_0_10⟩) (by assumption) ?_
    case hy97a_0_10 => (intro w hSw; (try dsimp only at hSw); go_simp; try (with_reducible rfl))
    (try simp only [Act.put, List.getElem_toArray, List.getElem_cons_zero, List.getElem_cons_succ, List.setIfInBounds_toArray, List.set_cons_zero, List.set_cons_succ])
    refine wpAnyH_take (i := 11) (v := ?v97a_0_11) rfl (by kernel_rfl) (by kernel_rfl) (by kernel_rfl) (fun _ _ _ h => h) (Or.inl ⟨by rfl, ?hy97a_0_11⟩) (by assumption) ?_
    case hy97a_0_11 => (intro w hSw; (try dsimp only at hSw); go_simp; try (with_reducible rfl))
    (try simp only [Act.put, List.getElem_toArray, List.getElem_cons_zero, List.getElem_cons_succ, List.setIfInBounds_toArray, List.set_cons_zero, List.set_cons_succ])
    refine wpAnyH_take (i := 12) (v := undef) rfl (by kernel_rfl) (by kernel_rfl) (by kernel_rfl) (fun _ _ _ h => h) (Or.inr ⟨by rfl, rfl⟩) (by assumption) ?_
    (try simp only [Act.put, List.getElem_toArray, List.getElem_cons_zero, List.getElem_cons_succ, List.setIfInBounds_toArray, List.set_cons_zero, List.set_cons_succ])
    refine wpAnyH_take (i := 13) (v := undef) rfl (by kernel_rfl) (by kernel_rfl) (by kernel_rfl) (fun _ _ _ h => h) (Or.inr ⟨by rfl, rfl⟩) (by assumption) ?_
    (try simp only [Act.put, List.getElem_toArray, List.getElem_cons_zero, List.getElem_cons_succ, List.setIfInBounds_toArray, List.set_cons_zero, List.set_cons_succ])
    refine wpAnyH_take (i := 14) (v := undef) rfl (by kernel_rfl) (by kernel_rfl) (by kernel_rfl) (fun _ _ _ h => h) (Or.inr ⟨by rfl, rfl⟩) (by assumption) ?_
    (try simp only [Act.put, List.getElem_toArray, List.getElem_cons_zero, List.getElem_cons_succ, List.setIfInBounds_toArray, List.set_cons_zero, List.set_cons_succ])
    refine wpAnyH_take (i := 15) (v := undef) rfl (by kernel_rfl) (by kernel_rfl) (by kernel_rfl) (fun _ _ _ h => h) (Or.inr ⟨by rfl, rfl⟩) (by assumption) ?_
    (try simp only [Act.put, List.getElem_toArray, List.getElem_cons_zero, List.getElem_cons_succ, List.setIfInBounds_toArray, List.set_cons_zero, List.set_cons_succ])
    refine wpAnyH_take (i := 16) (v := undef) rfl (by kernel_rfl) (by kernel_rfl) (by kernel_rfl) (fun _ _ _ h => h) (Or.inr ⟨by rfl, rfl⟩) (by assumption) ?_
    (try simp only [Act.put, List.getElem_toArray, List.getElem_cons_zero, List.getElem_cons_succ, List.setIfInBounds_toArray, List.set_cons_zero, List.set_cons_succ])
    refine wpAnyH_take (i := 17) (v := undef) rfl (by kernel_rfl) (by kernel_rfl) (by kernel_rfl) (fun _ _ _ h => h) (Or.inr ⟨by rfl, rfl⟩) (by assumption) ?_
    (try simp only [Act.put, List.getElem_toArray, List.getElem_cons_zero, List.getElem_cons_succ, List.setIfInBounds_toArray, List.set_cons_zero, List.set_cons_succ])
    refine wpAnyH_take (i := 18) (v := undef) rfl (by kernel_rfl) (by kernel_rfl) (by kernel_rfl) (fun _ _ _ h => h) (Or.inr ⟨by rfl, rfl⟩) (by assumption) ?_
    (try simp only [Act.put, List.getElem_toArray, List.getElem_cons_zero, List.getElem_cons_succ, List.setIfInBounds_toArray, List.set_cons_zero, List.set_cons_succ])
    refine wpAnyH_take (i := 19) (v := undef) rfl (by kernel_rfl) (by kernel_rfl) (by kernel_rfl) (fun _ _ _ h => h) (Or.inr ⟨by rfl, rfl⟩) (by assumption) ?_
    (try simp only [Act.put, List.getElem_toArray, List.getElem_cons_zero, List.getElem_cons_succ, List.setIfInBounds_toArray, List.set_cons_zero, List.set_cons_succ])
    refine wpAnyH_take (i := 20) (v := undef) rfl (by kernel_rfl) (by kernel_rfl) (by kernel_rfl) (fun _ _ _ h => h) (Or.inr ⟨by rfl, rfl⟩) (by assumption) ?_
    (try simp only [Act.put, List.getElem_toArray, List.getElem_cons_zero, List.getElem_cons_succ, List.setIfInBounds_toArray, List.set_cons_zero, List.set_cons_succ])
    refine wpAnyH_take (i := 21) (v := undef) rfl (by kernel_rfl) (by kernel_rfl) (by kernel_rfl) (fun _ _ _ h => h) (Or.inr ⟨by rfl, rfl⟩) (by assumption) ?_
    (try simp only [Act.put, List.getElem_toArray, List.getElem_cons_zero, List.getElem_cons_succ, List.setIfInBounds_toArray, List.set_cons_zero, List.set_cons_succ])
    refine wpAnyH_take (i := 22) (v := undef) rfl (by kernel_rfl) (by kernel_rfl) (by kernel_rfl) (fun _ _ _ h => h) (Or.inr ⟨by rfl, rfl⟩) (by assumption) ?_
    (try simp only [Act.put, List.getElem_toArray, List.getElem_cons_zero, List.getElem_cons_succ, List.setIfInBounds_toArray, List.set_cons_zero, List.set_cons_succ])
    refine wpAnyH_take (i := 23) (v := undef) rfl (by kernel_rfl) (by kernel_rfl) (by kernel_rfl) (fun _ _ _ h => h) (Or.inr ⟨by rfl, rfl⟩) (by assumption) ?_
    (try simp only [Act.put, List.getElem_toArray, List.getElem_cons_zero, List.getElem_cons_succ, List.setIfInBounds_toArray, List.set_cons_zero, List.set_cons_succ])
    refine wpAnyH_take (i := 24) (v := undef) rfl (by kernel_rfl) (by kernel_rfl) (by kernel_rfl) (fun _ _ _ h => h) (Or.inr ⟨by rfl, rfl⟩) (by assumption) ?_
    (try simp only [Act.put, List.getElem_toArray, List.getElem_cons_zero, List.getElem_cons_succ, List.setIfInBounds_toArray, List.set_cons_zero, List.set_cons_succ])
    refine wpAnyH_take (i := 25) (v := ?v97a_0_25) rfl (by kernel_rfl) (by kernel_rfl) (by kernel_rfl) (fun _ _ _ h => h) (Or.inl ⟨by rfl, ?hy97a_0_25⟩) (by assumption) ?_
    case hy97a_0_25 => (intro w hSw; (try dsimp only at hSw); go_simp; try (with_reducible rfl))
    (try simp only [Act.put, List.getElem_toArray, List.getElem_cons_zero, List.getElem_cons_succ, List.setIfInBounds_toArray, List.set_cons_zero, List.set_cons_succ])
    refine wpAnyH_take (i := 26) (v := ?v97a_0_26) rfl (by kernel_rfl) (by kernel_rfl) (by kernel_rfl) (fun _ _ _ h => h) (Or.inl ⟨by rfl, ?hy97a_0_26⟩) (by assumption) ?_
    case hy97a_0_26 => (intro w hSw; (try dsimp only at hSw); go_simp; try (with_reducible rfl))
    (try simp only [Act.put, List.getElem_toArray, List.getElem_cons_zero, List.getElem_cons_succ, List.setIfInBounds_toArray, List.set_cons_zero, List.set_cons_succ])
    refine wpAnyH_take (i := 27) (v := ?v97a_0_27) rfl (by kernel_rfl) (by kernel_rfl) (by kernel_rfl) (fun _ _ _ h => h) (Or.inl ⟨by rfl, ?hy97a_0_27⟩) (by assumption) ?_
    case hy97a_0_27 => (intro w hSw; (try dsimp only at hSw); go_simp; try (with_reducible rfl))
    (try simp only [Act.put, List.getElem_toArray, List.getElem_cons_zero, List.getElem_cons_succ, List.setIfInBounds_toArray, List.set_cons_zero, List.set_cons_succ])
    refine wpAnyH_ready (rs := [28]) (by kernel_rfl) (by simp) (AllReadyH.cons rfl (fun K hK => ?_) AllReadyH.nil)
    go_simp
    (refine (KLV.out _ HCC.out).mono ?_; rintro e w' ⟨rfl, hc⟩; have HCC := Lib.hid (HCC.out.trans hc); clear hc)
    (try go_wp2_with fail)
    refine hK.out _ _ ?_ (fun hHeld => ?_)
    · exact KS.out _ HCC.out
    clear hK K
    (try simp only [Act.put, List.getElem_toArray, List.getElem_cons_zero, List.getElem_cons_succ, List.setIfInBounds_toArray, List.set_cons_zero, List.set_cons_succ])
    refine wpAnyH_take (i := 29) (v := ?v97a_0_29) rfl (by kernel_rfl) (by kernel_rfl) (by kernel_rfl) (fun _ _ _ h => h) (Or.inl ⟨by rfl, ?hy97a_0_29⟩) (by assumption) ?_
    case hy97a_0_29 => (intro w hSw; (try dsimp only at hSw); go_simp; try (with_reducible rfl))
    (try simp only [Act.put, List.getElem_toArray, List.getElem_cons_zero, List.getElem_cons_succ, List.setIfInBounds_toArray, List.set_cons_zero, List.set_cons_succ])
    refine wpAnyH_take (i := 30) (v := ?v97a_0_30) rfl (by kernel_rfl) (by kernel_rfl) (by kernel_rfl) (fun _ _ _ h => h) (Or.inl ⟨by rfl, ?hy97a_0_30⟩) (by assumption) ?_
    case hy97a_0_30 => (intro w hSw; (try dsimp only at hSw); go_simp; try (with_reducible rfl))
    (try simp only [Act.put, List.getElem_toArray, List.getElem_cons_zero, List.getElem_cons_succ, List.setIfInBounds_toArray, List.set_cons_zero, List.set_cons_succ])
    refine wpAnyH_done (by kernel_rfl) ?_ _
    go_wp2
    go_ret
    exact ⟨rfl, HPX.out.ch.trans HCC.out⟩
  by_cases h2 : C f t < n
  · have hE : pushE C f t n = 11 := by unfold pushE; rw [if_neg h1, if_pos h2]
    have hD : pushC C f t n = C := by unfold pushC; rw [hE, if_neg (by omega)]
    refine (gpush H3.out.1 (f := f) (t := t) n rfl rfl).mono ?_
    rintro e wP ⟨he, hg, hch⟩
    rw [hE] at he
    subst he
    rw [hD] at hg
    have HPX : Hid (PX w wP gb wb xb C C f t n) := Lib.hid ⟨hg, H3.out.2.1.chg hch (by simpa using hne.1), H3.out.2.2.1.chg hch (by simpa using hne.2.1), H3.out.2.2.2.fresh hch (by intro b hb; simp at hb; subst hb; exact .inr hne.2.2)⟩
    clear hg hch hE hD
    have KS : Hid (∀ W, Chg [] wP W → W.cell? ⟨xb, 0, none⟩ = some (.int .u8 f) ∧ W.cell? ⟨xb, 1, none⟩ = some (.int .u8 t) ∧ W.cell? ⟨xb, 2, none⟩ = some (.int .i64 n)) := Lib.hid fun W k => HPX.out.ks k
    have KSM : Hid (∀ W, Chg [] wP W → Calls Try.prog 23 #[.pointer (some ⟨gb, 0, none⟩), .pointer (some ⟨wb, 0, none⟩)] W fun e w' => e = .returned (.bool true) ∧ Chg [] W w') := Lib.hid fun W k => by
      have := gsame (HPX.out.chg0 k).g (HPX.out.chg0 k).o
      rwa [capsEq_refl] at this
    obtain ⟨cp, hcp⟩ : ∃ cp, cp = C f t := ⟨_, rfl⟩
    have KWC : Hid (∀ W, Chg [] wP W → Calls Try.prog 19 #[.pointer (some ⟨wb, 0, none⟩), .int .u8 f, .int .u8 t] W fun e w' => e = .returned (.int .i64 (cp)) ∧ Chg [] W w') := Lib.hid fun W k => by rw [hcp]; exact gcapQ (HPX.out.chg0 k).o f t
    replace KLV : Hid (∀ W, Chg [] wP W → Calls Try.prog 10 #[] W fun e w' => e = .returned (.bool true) ∧ Chg [] W w') := Lib.hid (KLV.out wP)
    have HCC : Hid (Chg [] wP wP.drew) := Lib.hid (Chg.refl _ _).drew
    rw [← hcp] at h2
    clear hcp
    have hd1 : decide (cp < n) = true := decide_eq_true h2
    go_wp2_with fail
    refine wp_region_held_drew (S := (fun w' : World => w'.cell? ⟨xb, 0, none⟩ = some (.int .u8 f) ∧ w'.cell? ⟨xb, 1, none⟩ = some (.int .u8 t) ∧ w'.cell? ⟨xb, 2, none⟩ = some (.int .i64 n))) (by kernel_rfl) ?_ (fun hHeld => ?_)
    · exact KS.out _ HCC.out
    refine wpAnyH_take (i := 0) (v := ?v97b_0_0) rfl (by kernel_rfl) (by kernel_rfl) (by kernel_rfl) (fun _ _ _ h => h) (Or.inl ⟨by rfl, ?hy97b_0_0⟩) (by assumption) ?_
    case hy97b_0_0 => (intro w hSw; (try dsimp only at hSw); go_simp; try (with_reducible rfl))
    (try simp only [Act.put, List.getElem_toArray, List.getElem_cons_zero, List.setIfInBounds_toArray, List.set_cons_zero, List.set_cons_succ])
    refine wpAnyH_take (i := 1) (v := ?v97b_0_1) rfl (by kernel_rfl) (by kernel_rfl) (by kernel_rfl) (fun _ _ _ h => h) (Or.inl ⟨by rfl, ?hy97b_0_1⟩) (by assumption) ?_
    case hy97b_0_1 => (intro w hSw; (try dsimp only at hSw); go_simp; try (with_reducible rfl))
    (try simp only [Act.put, List.getElem_toArray, List.getElem_cons_zero, List.getElem_cons_succ, List.setIfInBounds_toArray, List.set_cons_zero, List.set_cons_succ])
    refine wpAnyH_ready (rs := [2]) (by kernel_rfl) (by simp) (AllReadyH.cons rfl (fun K hK => ?_) AllReadyH.nil)
    go_simp
    (refine (KSM.out _ HCC.out).mono ?_; rintro e w' ⟨rfl, hc⟩; have HCC := Lib.hid (HCC.out.trans hc); clear hc)
    (try go_wp2_with fail)
    refine hK.out _ _ ?_ (fun hHeld => ?_)
    · exact KS.out _ HCC.out
    clear hK K
    (try simp only [Act.put, List.getElem_toArray, List.getElem_cons_zero, List.getElem_cons_succ, List.setIfInBounds_toArray, List.set_cons_zero, List.set_cons_succ])
    refine wpAnyH_take (i := 3) (v := ?v97b_0_3) rfl (by kernel_rfl) (by kernel_rfl) (by kernel_rfl) (fun _ _ _ h => h) (Or.inl ⟨by rfl, ?hy97b_0_3⟩) (by assumption) ?_
    case hy97b_0_3 => (intro w hSw; (try dsimp only at hSw); go_simp; try (with_reducible rfl))
    (try simp only [Act.put, List.getElem_toArray, List.getElem_cons_zero, List.getElem_cons_succ, List.setIfInBounds_toArray, List.set_cons_zero, List.set_cons_succ])
    refine wpAnyH_take (i := 4) (v := ?v97b_0_4) rfl (by kernel_rfl) (by kernel_rfl) (by kernel_rfl) (fun _ _ _ h => h) (Or.inl ⟨by rfl, ?hy97b_0_4⟩) (by assumption) ?_
    case hy97b_0_4 => (intro w hSw; (try dsimp only at hSw); go_simp; try (with_reducible rfl))
    (try simp only [Act.put, List.getElem_toArray, List.getElem_cons_zero, List.getElem_cons_succ, List.setIfInBounds_toArray, List.set_cons_zero, List.set_cons_succ])
    refine wpAnyH_take (i := 5) (v := ?v97b_0_5) rfl (by kernel_rfl) (by kernel_rfl) (by kernel_rfl) (fun _ _ _ h => h) (Or.inl ⟨by rfl, ?hy97b_0_5⟩) (by assumption) ?_
    case hy97b_0_5 => (intro w hSw; (try dsimp only at hSw); go_simp; try (with_reducible rfl))
    (try simp only [Act.put, List.getElem_toArray, List.getElem_cons_zero, List.getElem_cons_succ, List.setIfInBounds_toArray, List.set_cons_zero, List.set_cons_succ])
    refine wpAnyH_take (i := 6) (v := ?v97b_0_6) rfl (by kernel_rfl) (by kernel_rfl) (by kernel_rfl) (fun _ _ _ h => h) (Or.inl ⟨by rfl, ?hy97b_0_6⟩) (by assumption) ?_
    case hy97b_0_6 => (intro w hSw; (try dsimp only at hSw); go_simp; try (with_reducible rfl))
    (try simp only [Act.put, List.getElem_toArray, List.getElem_cons_zero, List.getElem_cons_succ, List.setIfInBounds_toArray, List.set_cons_zero, List.set_cons_succ])
    refine wpAnyH_take (i := 7) (v := undef) rfl (by kernel_rfl) (by kernel_rfl) (by kernel_rfl) (fun _ _ _ h => h) (Or.inr ⟨by rfl, rfl⟩) (by assumption) ?_
    (try simp only [Act.put, List.getElem_toArray, List.getElem_cons_zero, List.getElem_cons_succ, List.setIfInBounds_toArray, List.set_cons_zero, List.set_cons_succ])
    refine wpAnyH_take (i := 8) (v := undef) rfl (by kernel_rfl) (by kernel_rfl) (by kernel_rfl) (fun _ _ _ h => h) (Or.inr ⟨by rfl, rfl⟩) (by assumption) ?_
    (try simp only [Act.put, List.getElem_toArray, List.getElem_cons_zero, List.getElem_cons_succ, List.setIfInBounds_toArray, List.set_cons_zero, List.set_cons_succ])
    refine wpAnyH_take (i := 9) (v := undef) rfl (by kernel_rfl) (by kernel_rfl) (by kernel_rfl) (fun _ _ _ h => h) (Or.inr ⟨by rfl, rfl⟩) (by assumption) ?_
    (try simp only [Act.put, List.getElem_toArray, List.getElem_cons_zero, List.getElem_cons_succ, List.setIfInBounds_toArray, List.set_cons_zero, List.set_cons_succ])
    refine wpAnyH_take (i := 10) (v := ?v97b_0_10) rfl (by kernel_rfl) (by kernel_rfl) (by kernel_rfl) (fun _ _ _ h => h) (Or.inl ⟨by rfl, ?hy97b_0_10⟩) (by assumption) ?_
    case hy97b_0_10 => (intro w hSw; (try dsimp only at hSw); go_simp; try (with_reducible rfl))
    (try simp only [Act.put, List.getElem_toArray, List.getElem_cons_zero, List.getElem_cons_succ, List.setIfInBounds_toArray, List.set_cons_zero, List.set_cons_succ])
    refine wpAnyH_take (i := 11) (v := ?v97b_0_11) rfl (by kernel_rfl) (by kernel_rfl) (by kernel_rfl) (fun _ _ _ h => h) (Or.inl ⟨by rfl, ?hy97b_0_11⟩) (by assumption) ?_
    case hy97b_0_11 => (intro w hSw; (try dsimp only at hSw); go_simp; try (with_reducible rfl))
    (try simp only [Act.put, List.getElem_toArray, List.getElem_cons_zero, List.getElem_cons_succ, List.setIfInBounds_toArray, List.set_cons_zero, List.set_cons_succ])
    refine wpAnyH_take (i := 12) (v := ?v97b_0_12) rfl (by kernel_rfl) (by kernel_rfl) (by kernel_rfl) (fun _ _ _ h => h) (Or.inl ⟨by rfl, ?hy97b_0_12⟩) (by assumption) ?_
    case hy97b_0_12 => (intro w hSw; (try dsimp only at hSw); go_simp; try (with_reducible rfl))
    (try simp only [Act.put, List.getElem_toArray, List.getElem_cons_zero, List.getElem_cons_succ, List.setIfInBounds_toArray, List.set_cons_zero, List.set_cons_succ])
    refine wpAnyH_take (i := 13) (v := ?v97b_0_13) rfl (by kernel_rfl) (by kernel_rfl) (by kernel_rfl) (fun _ _ _ h => h) (Or.inl ⟨by rfl, ?hy97b_0_13⟩) (by assumption) ?_
    case hy97b_0_13 => (intro w hSw; (try dsimp only at hSw); go_simp; try (with_reducible rfl))
    (try simp only [Act.put, List.getElem_toArray, List.getElem_cons_zero, List.getElem_cons_succ, List.setIfInBounds_toArray, List.set_cons_zero, List.set_cons_succ])
    refine wpAnyH_take (i := 14) (v := ?v97b_0_14) rfl (by kernel_rfl) (by kernel_rfl) (by kernel_rfl) (fun _ _ _ h => h) (Or.inl ⟨by rfl, ?hy97b_0_14⟩) (by assumption) ?_
    case hy97b_0_14 => (intro w hSw; (try dsimp only at hSw); go_simp; try (with_reducible rfl))
    (try simp only [Act.put, List.getElem_toArray, List.getElem_cons_zero, List.getElem_cons_succ, List.setIfInBounds_toArray, List.set_cons_zero, List.set_cons_succ])
    refine wpAnyH_take (i := 15) (v := ?v97b_0_15) rfl (by kernel_rfl) (by kernel_rfl) (by kernel_rfl) (fun _ _ _ h => h) (Or.inl ⟨by rfl, ?hy97b_0_15⟩) (by assumption) ?_
    case hy97b_0_15 => (intro w hSw; (try dsimp only at hSw); go_simp; try (with_reducible rfl))
    (try simp only [Act.put, List.getElem_toArray, List.getElem_cons_zero, List.getElem_cons_succ, List.setIfInBounds_toArray, List.set_cons_zero, List.set_cons_succ])
    refine wpAnyH_take (i := 16) (v := ?v97b_0_16) rfl (by kernel_rfl) (by kernel_rfl) (by kernel_rfl) (fun _ _ _ h => h) (Or.inl ⟨by rfl, ?hy97b_0_16⟩) (by assumption) ?_
    case hy97b_0_16 => (intro w hSw; (try dsimp only at hSw); go_simp; try (with_reducible rfl))
    (try simp only [Act.put, List.getElem_toArray, List.getElem_cons_zero, List.getElem_cons_succ, List.setIfInBounds_toArray, List.set_cons_zero, List.set_cons_succ])
    refine wpAnyH_take (i := 17) (v := ?v97b_0_17) rfl (by kernel_rfl) (by kernel_rfl) (by kernel_rfl) (fun _ _ _ h => h) (Or.inl ⟨by rfl, ?hy97b_0_17⟩) (by assumption) ?_
    case hy97b_0_17 => (intro w hSw; (try dsimp only at hSw); go_simp; try (with_reducible rfl))
    (try simp only [Act.put, List.getElem_toArray, List.getElem_cons_zero, List.getElem_cons_succ, List.setIfInBounds_toArray, List.set_cons_zero, List.set_cons_succ])
    refine wpAnyH_take (i := 18) (v := ?v97b_0_18) rfl (by kernel_rfl) (by kernel_rfl) (by kernel_rfl) (fun _ _ _ h => h) (Or.inl ⟨by rfl, ?hy97b_0_18⟩) (by assumption) ?_
    case hy97b_0_18 => (intro w hSw; (try dsimp only at hSw); go_simp; try (with_reducible rfl))
    (try simp only [Act.put, List.getElem_toArray, List.getElem_cons_zero, List.getElem_cons_succ, List.setIfInBounds_toArray, List.set_cons_zero, List.set_cons_succ])
    refine wpAnyH_take (i := 19) (v := ?v97b_0_19) rfl (by kernel_rfl) (by kernel_rfl) (by kernel_rfl) (fun _ _ _ h => h) (Or.inl ⟨by rfl, ?hy97b_0_19⟩) (by assumption) ?_
    case hy97b_0_19 => (intro w hSw; (try dsimp only at hSw); go_simp; try (with_reducible rfl))
    (try simp only [Act.put, List.getElem_toArray, List.getElem_cons_zero, List.getElem_cons_succ, List.setIfInBounds_toArray, List.set_cons_zero, List.set_cons_succ])
    refine wpAnyH_take (i := 20) (v := ?v97b_0_20) rfl (by kernel_rfl) (by kernel_rfl) (by kernel_rfl) (fun _ _ _ h => h) (Or.inl ⟨by rfl, ?hy97b_0_20⟩) (by assumption) ?_
    case hy97b_0_20 => (intro w hSw; (try dsimp only at hSw); go_simp; try (with_reducible rfl))
    (try simp only [Act.put, List.getElem_toArray, List.getElem_cons_zero, List.getElem_cons_succ, List.setIfInBounds_toArray, List.set_cons_zero, List.set_cons_succ])
    refine wpAnyH_take (i := 21) (v := ?v97b_0_21) rfl (by kernel_rfl) (by kernel_rfl) (by kernel_rfl) (fun _ _ _ h => h) (Or.inl ⟨by rfl, ?hy97b_0_21⟩) (by assumption) ?_
    case hy97b_0_21 => (intro w hSw; (try dsimp only at hSw); go_simp; try (with_reducible rfl))
    (try simp only [Act.put, List.getElem_toArray, List.getElem_cons_zero, List.getElem_cons_succ, List.setIfInBounds_toArray, List.set_cons_zero, List.set_cons_succ])
    refine wpAnyH_ready (rs := [22]) (by kernel_rfl) (by simp) (AllReadyH.cons rfl (fun K hK => ?_) AllReadyH.nil)
    go_simp
    (refine (KWC.out _ HCC.out).mono ?_; rintro e w' ⟨rfl, hc⟩; have HCC := Lib.hid (HCC.out.trans hc); clear hc)
    (try go_wp2_with fail)
    refine hK.out _ _ ?_ (fun hHeld => ?_)
    · exact KS.out _ HCC.out
    clear hK K
    (try simp only [Act.put, List.getElem_toArray, List.getElem_cons_zero, List.getElem_cons_succ, List.setIfInBounds_toArray, List.set_cons_zero, List.set_cons_succ])
    refine wpAnyH_take (i := 23) (v := ?v97b_0_23) rfl (by kernel_rfl) (by kernel_rfl) (by kernel_rfl) (fun _ _ _ h => h) (Or.inl ⟨by rfl, ?hy97b_0_23⟩) (by assumption) ?_
    case hy97b_0_23 => (intro w hSw; (try dsimp only at hSw); go_simp; try (with_reducible rfl))
    (try simp only [Act.put, List.getElem_toArray, List.getElem_cons_zero, List.getElem_cons_succ, List.setIfInBounds_toArray, List.set_cons_zero, List.set_cons_succ])
    refine wpAnyH_take (i := 24) (v := ?v97b_0_24) rfl (by kernel_rfl) (by kernel_rfl) (by kernel_rfl) (fun _ _ _ h => h) (Or.inl ⟨by rfl, ?hy97b_0_24⟩) (by assumption) ?_
    case hy97b_0_24 => (intro w hSw; (try dsimp only at hSw); go_simp; try (with_reducible rfl))
    (try simp only [Act.put, List.getElem_toArray, List.getElem_cons_zero, List.getElem_cons_succ, List.setIfInBounds_toArray, List.set_cons_zero, List.set_cons_succ])
    refine wpAnyH_take (i := 25) (v := ?v97b_0_25) rfl (by kernel_rfl) (by kernel_rfl) (by kernel_rfl) (fun _ _ _ h => h) (Or.inl ⟨by rfl, ?hy97b_0_25⟩) (by assumption) ?_
    case hy97b_0_25 => (intro w hSw; (try dsimp only at hSw); go_simp; try (with_reducible rfl))
    (try simp only [Act.put, List.getElem_toArray, List.getElem_cons_zero, List.getElem_cons_succ, List.setIfInBounds_toArray, List.set_cons_zero, List.set_cons_succ])
    refine wpAnyH_take (i := 26) (v := ?v97b_0_26) rfl (by kernel_rfl) (by kernel_rfl) (by kernel_rfl) (fun _ _ _ h => h) (Or.inl ⟨by rfl, ?hy97b_0_26⟩) (by assumption) ?_
    case hy97b_0_26 => (intro w hSw; (try dsimp only at hSw); go_simp; try (with_reducible rfl))
    (try simp only [Act.put, List.getElem_toArray, List.getElem_cons_zero, List.getElem_cons_succ, List.setIfInBounds_toArray, List.set_cons_zero, List.set_cons_succ])
    refine wpAnyH_take (i := 27) (v := ?v97b_0_27) rfl (by kernel_rfl) (by kernel_rfl) (by kernel_rfl) (fun _ _ _ h => h) (Or.inl ⟨by rfl, ?hy97b_0_27⟩) (by assumption) ?_
    case hy97b_0_27 => (intro w hSw; (try dsimp only at hSw); go_simp; try (with_reducible rfl))
    (try simp only [Act.put, List.getElem_toArray, List.getElem_cons_zero, List.getElem_cons_succ, List.setIfInBounds_toArray, List.set_cons_zero, List.set_cons_succ])
    refine wpAnyH_ready (rs := [28]) (by kernel_rfl) (by simp) (AllReadyH.cons rfl (fun K hK => ?_) AllReadyH.nil)
    go_simp
    (refine (KLV.out _ HCC.out).mono ?_; rintro e w' ⟨rfl, hc⟩; have HCC := Lib.hid (HCC.out.trans hc); clear hc)
    (try go_wp2_with fail)
    refine hK.out _ _ ?_ (fun hHeld => ?_)
    · exact KS.out _ HCC.out
    clear hK K
    (try simp only [Act.put, List.getElem_toArray, List.getElem_cons_zero, List.getElem_cons_succ, List.setIfInBounds_toArray, List.set_cons_zero, List.set_cons_succ])
    refine wpAnyH_take (i := 29) (v := ?v97b_0_29) rfl (by kernel_rfl) (by kernel_rfl) (by kernel_rfl) (fun _ _ _ h => h) (Or.inl ⟨by rfl, ?hy97b_0_29⟩) (by assumption) ?_
    case hy97b_0_29 => (intro w hSw; (try dsimp only at hSw); go_simp; try (with_reducible rfl))
    (try simp only [Act.put, List.getElem_toArray, List.getElem_cons_zero, List.getElem_cons_succ, List.setIfInBounds_toArray, List.set_cons_zero, List.set_cons_succ])
    refine wpAnyH_take (i := 30) (v := ?v97b_0_30) rfl (by kernel_rfl) (by kernel_rfl) (by kernel_rfl) (fun _ _ _ h => h) (Or.inl ⟨by rfl, ?hy97b_0_30⟩) (by assumption) ?_
    case hy97b_0_30 => (intro w hSw; (try dsimp only at hSw); go_simp; try (with_reducible rfl))
    (try simp only [Act.put, List.getElem_toArray, List.getElem_cons_zero, List.getElem_cons_succ, List.setIfInBounds_toArray, List.set_cons_zero, List.set_cons_succ])
    refine wpAnyH_done (by kernel_rfl) ?_ _
    go_wp2
    go_ret
    exact ⟨rfl, HPX.out.ch.trans HCC.out⟩
  have hE : pushE C f t n = 0 := by unfold pushE; rw [if_neg h1, if_neg h2]
  have hD : pushC C f t n = push C f t n := by unfold pushC; rw [hE, if_pos rfl]
  have HG := Lib.hid H3.out.1.good
  refine (gpush H3.out.1 (f := f) (t := t) n rfl rfl).mono ?_
  rintro e wP ⟨he, hg, hch⟩
  rw [hE] at he
  subst he
  rw [hD] at hg
  have HGD := Lib.hid hg.good
  obtain ⟨_, _, hft⟩ := push_in HG.out (by omega : 1 ≤ n) (by omega : n ≤ C f t)
  have HPX : Hid (PX w wP gb wb xb C (push C f t n) f t n) := Lib.hid ⟨hg, H3.out.2.1.chg hch (by simpa using hne.1), H3.out.2.2.1.chg hch (by simpa using hne.2.1), H3.out.2.2.2.fresh hch (by intro b hb; simp at hb; subst hb; exact .inr hne.2.2)⟩
  clear hg hch hE hD H3 hb0 hb1 hb2 hne
  have HFT := Lib.hid hft
  clear hft
  have hn1 : 1 ≤ n := by omega
  have hn2 : n ≤ 4398046511104 := by have := HG.out.le f t; omega
  clear h1 h2
  go_wp2
  go_loopw [10] (fun i wr => ∃ k : Nat, k ≤ 18 ∧ i = .int .u8 k ∧ Hid (PX w wr gb wb xb C (push C f t n) f t n)) (fun i _ => 18 - (intOf i).toNat)
  case atStart => exact ⟨0, by omega, rfl, HPX⟩
  case round =>
    clear HPX
    obtain ⟨i, hi, rfl, HPX⟩ := hrel
    by_cases hlt : i < 18
    · have hli : decide ((i : Int) < 18) = true := decide_eq_true (by omega)
      go_wp2
      go_loopw [11] (fun j wr => ∃ k : Nat, k ≤ 18 ∧ j = .int .u8 k ∧ Hid (PX w wr gb wb xb C (push C f t n) f t n)) (fun j _ => 18 - (intOf j).toNat)
      case atStart => exact ⟨0, by omega, rfl, HPX⟩
      case round =>
        clear HPX
        obtain ⟨j, hj, rfl, HPX⟩ := hrel
        by_cases hlj : j < 18
        · have hb0 := HPX.out.x.cell 0
          have hb1 := HPX.out.x.cell 1
          have hb2 := HPX.out.x.cell 2
          have hP : push C f t n i j = if i = f ∧ j = t then C i j - n else if i = t ∧ j = f then C i j + n else C i j := rfl
          obtain ⟨z, hz⟩ : ∃ z, z = push C f t n i j := ⟨_, rfl⟩
          obtain ⟨y, hy⟩ : ∃ y, y = C i j := ⟨_, rfl⟩
          have KGA : Hid (∀ W, IsG W gb (push C f t n) → Calls Try.prog 19 #[.pointer (some ⟨gb, 0, none⟩), .int .u8 i, .int .u8 j] W fun e w' => e = .returned (.int .i64 z) ∧ W = w') := Lib.hid fun W h => by rw [hz]; exact gcap h rfl rfl
          have KWA : Hid (∀ W, IsG W wb C → Calls Try.prog 19 #[.pointer (some ⟨wb, 0, none⟩), .int .u8 i, .int .u8 j] W fun e w' => e = .returned (.int .i64 y) ∧ W = w') := Lib.hid fun W h => by rw [hy]; exact gcap h rfl rfl
          have z0 : 0 ≤ z := by rw [hz]; exact HGD.out.nonneg i j
          have z1 : z ≤ 4398046511104 := by rw [hz]; exact HGD.out.le i j
          have y0 : 0 ≤ y := by rw [hy]; exact HG.out.nonneg i j
          have y1 : y ≤ 4398046511104 := by rw [hy]; exact HG.out.le i j
          have hzd : decide (z < 0) = false := decide_eq_false (by omega)
          rw [← hz, ← hy] at hP
          clear hz hy
          have hft := HFT.out
          by_cases e1 : i = f
          · have q1 : ((i : Int) == (f : Int)) = true := by simp [e1]
            have q3 : ((i : Int) == (t : Int)) = false := by simp; omega
            by_cases e2 : j = t
            · have q2 : ((j : Int) == (t : Int)) = true := by simp [e2]
              have hw : (z - y != -n) = false := by rw [if_pos ⟨e1, e2⟩] at hP; simp; omega
              clear hP e1 e2 hft
              go_wp2_with fail
              refine (KGA.out _ HPX.out.g).mono ?_; rintro e w' ⟨rfl, rfl⟩
              go_wp2_with fail
              refine (KWA.out _ HPX.out.o).mono ?_; rintro e w' ⟨rfl, rfl⟩
              go_wp2_with fail
              refine (KGA.out _ HPX.out.g).mono ?_; rintro e w' ⟨rfl, rfl⟩
              go_wp2
              go_roundw
              case rel => exact ⟨j + 1, by omega, by go_num, HPX⟩
              case measure => simp [intOf]; omega
            · have q2 : ((j : Int) == (t : Int)) = false := by simp; omega
              have hw : (z - y != 0) = false := by rw [if_neg (fun h => e2 h.2), if_neg (fun h => hft (e1.symm.trans h.1))] at hP; simp; omega
              clear hP e1 e2 hft
              go_wp2_with fail
              refine (KGA.out _ HPX.out.g).mono ?_; rintro e w' ⟨rfl, rfl⟩
              go_wp2_with fail
              refine (KWA.out _ HPX.out.o).mono ?_; rintro e w' ⟨rfl, rfl⟩
              go_wp2_with fail
              refine (KGA.out _ HPX.out.g).mono ?_; rintro e w' ⟨rfl, rfl⟩
              go_wp2
              go_roundw
              case rel => exact ⟨j + 1, by omega, by go_num, HPX⟩
              case measure => simp [intOf]; omega
          · have q1 : ((i : Int) == (f : Int)) = false := by simp; omega
            by_cases e3 : i = t
            · have q3 : ((i : Int) == (t : Int)) = true := by simp [e3]
              by_cases e4 : j = f
              · have q4 : ((j : Int) == (f : Int)) = true := by simp [e4]
                have hw : (z - y != n) = false := by rw [if_neg (fun h => e1 h.1), if_pos ⟨e3, e4⟩] at hP; simp; omega
                clear hP e1 e3 e4 hft
                go_wp2_with fail
                refine (KGA.out _ HPX.out.g).mono ?_; rintro e w' ⟨rfl, rfl⟩
                go_wp2_with fail
                refine (KWA.out _ HPX.out.o).mono ?_; rintro e w' ⟨rfl, rfl⟩
                go_wp2_with fail
                refine (KGA.out _ HPX.out.g).mono ?_; rintro e w' ⟨rfl, rfl⟩
                go_wp2
                go_roundw
                case rel => exact ⟨j + 1, by omega, by go_num, HPX⟩
                case measure => simp [intOf]; omega
              · have q4 : ((j : Int) == (f : Int)) = false := by simp; omega
                have hw : (z - y != 0) = false := by rw [if_neg (fun h => e1 h.1), if_neg (fun h => e4 h.2)] at hP; simp; omega
                clear hP e1 e3 e4 hft
                go_wp2_with fail
                refine (KGA.out _ HPX.out.g).mono ?_; rintro e w' ⟨rfl, rfl⟩
                go_wp2_with fail
                refine (KWA.out _ HPX.out.o).mono ?_; rintro e w' ⟨rfl, rfl⟩
                go_wp2_with fail
                refine (KGA.out _ HPX.out.g).mono ?_; rintro e w' ⟨rfl, rfl⟩
                go_wp2
                go_roundw
                case rel => exact ⟨j + 1, by omega, by go_num, HPX⟩
                case measure => simp [intOf]; omega
            · have q3 : ((i : Int) == (t : Int)) = false := by simp; omega
              have hw : (z - y != 0) = false := by rw [if_neg (fun h => e1 h.1), if_neg (fun h => e3 h.1)] at hP; simp; omega
              clear hP e1 e3 hft
              go_wp2_with fail
              refine (KGA.out _ HPX.out.g).mono ?_; rintro e w' ⟨rfl, rfl⟩
              go_wp2_with fail
              refine (KWA.out _ HPX.out.o).mono ?_; rintro e w' ⟨rfl, rfl⟩
              go_wp2_with fail
              refine (KGA.out _ HPX.out.g).mono ?_; rintro e w' ⟨rfl, rfl⟩
              go_wp2
              go_roundw
              case rel => exact ⟨j + 1, by omega, by go_num, HPX⟩
              case measure => simp [intOf]; omega
        · obtain rfl : j = 18 := by omega
          go_wp2
          go_roundw
          case rel => exact ⟨i + 1, by omega, by go_num, HPX⟩
          case measure => simp [intOf]; omega
    · obtain rfl : i = 18 := by omega
      have KS : Hid (∀ W, Chg [] wr W → W.cell? ⟨xb, 0, none⟩ = some (.int .u8 f) ∧ W.cell? ⟨xb, 1, none⟩ = some (.int .u8 t) ∧ W.cell? ⟨xb, 2, none⟩ = some (.int .i64 n)) := Lib.hid fun W k => HPX.out.ks k
      have hp1 : push C f t n f t = C f t - n := by unfold push; rw [if_pos ⟨rfl, rfl⟩]
      have hp2 : push C f t n t f = C t f + n := by unfold push; rw [if_neg (fun h => HFT.out h.1.symm), if_pos ⟨rfl, rfl⟩]
      obtain ⟨y1, hy1⟩ : ∃ y, y = C f t := ⟨_, rfl⟩
      obtain ⟨y2, hy2⟩ : ∃ y, y = C t f := ⟨_, rfl⟩
      obtain ⟨z1, hz1⟩ : ∃ y, y = push C f t n f t := ⟨_, rfl⟩
      obtain ⟨z2, hz2⟩ : ∃ y, y = push C f t n t f := ⟨_, rfl⟩
      have KG1 : Hid (∀ W, Chg [] wr W → Calls Try.prog 19 #[.pointer (some ⟨gb, 0, none⟩), .int .u8 f, .int .u8 t] W fun e w' => e = .returned (.int .i64 (z1)) ∧ Chg [] W w') := Lib.hid fun W k => by rw [hz1]; exact gcapQ (HPX.out.chg0 k).g f t
      have KG2 : Hid (∀ W, Chg [] wr W → Calls Try.prog 19 #[.pointer (some ⟨gb, 0, none⟩), .int .u8 t, .int .u8 f] W fun e w' => e = .returned (.int .i64 (z2)) ∧ Chg [] W w') := Lib.hid fun W k => by rw [hz2]; exact gcapQ (HPX.out.chg0 k).g t f
      have KW1 : Hid (∀ W, Chg [] wr W → Calls Try.prog 19 #[.pointer (some ⟨wb, 0, none⟩), .int .u8 f, .int .u8 t] W fun e w' => e = .returned (.int .i64 (y1)) ∧ Chg [] W w') := Lib.hid fun W k => by rw [hy1]; exact gcapQ (HPX.out.chg0 k).o f t
      have KW2 : Hid (∀ W, Chg [] wr W → Calls Try.prog 19 #[.pointer (some ⟨wb, 0, none⟩), .int .u8 t, .int .u8 f] W fun e w' => e = .returned (.int .i64 (y2)) ∧ Chg [] W w') := Lib.hid fun W k => by rw [hy2]; exact gcapQ (HPX.out.chg0 k).o t f
      replace KLV : Hid (∀ W, Chg [] wr W → Calls Try.prog 10 #[] W fun e w' => e = .returned (.bool true) ∧ Chg [] W w') := Lib.hid (KLV.out wr)
      have HCC : Hid (Chg [] wr wr.drew) := Lib.hid (Chg.refl _ _).drew
      have a1 : 0 ≤ y1 ∧ y1 ≤ 4398046511104 := by rw [hy1]; exact ⟨HG.out.nonneg f t, HG.out.le f t⟩
      have a2 : 0 ≤ y2 ∧ y2 ≤ 4398046511104 := by rw [hy2]; exact ⟨HG.out.nonneg t f, HG.out.le t f⟩
      have a3 : 0 ≤ z1 ∧ z1 ≤ 4398046511104 := by rw [hz1]; exact ⟨HGD.out.nonneg f t, HGD.out.le f t⟩
      have a4 : 0 ≤ z2 ∧ z2 ≤ 4398046511104 := by rw [hz2]; exact ⟨HGD.out.nonneg t f, HGD.out.le t f⟩
      have hs : z1 + z2 = y1 + y2 := by omega
      have hw1 : IntKind.i64.wrap (z1 + z2) = y1 + y2 := by rw [IntWalk.i64_in _ (by omega)]; exact hs
      have hw2 : IntKind.i64.wrap (y1 + y2) = y1 + y2 := IntWalk.i64_in _ (by omega)
      clear hp1 hp2 hy1 hy2 hz1 hz2 hs
      go_wp2_with fail
      refine wp_region_held_drew (S := (fun w' : World => w'.cell? ⟨xb, 0, none⟩ = some (.int .u8 f) ∧ w'.cell? ⟨xb, 1, none⟩ = some (.int .u8 t) ∧ w'.cell? ⟨xb, 2, none⟩ = some (.int .i64 n))) (by kernel_rfl) ?_ (fun hHeld => ?_)
      · exact KS.out _ HCC.out
      refine wpAnyH_take (i := 0) (v := ?v922_0_0) rfl (by kernel_rfl) (by kernel_rfl) (by kernel_rfl) (fun _ _ _ h => h) (Or.inl ⟨by rfl, ?hy922_0_0⟩) (by assumption) ?_
      case hy922_0_0 => (intro w hSw; (try dsimp only at hSw); go_simp; try (with_reducible rfl))
      (try simp only [Act.put, List.getElem_toArray, List.getElem_cons_zero, List.setIfInBounds_toArray, List.set_cons_zero, List.set_cons_succ])
      refine wpAnyH_take (i := 1) (v := ?v922_0_1) rfl (by kernel_rfl) (by kernel_rfl) (by kernel_rfl) (fun _ _ _ h => h) (Or.inl ⟨by rfl, ?hy922_0_1⟩) (by assumption) ?_
      case hy922_0_1 => (intro w hSw; (try dsimp only at hSw); go_simp; try (with_reducible rfl))
      (try simp only [Act.put, List.getElem_toArray, List.getElem_cons_zero, List.getElem_cons_succ, List.setIfInBounds_toArray, List.set_cons_zero, List.set_cons_succ])
      refine wpAnyH_take (i := 2) (v := ?v922_0_2) rfl (by kernel_rfl) (by kernel_rfl) (by kernel_rfl) (fun _ _ _ h => h) (Or.inl ⟨by rfl, ?hy922_0_2⟩) (by assumption) ?_
      case hy922_0_2 => (intro w hSw; (try dsimp only at hSw); go_simp; try (with_reducible rfl))
      (try simp only [Act.put, List.getElem_toArray, List.getElem_cons_zero, List.getElem_cons_succ, List.setIfInBounds_toArray, List.set_cons_zero, List.set_cons_succ])
      refine wpAnyH_take (i := 3) (v := ?v922_0_3) rfl (by kernel_rfl) (by kernel_rfl) (by kernel_rfl) (fun _ _ _ h => h) (Or.inl ⟨by rfl, ?hy922_0_3⟩) (by assumption) ?_
      case hy922_0_3 => (intro w hSw; (try dsimp only at hSw); go_simp; try (with_reducible rfl))
      (try simp only [Act.put, List.getElem_toArray, List.getElem_cons_zero, List.getElem_cons_succ, List.setIfInBounds_toArray, List.set_cons_zero, List.set_cons_succ])
      refine wpAnyH_take (i := 4) (v := ?v922_0_4) rfl (by kernel_rfl) (by kernel_rfl) (by kernel_rfl) (fun _ _ _ h => h) (Or.inl ⟨by rfl, ?hy922_0_4⟩) (by assumption) ?_
      case hy922_0_4 => (intro w hSw; (try dsimp only at hSw); go_simp; try (with_reducible rfl))
      (try simp only [Act.put, List.getElem_toArray, List.getElem_cons_zero, List.getElem_cons_succ, List.setIfInBounds_toArray, List.set_cons_zero, List.set_cons_succ])
      refine wpAnyH_take (i := 6) (v := ?v922_0_6) rfl (by kernel_rfl) (by kernel_rfl) (by kernel_rfl) (fun _ _ _ h => h) (Or.inl ⟨by rfl, ?hy922_0_6⟩) (by assumption) ?_
      case hy922_0_6 => (intro w hSw; (try dsimp only at hSw); go_simp; try (with_reducible rfl))
      (try simp only [Act.put, List.getElem_toArray, List.getElem_cons_zero, List.getElem_cons_succ, List.setIfInBounds_toArray, List.set_cons_zero, List.set_cons_succ])
      refine wpAnyH_take (i := 7) (v := ?v922_0_7) rfl (by kernel_rfl) (by kernel_rfl) (by kernel_rfl) (fun _ _ _ h => h) (Or.inl ⟨by rfl, ?hy922_0_7⟩) (by assumption) ?_
      case hy922_0_7 => (intro w hSw; (try dsimp only at hSw); go_simp; try (with_reducible rfl))
      (try simp only [Act.put, List.getElem_toArray, List.getElem_cons_zero, List.getElem_cons_succ, List.setIfInBounds_toArray, List.set_cons_zero, List.set_cons_succ])
      refine wpAnyH_take (i := 8) (v := ?v922_0_8) rfl (by kernel_rfl) (by kernel_rfl) (by kernel_rfl) (fun _ _ _ h => h) (Or.inl ⟨by rfl, ?hy922_0_8⟩) (by assumption) ?_
      case hy922_0_8 => (intro w hSw; (try dsimp only at hSw); go_simp; try (with_reducible rfl))
      (try simp only [Act.put, List.getElem_toArray, List.getElem_cons_zero, List.getElem_cons_succ, List.setIfInBounds_toArray, List.set_cons_zero, List.set_cons_succ])
      refine wpAnyH_take (i := 9) (v := ?v922_0_9) rfl (by kernel_rfl) (by kernel_rfl) (by kernel_rfl) (fun _ _ _ h => h) (Or.inl ⟨by rfl, ?hy922_0_9⟩) (by assumption) ?_
      case hy922_0_9 => (intro w hSw; (try dsimp only at hSw); go_simp; try (with_reducible rfl))
      (try simp only [Act.put, List.getElem_toArray, List.getElem_cons_zero, List.getElem_cons_succ, List.setIfInBounds_toArray, List.set_cons_zero, List.set_cons_succ])
      refine wpAnyH_take (i := 10) (v := ?v922_0_10) rfl (by kernel_rfl) (by kernel_rfl) (by kernel_rfl) (fun _ _ _ h => h) (Or.inl ⟨by rfl, ?hy922_0_10⟩) (by assumption) ?_
      case hy922_0_10 => (intro w hSw; (try dsimp only at hSw); go_simp; try (with_reducible rfl))
      (try simp only [Act.put, List.getElem_toArray, List.getElem_cons_zero, List.getElem_cons_succ, List.setIfInBounds_toArray, List.set_cons_zero, List.set_cons_succ])
      refine wpAnyH_take (i := 13) (v := ?v922_0_13) rfl (by kernel_rfl) (by kernel_rfl) (by kernel_rfl) (fun _ _ _ h => h) (Or.inl ⟨by rfl, ?hy922_0_13⟩) (by assumption) ?_
      case hy922_0_13 => (intro w hSw; (try dsimp only at hSw); go_simp; try (with_reducible rfl))
      (try simp only [Act.put, List.getElem_toArray, List.getElem_cons_zero, List.getElem_cons_succ, List.setIfInBounds_toArray, List.set_cons_zero, List.set_cons_succ])
      refine wpAnyH_take (i := 14) (v := ?v922_0_14) rfl (by kernel_rfl) (by kernel_rfl) (by kernel_rfl) (fun _ _ _ h => h) (Or.inl ⟨by rfl, ?hy922_0_14⟩) (by assumption) ?_
      case hy922_0_14 => (intro w hSw; (try dsimp only at hSw); go_simp; try (with_reducible rfl))
      (try simp only [Act.put, List.getElem_toArray, List.getElem_cons_zero, List.getElem_cons_succ, List.setIfInBounds_toArray, List.set_cons_zero, List.set_cons_succ])
      refine wpAnyH_take (i := 15) (v := ?v922_0_15) rfl (by kernel_rfl) (by kernel_rfl) (by kernel_rfl) (fun _ _ _ h => h) (Or.inl ⟨by rfl, ?hy922_0_15⟩) (by assumption) ?_
      case hy922_0_15 => (intro w hSw; (try dsimp only at hSw); go_simp; try (with_reducible rfl))
      (try simp only [Act.put, List.getElem_toArray, List.getElem_cons_zero, List.getElem_cons_succ, List.setIfInBounds_toArray, List.set_cons_zero, List.set_cons_succ])
      refine wpAnyH_take (i := 16) (v := ?v922_0_16) rfl (by kernel_rfl) (by kernel_rfl) (by kernel_rfl) (fun _ _ _ h => h) (Or.inl ⟨by rfl, ?hy922_0_16⟩) (by assumption) ?_
      case hy922_0_16 => (intro w hSw; (try dsimp only at hSw); go_simp; try (with_reducible rfl))
      (try simp only [Act.put, List.getElem_toArray, List.getElem_cons_zero, List.getElem_cons_succ, List.setIfInBounds_toArray, List.set_cons_zero, List.set_cons_succ])
      refine wpAnyH_take (i := 17) (v := ?v922_0_17) rfl (by kernel_rfl) (by kernel_rfl) (by kernel_rfl) (fun _ _ _ h => h) (Or.inl ⟨by rfl, ?hy922_0_17⟩) (by assumption) ?_
      case hy922_0_17 => (intro w hSw; (try dsimp only at hSw); go_simp; try (with_reducible rfl))
      (try simp only [Act.put, List.getElem_toArray, List.getElem_cons_zero, List.getElem_cons_succ, List.setIfInBounds_toArray, List.set_cons_zero, List.set_cons_succ])
      refine wpAnyH_take (i := 19) (v := ?v922_0_19) rfl (by kernel_rfl) (by kernel_rfl) (by kernel_rfl) (fun _ _ _ h => h) (Or.inl ⟨by rfl, ?hy922_0_19⟩) (by assumption) ?_
      case hy922_0_19 => (intro w hSw; (try dsimp only at hSw); go_simp; try (with_reducible rfl))
      (try simp only [Act.put, List.getElem_toArray, List.getElem_cons_zero, List.getElem_cons_succ, List.setIfInBounds_toArray, List.set_cons_zero, List.set_cons_succ])
      refine wpAnyH_take (i := 20) (v := ?v922_0_20) rfl (by kernel_rfl) (by kernel_rfl) (by kernel_rfl) (fun _ _ _ h => h) (Or.inl ⟨by rfl, ?hy922_0_20⟩) (by assumption) ?_
      case hy922_0_20 => (intro w hSw; (try dsimp only at hSw); go_simp; try (with_reducible rfl))
      (try simp only [Act.put, List.getElem_toArray, List.getElem_cons_zero, List.getElem_cons_succ, List.setIfInBounds_toArray, List.set_cons_zero, List.set_cons_succ])
      refine wpAnyH_take (i := 21) (v := ?v922_0_21) rfl (by kernel_rfl) (by kernel_rfl) (by kernel_rfl) (fun _ _ _ h => h) (Or.inl ⟨by rfl, ?hy922_0_21⟩) (by assumption) ?_
      case hy922_0_21 => (intro w hSw; (try dsimp only at hSw); go_simp; try (with_reducible rfl))
      (try simp only [Act.put, List.getElem_toArray, List.getElem_cons_zero, List.getElem_cons_succ, List.setIfInBounds_toArray, List.set_cons_zero, List.set_cons_succ])
      refine wpAnyH_take (i := 22) (v := ?v922_0_22) rfl (by kernel_rfl) (by kernel_rfl) (by kernel_rfl) (fun _ _ _ h => h) (Or.inl ⟨by rfl, ?hy922_0_22⟩) (by assumption) ?_
      case hy922_0_22 => (intro w hSw; (try dsimp only at hSw); go_simp; try (with_reducible rfl))
      (try simp only [Act.put, List.getElem_toArray, List.getElem_cons_zero, List.getElem_cons_succ, List.setIfInBounds_toArray, List.set_cons_zero, List.set_cons_succ])
      refine wpAnyH_take (i := 23) (v := ?v922_0_23) rfl (by kernel_rfl) (by kernel_rfl) (by kernel_rfl) (fun _ _ _ h => h) (Or.inl ⟨by rfl, ?hy922_0_23⟩) (by assumption) ?_
      case hy922_0_23 => (intro w hSw; (try dsimp only at hSw); go_simp; try (with_reducible rfl))
      (try simp only [Act.put, List.getElem_toArray, List.getElem_cons_zero, List.getElem_cons_succ, List.setIfInBounds_toArray, List.set_cons_zero, List.set_cons_succ])
      refine wpAnyH_ready (rs := [5]) (by kernel_rfl) (by simp) (AllReadyH.cons rfl (fun K hK => ?_) AllReadyH.nil)
      go_simp
      (refine (KG1.out _ HCC.out).mono ?_; rintro e w' ⟨rfl, hc⟩; have HCC := Lib.hid (HCC.out.trans hc); clear hc)
      (try go_wp2_with fail)
      refine hK.out _ _ ?_ (fun hHeld => ?_)
      · exact KS.out _ HCC.out
      clear hK K
      (try simp only [Act.put, List.getElem_toArray, List.getElem_cons_zero, List.getElem_cons_succ, List.setIfInBounds_toArray, List.set_cons_zero, List.set_cons_succ])
      refine wpAnyH_ready (rs := [11]) (by kernel_rfl) (by simp) (AllReadyH.cons rfl (fun K hK => ?_) AllReadyH.nil)
      go_simp
      (refine (KG2.out _ HCC.out).mono ?_; rintro e w' ⟨rfl, hc⟩; have HCC := Lib.hid (HCC.out.trans hc); clear hc)
      (try go_wp2_with fail)
      refine hK.out _ _ ?_ (fun hHeld => ?_)
      · exact KS.out _ HCC.out
      clear hK K
      (try simp only [Act.put, List.getElem_toArray, List.getElem_cons_zero, List.getElem_cons_succ, List.setIfInBounds_toArray, List.set_cons_zero, List.set_cons_succ])
      refine wpAnyH_take (i := 12) (v := ?v922_0_12) rfl (by kernel_rfl) (by kernel_rfl) (by kernel_rfl) (fun _ _ _ h => h) (Or.inl ⟨by rfl, ?hy922_0_12⟩) (by assumption) ?_
      case hy922_0_12 => (intro w hSw; (try dsimp only at hSw); go_simp; try (with_reducible rfl))
      (try simp only [Act.put, List.getElem_toArray, List.getElem_cons_zero, List.getElem_cons_succ, List.setIfInBounds_toArray, List.set_cons_zero, List.set_cons_succ])
      refine wpAnyH_ready (rs := [18]) (by kernel_rfl) (by simp) (AllReadyH.cons rfl (fun K hK => ?_) AllReadyH.nil)
      go_simp
      (refine (KW1.out _ HCC.out).mono ?_; rintro e w' ⟨rfl, hc⟩; have HCC := Lib.hid (HCC.out.trans hc); clear hc)
      (try go_wp2_with fail)
      refine hK.out _ _ ?_ (fun hHeld => ?_)
      · exact KS.out _ HCC.out
      clear hK K
      (try simp only [Act.put, List.getElem_toArray, List.getElem_cons_zero, List.getElem_cons_succ, List.setIfInBounds_toArray, List.set_cons_zero, List.set_cons_succ])
      refine wpAnyH_ready (rs := [24]) (by kernel_rfl) (by simp) (AllReadyH.cons rfl (fun K hK => ?_) AllReadyH.nil)
      go_simp
      (refine (KW2.out _ HCC.out).mono ?_; rintro e w' ⟨rfl, hc⟩; have HCC := Lib.hid (HCC.out.trans hc); clear hc)
      (try go_wp2_with fail)
      refine hK.out _ _ ?_ (fun hHeld => ?_)
      · exact KS.out _ HCC.out
      clear hK K
      (try simp only [Act.put, List.getElem_toArray, List.getElem_cons_zero, List.getElem_cons_succ, List.setIfInBounds_toArray, List.set_cons_zero, List.set_cons_succ])
      refine wpAnyH_take (i := 25) (v := ?v922_0_25) rfl (by kernel_rfl) (by kernel_rfl) (by kernel_rfl) (fun _ _ _ h => h) (Or.inl ⟨by rfl, ?hy922_0_25⟩) (by assumption) ?_
      case hy922_0_25 => (intro w hSw; (try dsimp only at hSw); go_simp; try (with_reducible rfl))
      (try simp only [Act.put, List.getElem_toArray, List.getElem_cons_zero, List.getElem_cons_succ, List.setIfInBounds_toArray, List.set_cons_zero, List.set_cons_succ])
      refine wpAnyH_take (i := 26) (v := ?v922_0_26) rfl (by kernel_rfl) (by kernel_rfl) (by kernel_rfl) (fun _ _ _ h => h) (Or.inl ⟨by rfl, ?hy922_0_26⟩) (by assumption) ?_
      case hy922_0_26 => (intro w hSw; (try dsimp only at hSw); go_simp; try (with_reducible rfl))
      (try simp only [Act.put, List.getElem_toArray, List.getElem_cons_zero, List.getElem_cons_succ, List.setIfInBounds_toArray, List.set_cons_zero, List.set_cons_succ])
      refine wpAnyH_take (i := 27) (v := ?v922_0_27) rfl (by kernel_rfl) (by kernel_rfl) (by kernel_rfl) (fun _ _ _ h => h) (Or.inl ⟨by rfl, ?hy922_0_27⟩) (by assumption) ?_
      case hy922_0_27 => (intro w hSw; (try dsimp only at hSw); go_simp; try (with_reducible rfl))
      (try simp only [Act.put, List.getElem_toArray, List.getElem_cons_zero, List.getElem_cons_succ, List.setIfInBounds_toArray, List.set_cons_zero, List.set_cons_succ])
      refine wpAnyH_ready (rs := [28]) (by kernel_rfl) (by simp) (AllReadyH.cons rfl (fun K hK => ?_) AllReadyH.nil)
      go_simp
      (refine (KLV.out _ HCC.out).mono ?_; rintro e w' ⟨rfl, hc⟩; have HCC := Lib.hid (HCC.out.trans hc); clear hc)
      (try go_wp2_with fail)
      refine hK.out _ _ ?_ (fun hHeld => ?_)
      · exact KS.out _ HCC.out
      clear hK K
      (try simp only [Act.put, List.getElem_toArray, List.getElem_cons_zero, List.getElem_cons_succ, List.setIfInBounds_toArray, List.set_cons_zero, List.set_cons_succ])
      refine wpAnyH_take (i := 29) (v := ?v922_0_29) rfl (by kernel_rfl) (by kernel_rfl) (by kernel_rfl) (fun _ _ _ h => h) (Or.inl ⟨by rfl, ?hy922_0_29⟩) (by assumption) ?_
      case hy922_0_29 => (intro w hSw; (try dsimp only at hSw); go_simp; try (with_reducible rfl))
      (try simp only [Act.put, List.getElem_toArray, List.getElem_cons_zero, List.getElem_cons_succ, List.setIfInBounds_toArray, List.set_cons_zero, List.set_cons_succ])
      refine wpAnyH_take (i := 30) (v := ?v922_0_30) rfl (by kernel_rfl) (by kernel_rfl) (by kernel_rfl) (fun _ _ _ h => h) (Or.inl ⟨by rfl, ?hy922_0_30⟩) (by assumption) ?_
      case hy922_0_30 => (intro w hSw; (try dsimp only at hSw); go_simp; try (with_reducible rfl))
      (try simp only [Act.put, List.getElem_toArray, List.getElem_cons_zero, List.getElem_cons_succ, List.setIfInBounds_toArray, List.set_cons_zero, List.set_cons_succ])
      refine wpAnyH_done (by kernel_rfl) ?_ _
      go_wp2
      go_ret
      exact ⟨rfl, HPX.out.ch.trans HCC.out⟩
end Go.Proofs.Ytfpdkeokdojejaa
