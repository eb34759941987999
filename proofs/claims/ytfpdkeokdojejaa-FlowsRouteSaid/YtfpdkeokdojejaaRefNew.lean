/-
  The document's answer for graphs (countinghouseref05): New.
-/
import Derived.Test.YtfpdkeokdojejaaRef05
namespace Go.Proofs.Ytfpdkeokdojejaa
open Go.RowKit Pl

/-- What the document's New answers. -/
def RNewPost (w : World) (l : List Fl) (e : Ending) (w' : World) : Prop :=
  (match newG l with
    | some C => ∃ b v, w.heap.size ≤ b ∧ e = .returned (.tuple #[.pointer (some ⟨b, 0, none⟩), .int .i64 0]) ∧ IsM w' b v C ∧ ∀ g, v.ownBlock = some g → w.heap.size ≤ g
    | none => e = .returned (.tuple #[.pointer none, .int .i64 1])) ∧ Chg [] w w'
theorem RNewPost.good {w w' : World} {l : List Fl} {C : Caps} {b : Nat} {v : Value} (h : newG l = some C) (hb : w.heap.size ≤ b) (hg : IsM w' b v C) (hv : ∀ g, v.ownBlock = some g → w.heap.size ≤ g) (hc : Chg [] w w') : RNewPost w l (.returned (.tuple #[.pointer (some ⟨b, 0, none⟩), .int .i64 0])) w' := by
  unfold RNewPost; rw [h]; exact ⟨⟨_, _, hb, rfl, hg, hv⟩, hc⟩
theorem RNewPost.bad {w w' : World} {l : List Fl} (h : newG l = none) (hc : Chg [] w w') : RNewPost w l (.returned (.tuple #[.pointer none, .int .i64 1])) w' := by
  unfold RNewPost; rw [h]; exact ⟨rfl, hc⟩
theorem RNewPost.yes {w w' : World} {l : List Fl} {C : Caps} {e : Ending} (h : newG l = some C) (k : RNewPost w l e w') : ∃ b v, w.heap.size ≤ b ∧ e = .returned (.tuple #[.pointer (some ⟨b, 0, none⟩), .int .i64 0]) ∧ IsM w' b v C ∧ (∀ g, v.ownBlock = some g → w.heap.size ≤ g) ∧ Chg [] w w' := by
  unfold RNewPost at k; rw [h] at k
  obtain ⟨⟨b, v, h1, h2, h3, h4⟩, h5⟩ := k
  exact ⟨b, v, h1, h2, h3, h4, h5⟩
theorem RNewPost.no {w w' : World} {l : List Fl} {e : Ending} (h : newG l = none) (k : RNewPost w l e w') : e = .returned (.tuple #[.pointer none, .int .i64 1]) ∧ Chg [] w w' := by
  unfold RNewPost at k; rw [h] at k; exact k

theorem IsM.zero {w : World} : IsM (w.alloc (.cells #[.slice none 0 0] 42)) w.heap.size (.slice none 0 0) (fun _ _ => 0) :=
  ⟨Blk.new _ _ _, .inl ⟨by decide +kernel, none, 0, rfl, fun _ => rfl⟩, Laid.zero.good, by simp [Value.ownBlock]⟩

theorem rnew_none {w : World} (ao : Option Addr) (cap : Nat) : Calls Try.prog 13 #[.slice ao 0 cap] w (RNewPost w []) := by
  go_enter Try.func13, Try.ntmps13
  go_wp2
  refine wp_loop_rounds 1 ?_
  rw [rounds_succ]
  go_wp2
  go_ret2
  exact RNewPost.good rfl (Nat.le_refl _) IsM.zero (by simp [Value.ownBlock]) ((Chg.refl _ _).alloc _)

/-- Which ends were told by the first k. -/
def ToldBy (l : List Fl) (k : Nat) (T : Nat → Nat → Bool) : Prop := ∀ a b, T a b = true ↔ ∃ (j : Nat) (h : j < l.length), j < k ∧ l[j].f = a ∧ l[j].t = b

set_option maxRecDepth 100000 in
set_option maxHeartbeats 4000000 in
theorem rnew_cells {w : World} {g off cap : Nat} {l : List Fl} (hm : l.length ≤ 1000000)
    (hc : ∀ k (h : k < l.length), w.cell? ⟨g, off + k * 3, none⟩ = some (.int .u8 l[k].f) ∧ w.cell? ⟨g, off + k * 3 + 1, none⟩ = some (.int .u8 l[k].t) ∧ w.cell? ⟨g, off + k * 3 + 2, none⟩ = some (.int .i64 l[k].n)) :
    Calls Try.prog 13 #[.slice (some ⟨g, off, none⟩) l.length cap] w (RNewPost w l) := by
  have hM0 : IsM (w.alloc (.cells #[.slice none 0 0] 42)) w.heap.size (.slice none 0 0) (fun _ _ => 0) := IsM.zero
  have hC0 : Chg [] w (w.alloc (.cells #[.slice none 0 0] 42)) := (Chg.refl _ _).alloc _
  have HN : Hid (newFrom l (fun _ _ => 0) (fun _ _ => false) = newG l) := rfl
  have HL : Hid (Laid (fun _ _ => 0) (fun _ _ => false)) := Laid.zero
  have HT : Hid (ToldBy l 0 (fun _ _ => false)) := fun a b => ⟨by simp, by rintro ⟨j, _, h, _⟩; omega⟩
  have HC := Lib.hid hc
  clear hc
  go_enter Try.func13, Try.ntmps13
  go_wp2
  go_loopw [5] (fun i wr => ∃ (k : Nat) (C : Caps) (T : Nat → Nat → Bool) (v : Value), k ≤ l.length ∧ i = .int .i64 k ∧ IsM wr w.heap.size v C ∧ (∀ g, v.ownBlock = some g → w.heap.size ≤ g) ∧ Chg [] w wr ∧ Hid (newFrom (l.drop k) C T = newG l) ∧ Hid (Laid C T) ∧ Hid (ToldBy l k T)) (fun i _ => l.length - (intOf i).toNat)
  case atStart => exact ⟨0, _, _, _, Nat.zero_le _, rfl, hM0, by simp [Value.ownBlock], hC0, HN, HL, HT⟩
  case round =>
    obtain ⟨k, C, T, v, hk, rfl, hM, hv, hchg, hN, hL, hT⟩ := hrel
    clear hM0 hC0 HN HL HT
    by_cases hlt : k < l.length
    · obtain ⟨q1, q2, q3⟩ := HC.out k hlt
      have hgl : g < w.heap.size := block_lt_of_cell q1
      have hd : l.drop k = l[k] :: l.drop (k + 1) := List.drop_eq_getElem_cons hlt
      have hTs : Hid (∀ T' : Nat → Nat → Bool, T' = (fun a b => if a = l[k].f ∧ b = l[k].t then true else T a b) → ToldBy l (k + 1) T') := by
        rintro T' rfl a b
        dsimp only
        constructor
        · intro h
          split at h
          · rename_i e; exact ⟨k, hlt, by omega, e.1.symm, e.2.symm⟩
          · obtain ⟨j, hj, h1, h2⟩ := (hT.out a b).1 h
            exact ⟨j, hj, by omega, h2⟩
        · rintro ⟨j, hj, h1, h2, h3⟩
          split
          · rfl
          · rename_i hne
            refine (hT.out a b).2 ⟨j, hj, ?_, h2, h3⟩
            by_cases e : j = k
            · subst e; exact absurd ⟨h2.symm, h3.symm⟩ hne
            · omega
      generalize l[k] = x at q1 q2 q3 hd hTs
      have c1 := (hchg.cell (p := ⟨g, off + k * 3, none⟩) hgl (by simp)).trans q1
      have c2 := (hchg.cell (p := ⟨g, off + k * 3 + 1, none⟩) hgl (by simp)).trans q2
      have c3 := (hchg.cell (p := ⟨g, off + k * 3 + 2, none⟩) hgl (by simp)).trans q3
      rw [hd] at hN
      clear hd q1 q2 q3
      obtain ⟨f, t, n⟩ := x
      dsimp only at c1 c2 c3
      have HERR : ¬(edgeOk ⟨f, t, n⟩ ∧ T f t = false) → Hid (newG l = none) := fun h => by
        have := hN.out
        unfold newFrom at this
        rw [if_neg h] at this
        exact this.symm
      have HOK : edgeOk ⟨f, t, n⟩ ∧ T f t = false → Hid (newFrom (l.drop (k + 1)) (set2 C f t n) (fun a b => if a = f ∧ b = t then true else T a b) = newG l) := fun h => by
        have := hN.out
        unfold newFrom at this
        rw [if_pos h] at this
        exact this
      have H3 := Lib.hid (And.intro HERR HOK)
      clear HERR HOK hN
      have hch2 := hchg.alloc (.cells #[.int .u8 f, .int .u8 t, .int .i64 n] 35)
      have hM2 := hM.chg0 ((Chg.refl [] wr).alloc (.cells #[.int .u8 f, .int .u8 t, .int .i64 n] 35))
      have HX := Lib.hid (And.intro hch2 (And.intro hM2 hv))
      clear hch2 hM2 hv hM hchg
      by_cases h1 : f < 1
      · have HB := H3.out.1 (fun h => by have := h.1.1; dsimp only at this; omega)
        clear H3 hTs hL
        go_wp2
        go_ret2
        exact RNewPost.bad HB.out HX.out.1
      by_cases h2 : 16 < f
      · have HB := H3.out.1 (fun h => by have := h.1.2.1; dsimp only at this; omega)
        clear H3 hTs hL
        go_wp2
        go_ret2
        exact RNewPost.bad HB.out HX.out.1
      by_cases h3 : t < 1
      · have HB := H3.out.1 (fun h => by have := h.1.2.2.1; dsimp only at this; omega)
        clear H3 hTs hL
        go_wp2
        go_ret2
        exact RNewPost.bad HB.out HX.out.1
      by_cases h4 : 16 < t
      · have HB := H3.out.1 (fun h => by have := h.1.2.2.2.1; dsimp only at this; omega)
        clear H3 hTs hL
        go_wp2
        go_ret2
        exact RNewPost.bad HB.out HX.out.1
      by_cases h5 : f = t
      · have HB := H3.out.1 (fun h => h.1.2.2.2.2.1 h5)
        clear H3 hTs hL
        subst h5
        go_wp2
        go_ret2
        exact RNewPost.bad HB.out HX.out.1
      have e5 : ((f : Int) == t) = false := by rw [beq_eq_false_iff_ne]; omega
      by_cases h6 : n < 0
      · have HB := H3.out.1 (fun h => absurd h.1.2.2.2.2.2.1 (Int.not_le.2 h6))
        clear H3 hTs hL
        go_wp2
        go_ret2
        exact RNewPost.bad HB.out HX.out.1
      by_cases h7 : 2199023255552 < n
      · have HB := H3.out.1 (fun h => absurd h.1.2.2.2.2.2.2 (Int.not_le.2 h7))
        clear H3 hTs hL
        go_wp2
        go_ret2
        exact RNewPost.bad HB.out HX.out.1
      have hok : edgeOk ⟨f, t, n⟩ := ⟨by dsimp only; omega, by dsimp only; omega, by dsimp only; omega, by dsimp only; omega, h5, Int.not_lt.1 h6, Int.not_lt.1 h7⟩
      have HOKK := Lib.hid hok
      clear hok
      have hbx := Lib.hid (Blk.new wr 35 #[.int .u8 f, .int .u8 t, .int .i64 n])
      have hmw : w.heap.size < wr.heap.size + 1 := by have := HX.out.2.1.blk.lt; rwa [World.size_alloc] at this
      go_wp2
      obtain ⟨W, hW⟩ : ∃ W : World, W = wr.alloc (.cells #[.int .u8 f, .int .u8 t, .int .i64 n] 35) := ⟨_, rfl⟩
      rw [← hW] at HX hbx ⊢
      obtain ⟨xb, hxb⟩ : ∃ xb : Nat, xb = wr.heap.size := ⟨_, rfl⟩
      have hwsz : W.heap.size = xb + 1 := by rw [hW, World.size_alloc, hxb]
      rw [← hxb] at hmw hbx ⊢
      clear hW c1 c2 c3 hxb
      go_loopw [7] (fun i ws => ∃ j : Nat, j ≤ k ∧ i = .int .i64 j ∧ Chg [] W ws ∧ Hid (∀ i (h : i < l.length), i < j → ¬(l[i].f = f ∧ l[i].t = t))) (fun i _ => k - (intOf i).toNat)
      case atStart => exact ⟨0, Nat.zero_le _, rfl, Chg.refl _ _, fun i _ h => by omega⟩
      case round =>
        obtain ⟨j, hj, rfl, hchg, hF⟩ := hrel
        have hcw := HX.out.1.trans hchg
        have hbs := hbx.out.chg hchg (by simp)
        have b0 : wr.cell? ⟨xb, 0, none⟩ = some (.int .u8 f) := hbs.cell 0
        have b1 : wr.cell? ⟨xb, 1, none⟩ = some (.int .u8 t) := hbs.cell 1
        have b2 : wr.cell? ⟨xb, 2, none⟩ = some (.int .i64 n) := hbs.cell 2
        by_cases hjk : j < k
        · have hjl : j < l.length := by omega
          obtain ⟨q1, q2, _⟩ := HC.out j hjl
          have c1 := (hcw.cell (p := ⟨g, off + j * 3, none⟩) hgl (by simp)).trans q1
          have c2 := (hcw.cell (p := ⟨g, off + j * 3 + 1, none⟩) hgl (by simp)).trans q2
          have hstep : ¬(l[j].f = f ∧ l[j].t = t) → Hid (∀ i (h : i < l.length), i < j + 1 → ¬(l[i].f = f ∧ l[i].t = t)) := fun h i hi hij => by
            by_cases e : i = j
            · subst e; exact h
            · exact hF.out i hi (by omega)
          have hbad : l[j].f = f → l[j].t = t → Hid (newG l = none) := fun e1 e2 => H3.out.1 (fun h => by
            have : T f t = true := (hT.out f t).2 ⟨j, hjl, hjk, e1, e2⟩
            rw [this] at h
            exact absurd h.2 (by simp))
          generalize l[j] = y at c1 c2 hstep hbad q1 q2
          obtain ⟨a, b, m⟩ := y
          dsimp only at c1 c2 hstep hbad
          have HS := Lib.hid (And.intro hstep (And.intro hbad (And.intro hchg hcw)))
          clear q1 q2 hstep hbad hchg hcw hbs hF
          by_cases d1 : a = f
          · by_cases d2 : b = t
            · have HB := HS.out.2.1 d1 d2
              subst d1 d2
              have d3 : ((a : Int) == a) = true := by rw [beq_iff_eq]
              go_wp2
              go_quiet (fail)
              go_wp2
              go_ret2
              exact RNewPost.bad HB.out (HS.out.2.2.2.drewN _)
            · have R := HS.out.1 (fun h => d2 h.2)
              have d3 : ((a : Int) == f) = true := by rw [beq_iff_eq]; omega
              have d4 : ((b : Int) == t) = false := by rw [beq_eq_false_iff_ne]; omega
              clear d1 d2
              go_wp2
              go_quiet (fail)
              go_wp2
              go_roundw
              case rel => exact ⟨j + 1, by omega, by go_num, HS.out.2.2.1.drewN _, R⟩
              case measure => simp [intOf]; omega
          · have R := HS.out.1 (fun h => d1 h.1)
            have d3 : ((a : Int) == f) = false := by rw [beq_eq_false_iff_ne]; omega
            clear d1
            go_wp2
            go_quiet (fail)
            go_wp2
            go_roundw
            case rel => exact ⟨j + 1, by omega, by go_num, HS.out.2.2.1.drewN _, R⟩
            case measure => simp [intOf]; omega
        · obtain rfl : j = k := by omega
          have hTF : T f t = false := by
            cases e : T f t with
            | false => rfl
            | true =>
              obtain ⟨i, hi, h1, h2, h3⟩ := (hT.out f t).1 e
              exact absurd ⟨h2, h3⟩ (hF.out i hi h1)
          have HG := H3.out.2 ⟨HOKK.out, hTF⟩
          have hL' : Hid (Laid (set2 C f t n) (fun a b => if a = f ∧ b = t then true else T a b)) := hL.out.set HOKK.out
          have H5 := Lib.hid (rset (HX.out.2.1.chg0 hchg) hL'.out.good rfl rfl)
          have HW := Lib.hid (And.intro hcw (hTs.out _ rfl))
          clear hcw hchg hbs hF hTF H3 hbx hTs hL
          go_wp2_with fail
          refine H5.out.mono ?_; rintro e w2 ⟨rfl, v2, hm2, hc2, hf2⟩
          have FF : Hid (IsM w2 w.heap.size v2 (set2 C f t n) ∧ (∀ g, v2.ownBlock = some g → w.heap.size ≤ g) ∧ Chg [] w w2) :=
            ⟨hm2, fun g hg => Nat.le_trans HW.out.1.size (hf2 g hg), HW.out.1.fresh hc2 (by intro b hb; simp at hb; subst hb; exact .inr (Nat.le_refl _))⟩
          have HT2 := Lib.hid HW.out.2
          clear hm2 hc2 hf2 HW H5 HX b0 b1 b2
          go_wp2
          go_roundw
          case rel => exact ⟨j + 1, _, _, v2, by omega, by go_num, FF.out.1, FF.out.2.1, FF.out.2.2, HG, hL', HT2⟩
          case measure => simp [intOf]; omega
    · have : l.drop k = [] := List.drop_eq_nil_of_le (by omega)
      have e := hN.out
      rw [this] at e
      have HR := Lib.hid (RNewPost.good e.symm (Nat.le_refl _) hM hv hchg)
      clear e this hN hL hM hv hchg hT HC
      obtain rfl : k = l.length := by omega
      go_wp2
      go_ret2
      exact HR.out

/-- The document's New, of whatever edges. -/
theorem rnew {w : World} {v : Value} {l : List Fl} (h : RdFl w v l) (hm : l.length ≤ 1000000) : Calls Try.prog 13 #[v] w (RNewPost w l) := by
  rcases h with ⟨rfl, ao, cap, rfl, _⟩ | ⟨g, off, cap, rfl, _, hc⟩
  · exact rnew_none ao cap
  · exact rnew_cells hm hc
end Go.Proofs.Ytfpdkeokdojejaa
