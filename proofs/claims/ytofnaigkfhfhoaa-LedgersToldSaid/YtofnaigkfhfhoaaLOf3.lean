/-
  The package ledgers: Of.
-/
import Derived.Test.YtofnaigkfhfhoaaPlOf3
namespace Go.Proofs.Ytofnaigkfhfhoaa
open Go.RowKit Go.Maps Pl
attribute [local go_sem ↓] Go.wp_at_zero Go.wp_at_succ

/-- What Of answers. -/
def OfPost (w : World) (ps : List Nat) (ls : List Ln) (e : Ending) (w' : World) : Prop :=
  if ofE ps ls = 0 then ∃ lb mb, e = .returned (.tuple #[.pointer (some ⟨lb, 0, none⟩), .int .i64 0]) ∧ LS w w' lb mb (setS ps ps.length) ls else e = .returned (.tuple #[.pointer none, .int .i64 (ofE ps ls)]) ∧ Chg [] w w'
theorem OfPost.bad {w w' : World} {ps : List Nat} {ls : List Ln} {r : Int} (h : ofE ps ls = r) (h0 : r ≠ 0) (hc : Chg [] w w') : OfPost w ps ls (.returned (.tuple #[.pointer none, .int .i64 r])) w' := by
  unfold OfPost
  rw [h, if_neg h0]
  exact ⟨rfl, hc⟩
theorem OfPost.ok {w w' : World} {ps : List Nat} {ls : List Ln} {lb mb : Nat} (h : ofE ps ls = 0) (hc : LS w w' lb mb (setS ps ps.length) ls) : OfPost w ps ls (.returned (.tuple #[.pointer (some ⟨lb, 0, none⟩), .int .i64 0])) w' := by
  unfold OfPost
  rw [if_pos h]
  exact ⟨lb, mb, rfl, hc⟩
theorem ofE_p {ps : List Nat} {ls : List Ln} {k : Nat} (hk : k < ps.length) (h : ¬ pOk ps k) : ofE ps ls = 1 := by
  unfold ofE
  rw [if_neg (fun h' => h (h' k hk))]
theorem ofE_l {ps : List Nat} {ls : List Ln} {k : Nat} (hp : ∀ k, k < ps.length → pOk ps k) (h64 : ¬ 64 < ls.length) (hk : k < ls.length) (h : ¬ lOk (setS ps ps.length) ls k) : ofE ps ls = 1 := by
  unfold ofE
  rw [if_pos hp, if_neg h64, if_neg (fun h' => h (h' k hk))]

set_option maxRecDepth 100000 in
set_option maxHeartbeats 8000000 in
theorem lof3 {w : World} {vp vl : Value} {ps : List Nat} {ls : List Ln} (hp : RdPt w vp ps) (hl : RdLn w vl ls) (hps : ∀ p ∈ ps, p < 256) (hls : ∀ x ∈ ls, x.small) (hpm : ps.length ≤ 1000000) (hlm : ls.length ≤ 1000000) :
    Calls Try.prog 40 #[vp, vl] w (OfPost w ps ls) := by
  have HP := Lib.hid hp
  have HL := Lib.hid hl
  obtain ⟨pa, pc, rfl⟩ := hp.shape
  obtain ⟨la, lc, rfl⟩ := hl.shape
  have HPS := Lib.hid hps
  have HLS := Lib.hid hls
  clear hp hl hps hls
  go_enter Try.func40, Try.ntmps40
  go_wp2_with fail
  refine (ls_new w).mono ?_
  rintro e w1 ⟨lb, mb, rfl, hh⟩
  rw [← setS_zero ps] at hh
  have H := Lib.hid hh
  clear hh
  go_wp2
  go_loopw [7, 8, 15] (fun _ _ i wr => ∃ k : Nat, k ≤ ps.length ∧ i = .int .i64 k ∧ Hid (LS w wr lb mb (setS ps k) []) ∧ Hid (∀ j, j < k → pOk ps j)) (fun _ _ i _ => ps.length - (intOf i).toNat)
  case atStart => exact ⟨0, by omega, rfl, H, Lib.hid (by omega)⟩
  case round =>
    clear H
    obtain ⟨k, hk, rfl, H, HK⟩ := hrel
    by_cases hlt : k < ps.length
    · obtain ⟨g, off, rfl, _, _, hcell⟩ := rdP_pos HP.out (by omega)
      have hc0 := hcell wr H.out.ch k hlt
      have h256 : px ps k < 256 := by rw [px_get hlt]; exact HPS.out _ (List.getElem_mem hlt)
      have HOP := Lib.hid (lopen H.out.led h256)
      by_cases h1 : k = 0 ∨ px ps (k - 1) < px ps k
      · have HN := Lib.hid (setS_new hlt HK.out h1)
        by_cases h2 : 1 ≤ px ps k ∧ px ps k ≤ 16
        · have hE : lopenE (setS ps k) (px ps k) = 0 := by unfold lopenE; rw [if_pos h2, HN.out]; rfl
          have hS : lopenS (setS ps k) (px ps k) = setS ps (k + 1) := by unfold lopenS; rw [if_pos hE, setS_succ hlt]
          rw [hE, hS] at HOP
          have HK2 : Hid (∀ j, j < k + 1 → pOk ps j) := Lib.hid (fun j hj => by
            by_cases e : j = k
            · subst e; exact ⟨h2, h1⟩
            · exact HK.out j (by omega))
          clear hE hS
          by_cases hk0 : k = 0
          · subst hk0
            clear h1 h2 hcell
            generalize px ps 0 = p at hc0 HOP
            simp only [Nat.add_zero] at hc0
            go_wp2_with fail
            refine HOP.out.mono ?_; rintro e w2 ⟨rfl, hI, hc⟩
            have H2 := Lib.hid (H.out.step hI hc (by simp))
            clear hI hc
            go_wp2
            go_roundw
            case rel => exact ⟨1, by omega, rfl, H2, HK2⟩
            case measure => simp [intOf]; omega
          · have hc1 := hcell wr H.out.ch (k - 1) (by omega)
            have hpos : (0 : Int) < k := by omega
            have t1 : decide (0 < k) = true := decide_eq_true (by omega)
            have hlt2 : px ps (k - 1) < px ps k := by omega
            have t2 : decide (px ps k ≤ px ps (k - 1)) = false := decide_eq_false (by omega)
            have hkk : (k : Int) - 1 = ((k - 1 : Nat) : Int) := by omega
            have hkt : ((k : Int) - 1).toNat = k - 1 := by omega
            clear h1 h2 hcell
            generalize px ps k = p at hc0 HOP hlt2 t2
            generalize px ps (k - 1) = q at hc1 hlt2 t2
            go_wp2_with fail
            refine HOP.out.mono ?_; rintro e w2 ⟨rfl, hI, hc⟩
            have H2 := Lib.hid (H.out.step hI hc (by simp))
            clear hI hc
            go_wp2
            go_roundw
            case rel => exact ⟨k + 1, by omega, by go_num, H2, HK2⟩
            case measure => simp [intOf]; omega
        · have hE : lopenE (setS ps k) (px ps k) = 1 := by unfold lopenE; rw [if_neg h2]
          have hBAD : Hid (ofE ps ls = 1) := Lib.hid (ofE_p hlt (fun h => h2 h.1))
          rw [hE] at HOP
          clear hE HK
          by_cases hk0 : k = 0
          · subst hk0
            clear h1 h2 hcell
            generalize px ps 0 = p at hc0 HOP
            simp only [Nat.add_zero] at hc0
            go_wp2_with fail
            refine HOP.out.mono ?_; rintro e w2 ⟨rfl, hI, hc⟩
            have H2 := Lib.hid (H.out.step hI hc (by simp))
            clear hI hc
            go_wp2
            go_ret2
            exact OfPost.bad hBAD.out (by decide) H2.out.ch
          · have hc1 := hcell wr H.out.ch (k - 1) (by omega)
            have hpos : (0 : Int) < k := by omega
            have t1 : decide (0 < k) = true := decide_eq_true (by omega)
            have hlt2 : px ps (k - 1) < px ps k := by omega
            have t2 : decide (px ps k ≤ px ps (k - 1)) = false := decide_eq_false (by omega)
            have hkk : (k : Int) - 1 = ((k - 1 : Nat) : Int) := by omega
            have hkt : ((k : Int) - 1).toNat = k - 1 := by omega
            clear h1 h2 hcell
            generalize px ps k = p at hc0 HOP hlt2 t2
            generalize px ps (k - 1) = q at hc1 hlt2 t2
            go_wp2_with fail
            refine HOP.out.mono ?_; rintro e w2 ⟨rfl, hI, hc⟩
            have H2 := Lib.hid (H.out.step hI hc (by simp))
            clear hI hc
            go_wp2
            go_ret2
            exact OfPost.bad hBAD.out (by decide) H2.out.ch
      · have hBAD : Hid (ofE ps ls = 1) := Lib.hid (ofE_p hlt (fun h => h1 h.2))
        have hk0 : k ≠ 0 := fun e => h1 (.inl e)
        have hc1 := hcell wr H.out.ch (k - 1) (by omega)
        have hpos : (0 : Int) < k := by omega
        have t1 : decide (0 < k) = true := decide_eq_true (by omega)
        have hlt2 : px ps k ≤ px ps (k - 1) := by omega
        have t2 : decide (px ps k ≤ px ps (k - 1)) = true := decide_eq_true (by omega)
        have hkk : (k : Int) - 1 = ((k - 1 : Nat) : Int) := by omega
        have hkt : ((k : Int) - 1).toNat = k - 1 := by omega
        clear h1 hcell HK HOP
        generalize px ps k = p at hc0 hlt2 t2 h256
        generalize px ps (k - 1) = q at hc1 hlt2 t2
        go_wp2
        go_ret2
        exact OfPost.bad hBAD.out (by decide) H.out.ch
    · obtain rfl : k = ps.length := by omega
      by_cases h64 : 64 < ls.length
      · have hBAD : Hid (ofE ps ls = 9) := Lib.hid (by unfold ofE; rw [if_pos HK.out, if_pos h64])
        have h64' : (64 : Int) < ls.length := by omega
        go_wp2
        go_ret2
        exact OfPost.bad hBAD.out (by decide) H.out.ch
      have h64' : (ls.length : Int) ≤ 64 := by omega
      have h64d : decide (64 < (ls.length : Int)) = false := decide_eq_false (by omega)
      have H0 : Hid (LS w wr lb mb (setS ps ps.length) (ls.take 0)) := H
      have HPO := Lib.hid HK.out
      clear H HK HP HPS
      obtain ⟨SS, hSS⟩ : ∃ SS, SS = setS ps ps.length := ⟨_, rfl⟩
      have HB : Hid (∀ k, k < ls.length → ¬ lOk SS ls k → ofE ps ls = 1) := Lib.hid (fun k hk hn => ofE_l HPO.out h64 hk (by rw [← hSS]; exact hn))
      have HO : Hid ((∀ k, k < ls.length → lOk SS ls k) → ofE ps ls = 0) := Lib.hid (fun hn => by unfold ofE; rw [if_pos HPO.out, if_neg h64, if_pos (by rw [← hSS]; exact hn)])
      have HGO : Hid (∀ k, k ≤ ls.length → (∀ j, j < k → lOk SS ls j) → GoodL SS (ls.take k)) := Lib.hid (fun k hk hn => by rw [hSS]; exact good_of HPO.out hk (by omega) (by rw [← hSS]; exact hn))
      have HSS := Lib.hid hSS
      rw [← hSS] at H0
      clear hSS
      go_wp2
      go_loopw [9, 10, 11, 43] (fun _ _ _ i wr => ∃ k : Nat, k ≤ ls.length ∧ i = .int .i64 k ∧ Hid (LS w wr lb mb SS (ls.take k)) ∧ Hid (∀ j, j < k → lOk SS ls j)) (fun _ _ _ i _ => ls.length - (intOf i).toNat)
      case atStart => exact ⟨0, by omega, rfl, H0, Lib.hid (by omega)⟩
      case round =>
        clear H0
        obtain ⟨k, hk, rfl, H, HK⟩ := hrel
        by_cases hlt : k < ls.length
        · obtain ⟨g, off, rfl, _, _, hcell⟩ := rdL_pos HL.out (by omega)
          have HCELL := Lib.hid hcell
          obtain ⟨r0, r1, r2, r3, r4⟩ := hcell wr H.out.ch k hlt
          have hsm : (lx ls k).small := by rw [lx_get hlt]; exact HLS.out _ (List.getElem_mem hlt)
          have HNB := Lib.hid (fun hn : ¬ lOk SS ls k => HB.out k hlt hn)
          have HST : Hid ((k = 0 ∨ (lx ls (k - 1)).rank < (lx ls k).rank) → setL (ls.take k) (lx ls k) = ls.take (k + 1)) := Lib.hid (fun h => set_take hlt HK.out h)
          have HORD : Hid (k ≠ 0 → (cfL (lx ls (k - 1)) (lx ls k) < 0 ↔ (lx ls (k - 1)).rank < (lx ls k).rank)) := Lib.hid (fun h0 => cfL_lt (by rw [lx_get (by omega)]; exact HLS.out _ (List.getElem_mem (by omega))) hsm)
          have HLO : Hid (lOk SS ls k = (endsOk (lx ls k).cr (lx ls k).db (lx ls k).cu = true ∧ SS (lx ls k).cr = true ∧ SS (lx ls k).db = true ∧ (1 ≤ (lx ls k).lim ∧ (lx ls k).lim ≤ 1099511627776 ∧ 0 ≤ (lx ls k).deb ∧ (lx ls k).deb ≤ (lx ls k).lim) ∧ (k = 0 ∨ (lx ls (k - 1)).rank < (lx ls k).rank))) := Lib.hid rfl
          have hlen : (ls.take k).length ≤ 64 := by rw [List.length_take]; omega
          clear hcell
          generalize lx ls k = x at *
          obtain ⟨c, d, u, lm, db⟩ := x
          dsimp only at r0 r1 r2 r3 r4
          obtain ⟨s1, s2, s3⟩ := hsm
          dsimp only at s1 s2 s3
          dsimp only at HLO
          go_wp2_with fail
          have HNE0 : Hid (lb ≠ mb ∧ mb < wr.heap.size ∧ lb < wr.heap.size) := Lib.hid ⟨H.out.led.ne, H.out.led.map.lt, H.out.led.blk.lt⟩
          have HXB := Lib.hid ((Blk.new wr 62 #[.int .u8 c, .int .u8 d, .int .u8 u, .int .i64 lm, .int .i64 db]).alloc (.cells #[.int .u8 c, .int .u8 d, .int .u8 u] 118))
          have HEB : Hid (Blk ((wr.alloc (.cells #[.int .u8 c, .int .u8 d, .int .u8 u, .int .i64 lm, .int .i64 db] 62)).alloc (.cells #[.int .u8 c, .int .u8 d, .int .u8 u] 118)) (wr.heap.size + 1) 118 #[.int .u8 c, .int .u8 d, .int .u8 u]) := Lib.hid (by have := Blk.new (wr.alloc (.cells #[.int .u8 c, .int .u8 d, .int .u8 u, .int .i64 lm, .int .i64 db] 62)) 118 #[.int .u8 c, .int .u8 d, .int .u8 u]; rw [World.size_alloc] at this; exact this)
          have HWX : Hid (Chg [] wr ((wr.alloc (.cells #[.int .u8 c, .int .u8 d, .int .u8 u, .int .i64 lm, .int .i64 db] 62)).alloc (.cells #[.int .u8 c, .int .u8 d, .int .u8 u] 118))) := Lib.hid (((Chg.refl _ _).alloc _).alloc _)
          refine (lends c d u _).mono ?_; rintro e w2 ⟨rfl, hc⟩
          have H2 := Lib.hid (H.out.chg0 (HWX.out.trans hc))
          have HX2 := Lib.hid (HXB.out.chg hc (by simp))
          have HE2 := Lib.hid (HEB.out.chg hc (by simp))
          clear hc r0 r1 r2 r3 r4 HXB HEB HWX H
          cases hok : endsOk c d u with
          | false =>
            have hn : Hid (¬ (endsOk c d u = true)) := Lib.hid (by rw [hok]; decide)
            go_wp2
            go_ret2
            exact OfPost.bad (HNB.out (fun h => by rw [HLO.out] at h; exact hn.out h.1)) (by decide) H2.out.ch
          | true =>
            obtain ⟨k1, k2, k3, k4, k5⟩ := endsOk_of hok
            have hc17 : (c : Int) < 17 := by omega
            have hd17 : (d : Int) < 17 := by omega
            have HOK := Lib.hid hok
            have KS0 : Hid (∀ W, Chg [] w2 W → W.cell? ⟨wr.heap.size, 0, none⟩ = some (.int .u8 c) ∧ W.cell? ⟨wr.heap.size, 1, none⟩ = some (.int .u8 d) ∧ W.cell? ⟨wr.heap.size, 2, none⟩ = some (.int .u8 u) ∧ W.cell? ⟨wr.heap.size, 3, none⟩ = some (.int .i64 lm) ∧ W.cell? ⟨wr.heap.size, 4, none⟩ = some (.int .i64 db) ∧ W.cell? ⟨wr.heap.size + 1, 0, none⟩ = some (.int .u8 c) ∧ W.cell? ⟨wr.heap.size + 1, 1, none⟩ = some (.int .u8 d) ∧ W.cell? ⟨wr.heap.size + 1, 2, none⟩ = some (.int .u8 u) ∧ W.cell? ⟨lb, 17, none⟩ = some (.map (some mb)) ∧ W.cell? ⟨lb, c, none⟩ = some (.bool (SS c)) ∧ W.cell? ⟨lb, d, none⟩ = some (.bool (SS d))) := Lib.hid fun W k => ⟨(HX2.out.chg k (by simp)).cell 0, (HX2.out.chg k (by simp)).cell 1, (HX2.out.chg k (by simp)).cell 2, (HX2.out.chg k (by simp)).cell 3, (HX2.out.chg k (by simp)).cell 4, (HE2.out.chg k (by simp)).cell 0, (HE2.out.chg k (by simp)).cell 1, (HE2.out.chg k (by simp)).cell 2, (H2.out.led.chg0 k).cell, (H2.out.led.chg0 k).party (by omega), (H2.out.led.chg0 k).party (by omega)⟩
            have HNE : Hid (lb ≠ mb ∧ mb < wr.heap.size ∧ lb < wr.heap.size) := HNE0
            have HSM : Hid ((⟨c, d, u, lm, db⟩ : Ln).small) := Lib.hid ⟨s1, s2, s3⟩
            clear k1 k2 k3 k4 k5 hok
            cases hb1 : SS c with
            | false =>
              have KS := KS0
              rw [hb1] at KS
              have HB1 := Lib.hid hb1
              clear hb1 KS0
              go_wp2_with fail
              refine wp_region_held_drew (S := (fun W : World => W.cell? ⟨wr.heap.size, 0, none⟩ = some (.int .u8 c) ∧ W.cell? ⟨wr.heap.size, 1, none⟩ = some (.int .u8 d) ∧ W.cell? ⟨wr.heap.size, 2, none⟩ = some (.int .u8 u) ∧ W.cell? ⟨wr.heap.size, 3, none⟩ = some (.int .i64 lm) ∧ W.cell? ⟨wr.heap.size, 4, none⟩ = some (.int .i64 db) ∧ W.cell? ⟨wr.heap.size + 1, 0, none⟩ = some (.int .u8 c) ∧ W.cell? ⟨wr.heap.size + 1, 1, none⟩ = some (.int .u8 d) ∧ W.cell? ⟨wr.heap.size + 1, 2, none⟩ = some (.int .u8 u) ∧ W.cell? ⟨lb, 17, none⟩ = some (.map (some mb)) ∧ W.cell? ⟨lb, c, none⟩ = some (.bool false) ∧ W.cell? ⟨lb, d, none⟩ = some (.bool (SS d)))) (by kernel_rfl) ?_ (fun hHeld => ?_)
              · exact KS.out _ (by (repeat first | exact Chg.refl _ _ | apply Chg.drew | apply Chg.alloc))
              refine wpAnyH_take (i := 0) (v := ?va15_0_0) rfl (by kernel_rfl) (by kernel_rfl) (by kernel_rfl) (fun _ _ _ h => h) (Or.inl ⟨by rfl, ?hya15_0_0⟩) (by assumption) ?_
              case hya15_0_0 => (intro w hSw; (try dsimp only at hSw); go_simp; try (with_reducible rfl))
              (try simp only [Act.put, List.getElem_toArray, List.getElem_cons_zero, List.setIfInBounds_toArray, List.set_cons_zero, List.set_cons_succ])
              refine wpAnyH_take (i := 1) (v := ?va15_0_1) rfl (by kernel_rfl) (by kernel_rfl) (by kernel_rfl) (fun _ _ _ h => h) (Or.inl ⟨by rfl, ?hya15_0_1⟩) (by assumption) ?_
              case hya15_0_1 => (intro w hSw; (try dsimp only at hSw); go_simp; try (with_reducible rfl))
              (try simp only [Act.put, List.getElem_toArray, List.getElem_cons_zero, List.getElem_cons_succ, List.setIfInBounds_toArray, List.set_cons_zero, List.set_cons_succ])
              refine wpAnyH_take (i := 2) (v := ?va15_0_2) rfl (by kernel_rfl) (by kernel_rfl) (by kernel_rfl) (fun _ _ _ h => h) (Or.inl ⟨by rfl, ?hya15_0_2⟩) (by assumption) ?_
              case hya15_0_2 => (intro w hSw; (try dsimp only at hSw); go_simp; try (with_reducible rfl))
              (try simp only [Act.put, List.getElem_toArray, List.getElem_cons_zero, List.getElem_cons_succ, List.setIfInBounds_toArray, List.set_cons_zero, List.set_cons_succ])
              refine wpAnyH_take (i := 3) (v := ?va15_0_3) rfl (by kernel_rfl) (by kernel_rfl) (by kernel_rfl) (fun _ _ _ h => h) (Or.inl ⟨by rfl, ?hya15_0_3⟩) (by assumption) ?_
              case hya15_0_3 => (intro w hSw; (try dsimp only at hSw); go_simp; try (with_reducible rfl))
              (try simp only [Act.put, List.getElem_toArray, List.getElem_cons_zero, List.getElem_cons_succ, List.setIfInBounds_toArray, List.set_cons_zero, List.set_cons_succ])
              refine wpAnyH_take (i := 4) (v := ?va15_0_4) rfl (by kernel_rfl) (by kernel_rfl) (by kernel_rfl) (fun _ _ _ h => h) (Or.inl ⟨by rfl, ?hya15_0_4⟩) (by assumption) ?_
              case hya15_0_4 => (intro w hSw; (try dsimp only at hSw); go_simp; try (with_reducible rfl))
              (try simp only [Act.put, List.getElem_toArray, List.getElem_cons_zero, List.getElem_cons_succ, List.setIfInBounds_toArray, List.set_cons_zero, List.set_cons_succ])
              refine wpAnyH_take (i := 5) (v := ?va15_0_5) rfl (by kernel_rfl) (by kernel_rfl) (by kernel_rfl) (fun _ _ _ h => h) (Or.inl ⟨by rfl, ?hya15_0_5⟩) (by assumption) ?_
              case hya15_0_5 => (intro w hSw; (try dsimp only at hSw); go_simp; try (with_reducible rfl))
              (try simp only [Act.put, List.getElem_toArray, List.getElem_cons_zero, List.getElem_cons_succ, List.setIfInBounds_toArray, List.set_cons_zero, List.set_cons_succ])
              refine wpAnyH_take (i := 6) (v := ?va15_0_6) rfl (by kernel_rfl) (by kernel_rfl) (by kernel_rfl) (fun _ _ _ h => h) (Or.inl ⟨by rfl, ?hya15_0_6⟩) (by assumption) ?_
              case hya15_0_6 => (intro w hSw; (try dsimp only at hSw); go_simp; try (with_reducible rfl))
              (try simp only [Act.put, List.getElem_toArray, List.getElem_cons_zero, List.getElem_cons_succ, List.setIfInBounds_toArray, List.set_cons_zero, List.set_cons_succ])
              refine wpAnyH_take (i := 7) (v := ?va15_0_7) rfl (by kernel_rfl) (by kernel_rfl) (by kernel_rfl) (fun _ _ _ h => h) (Or.inl ⟨by rfl, ?hya15_0_7⟩) (by assumption) ?_
              case hya15_0_7 => (intro w hSw; (try dsimp only at hSw); go_simp; try (with_reducible rfl))
              (try simp only [Act.put, List.getElem_toArray, List.getElem_cons_zero, List.getElem_cons_succ, List.setIfInBounds_toArray, List.set_cons_zero, List.set_cons_succ])
              refine wpAnyH_take (i := 8) (v := ?va15_0_8) rfl (by kernel_rfl) (by kernel_rfl) (by kernel_rfl) (fun _ _ _ h => h) (Or.inl ⟨by rfl, ?hya15_0_8⟩) (by assumption) ?_
              case hya15_0_8 => (intro w hSw; (try dsimp only at hSw); go_simp; try (with_reducible rfl))
              (try simp only [Act.put, List.getElem_toArray, List.getElem_cons_zero, List.getElem_cons_succ, List.setIfInBounds_toArray, List.set_cons_zero, List.set_cons_succ])
              refine wpAnyH_done (by kernel_rfl) ?_ _
              clear hHeld
              go_wp2
              go_ret2
              exact OfPost.bad (HNB.out (fun h => by rw [HLO.out] at h; have := HB1.out; rw [h.2.1] at this; cases this)) (by decide) (H2.out.ch.trans (by (repeat first | exact Chg.refl _ _ | apply Chg.drew | apply Chg.alloc)))
            | true =>
              cases hb2 : SS d with
              | false =>
                have KS := KS0
                rw [hb1, hb2] at KS
                have HB2 := Lib.hid hb2
                clear hb1 hb2 KS0
                go_wp2_with fail
                refine wp_region_held_drew (S := (fun W : World => W.cell? ⟨wr.heap.size, 0, none⟩ = some (.int .u8 c) ∧ W.cell? ⟨wr.heap.size, 1, none⟩ = some (.int .u8 d) ∧ W.cell? ⟨wr.heap.size, 2, none⟩ = some (.int .u8 u) ∧ W.cell? ⟨wr.heap.size, 3, none⟩ = some (.int .i64 lm) ∧ W.cell? ⟨wr.heap.size, 4, none⟩ = some (.int .i64 db) ∧ W.cell? ⟨wr.heap.size + 1, 0, none⟩ = some (.int .u8 c) ∧ W.cell? ⟨wr.heap.size + 1, 1, none⟩ = some (.int .u8 d) ∧ W.cell? ⟨wr.heap.size + 1, 2, none⟩ = some (.int .u8 u) ∧ W.cell? ⟨lb, 17, none⟩ = some (.map (some mb)) ∧ W.cell? ⟨lb, c, none⟩ = some (.bool true) ∧ W.cell? ⟨lb, d, none⟩ = some (.bool false))) (by kernel_rfl) ?_ (fun hHeld => ?_)
                · exact KS.out _ (by (repeat first | exact Chg.refl _ _ | apply Chg.drew | apply Chg.alloc))
                refine wpAnyH_take (i := 0) (v := ?vb15_0_0) rfl (by kernel_rfl) (by kernel_rfl) (by kernel_rfl) (fun _ _ _ h => h) (Or.inl ⟨by rfl, ?hyb15_0_0⟩) (by assumption) ?_
                case hyb15_0_0 => (intro w hSw; (try dsimp only at hSw); go_simp; try (with_reducible rfl))
                (try simp only [Act.put, List.getElem_toArray, List.getElem_cons_zero, List.setIfInBounds_toArray, List.set_cons_zero, List.set_cons_succ])
                refine wpAnyH_take (i := 1) (v := ?vb15_0_1) rfl (by kernel_rfl) (by kernel_rfl) (by kernel_rfl) (fun _ _ _ h => h) (Or.inl ⟨by rfl, ?hyb15_0_1⟩) (by assumption) ?_
                case hyb15_0_1 => (intro w hSw; (try dsimp only at hSw); go_simp; try (with_reducible rfl))
                (try simp only [Act.put, List.getElem_toArray, List.getElem_cons_zero, List.getElem_cons_succ, List.setIfInBounds_toArray, List.set_cons_zero, List.set_cons_succ])
                refine wpAnyH_take (i := 2) (v := ?vb15_0_2) rfl (by kernel_rfl) (by kernel_rfl) (by kernel_rfl) (fun _ _ _ h => h) (Or.inl ⟨by rfl, ?hyb15_0_2⟩) (by assumption) ?_
                case hyb15_0_2 => (intro w hSw; (try dsimp only at hSw); go_simp; try (with_reducible rfl))
                (try simp only [Act.put, List.getElem_toArray, List.getElem_cons_zero, List.getElem_cons_succ, List.setIfInBounds_toArray, List.set_cons_zero, List.set_cons_succ])
                refine wpAnyH_take (i := 3) (v := ?vb15_0_3) rfl (by kernel_rfl) (by kernel_rfl) (by kernel_rfl) (fun _ _ _ h => h) (Or.inl ⟨by rfl, ?hyb15_0_3⟩) (by assumption) ?_
                case hyb15_0_3 => (intro w hSw; (try dsimp only at hSw); go_simp; try (with_reducible rfl))
                (try simp only [Act.put, List.getElem_toArray, List.getElem_cons_zero, List.getElem_cons_succ, List.setIfInBounds_toArray, List.set_cons_zero, List.set_cons_succ])
                refine wpAnyH_take (i := 4) (v := ?vb15_0_4) rfl (by kernel_rfl) (by kernel_rfl) (by kernel_rfl) (fun _ _ _ h => h) (Or.inl ⟨by rfl, ?hyb15_0_4⟩) (by assumption) ?_
                case hyb15_0_4 => (intro w hSw; (try dsimp only at hSw); go_simp; try (with_reducible rfl))
                (try simp only [Act.put, List.getElem_toArray, List.getElem_cons_zero, List.getElem_cons_succ, List.setIfInBounds_toArray, List.set_cons_zero, List.set_cons_succ])
                refine wpAnyH_take (i := 5) (v := ?vb15_0_5) rfl (by kernel_rfl) (by kernel_rfl) (by kernel_rfl) (fun _ _ _ h => h) (Or.inl ⟨by rfl, ?hyb15_0_5⟩) (by assumption) ?_
                case hyb15_0_5 => (intro w hSw; (try dsimp only at hSw); go_simp; try (with_reducible rfl))
                (try simp only [Act.put, List.getElem_toArray, List.getElem_cons_zero, List.getElem_cons_succ, List.setIfInBounds_toArray, List.set_cons_zero, List.set_cons_succ])
                refine wpAnyH_take (i := 6) (v := ?vb15_0_6) rfl (by kernel_rfl) (by kernel_rfl) (by kernel_rfl) (fun _ _ _ h => h) (Or.inl ⟨by rfl, ?hyb15_0_6⟩) (by assumption) ?_
                case hyb15_0_6 => (intro w hSw; (try dsimp only at hSw); go_simp; try (with_reducible rfl))
                (try simp only [Act.put, List.getElem_toArray, List.getElem_cons_zero, List.getElem_cons_succ, List.setIfInBounds_toArray, List.set_cons_zero, List.set_cons_succ])
                refine wpAnyH_take (i := 7) (v := ?vb15_0_7) rfl (by kernel_rfl) (by kernel_rfl) (by kernel_rfl) (fun _ _ _ h => h) (Or.inl ⟨by rfl, ?hyb15_0_7⟩) (by assumption) ?_
                case hyb15_0_7 => (intro w hSw; (try dsimp only at hSw); go_simp; try (with_reducible rfl))
                (try simp only [Act.put, List.getElem_toArray, List.getElem_cons_zero, List.getElem_cons_succ, List.setIfInBounds_toArray, List.set_cons_zero, List.set_cons_succ])
                refine wpAnyH_take (i := 8) (v := ?vb15_0_8) rfl (by kernel_rfl) (by kernel_rfl) (by kernel_rfl) (fun _ _ _ h => h) (Or.inl ⟨by rfl, ?hyb15_0_8⟩) (by assumption) ?_
                case hyb15_0_8 => (intro w hSw; (try dsimp only at hSw); go_simp; try (with_reducible rfl))
                (try simp only [Act.put, List.getElem_toArray, List.getElem_cons_zero, List.getElem_cons_succ, List.setIfInBounds_toArray, List.set_cons_zero, List.set_cons_succ])
                refine wpAnyH_done (by kernel_rfl) ?_ _
                clear hHeld
                go_wp2_with fail
                refine wp_region_held_drew (S := (fun W : World => W.cell? ⟨wr.heap.size, 0, none⟩ = some (.int .u8 c) ∧ W.cell? ⟨wr.heap.size, 1, none⟩ = some (.int .u8 d) ∧ W.cell? ⟨wr.heap.size, 2, none⟩ = some (.int .u8 u) ∧ W.cell? ⟨wr.heap.size, 3, none⟩ = some (.int .i64 lm) ∧ W.cell? ⟨wr.heap.size, 4, none⟩ = some (.int .i64 db) ∧ W.cell? ⟨wr.heap.size + 1, 0, none⟩ = some (.int .u8 c) ∧ W.cell? ⟨wr.heap.size + 1, 1, none⟩ = some (.int .u8 d) ∧ W.cell? ⟨wr.heap.size + 1, 2, none⟩ = some (.int .u8 u) ∧ W.cell? ⟨lb, 17, none⟩ = some (.map (some mb)) ∧ W.cell? ⟨lb, c, none⟩ = some (.bool true) ∧ W.cell? ⟨lb, d, none⟩ = some (.bool false))) (by kernel_rfl) ?_ (fun hHeld => ?_)
                · exact KS.out _ (by (repeat first | exact Chg.refl _ _ | apply Chg.drew | apply Chg.alloc))
                refine wpAnyH_take (i := 0) (v := ?vb16_0_0) rfl (by kernel_rfl) (by kernel_rfl) (by kernel_rfl) (fun _ _ _ h => h) (Or.inl ⟨by rfl, ?hyb16_0_0⟩) (by assumption) ?_
                case hyb16_0_0 => (intro w hSw; (try dsimp only at hSw); go_simp; try (with_reducible rfl))
                (try simp only [Act.put, List.getElem_toArray, List.getElem_cons_zero, List.setIfInBounds_toArray, List.set_cons_zero, List.set_cons_succ])
                refine wpAnyH_take (i := 1) (v := ?vb16_0_1) rfl (by kernel_rfl) (by kernel_rfl) (by kernel_rfl) (fun _ _ _ h => h) (Or.inl ⟨by rfl, ?hyb16_0_1⟩) (by assumption) ?_
                case hyb16_0_1 => (intro w hSw; (try dsimp only at hSw); go_simp; try (with_reducible rfl))
                (try simp only [Act.put, List.getElem_toArray, List.getElem_cons_zero, List.getElem_cons_succ, List.setIfInBounds_toArray, List.set_cons_zero, List.set_cons_succ])
                refine wpAnyH_take (i := 2) (v := ?vb16_0_2) rfl (by kernel_rfl) (by kernel_rfl) (by kernel_rfl) (fun _ _ _ h => h) (Or.inl ⟨by rfl, ?hyb16_0_2⟩) (by assumption) ?_
                case hyb16_0_2 => (intro w hSw; (try dsimp only at hSw); go_simp; try (with_reducible rfl))
                (try simp only [Act.put, List.getElem_toArray, List.getElem_cons_zero, List.getElem_cons_succ, List.setIfInBounds_toArray, List.set_cons_zero, List.set_cons_succ])
                refine wpAnyH_take (i := 3) (v := ?vb16_0_3) rfl (by kernel_rfl) (by kernel_rfl) (by kernel_rfl) (fun _ _ _ h => h) (Or.inl ⟨by rfl, ?hyb16_0_3⟩) (by assumption) ?_
                case hyb16_0_3 => (intro w hSw; (try dsimp only at hSw); go_simp; try (with_reducible rfl))
                (try simp only [Act.put, List.getElem_toArray, List.getElem_cons_zero, List.getElem_cons_succ, List.setIfInBounds_toArray, List.set_cons_zero, List.set_cons_succ])
                refine wpAnyH_take (i := 4) (v := ?vb16_0_4) rfl (by kernel_rfl) (by kernel_rfl) (by kernel_rfl) (fun _ _ _ h => h) (Or.inl ⟨by rfl, ?hyb16_0_4⟩) (by assumption) ?_
                case hyb16_0_4 => (intro w hSw; (try dsimp only at hSw); go_simp; try (with_reducible rfl))
                (try simp only [Act.put, List.getElem_toArray, List.getElem_cons_zero, List.getElem_cons_succ, List.setIfInBounds_toArray, List.set_cons_zero, List.set_cons_succ])
                refine wpAnyH_take (i := 5) (v := ?vb16_0_5) rfl (by kernel_rfl) (by kernel_rfl) (by kernel_rfl) (fun _ _ _ h => h) (Or.inl ⟨by rfl, ?hyb16_0_5⟩) (by assumption) ?_
                case hyb16_0_5 => (intro w hSw; (try dsimp only at hSw); go_simp; try (with_reducible rfl))
                (try simp only [Act.put, List.getElem_toArray, List.getElem_cons_zero, List.getElem_cons_succ, List.setIfInBounds_toArray, List.set_cons_zero, List.set_cons_succ])
                refine wpAnyH_take (i := 6) (v := ?vb16_0_6) rfl (by kernel_rfl) (by kernel_rfl) (by kernel_rfl) (fun _ _ _ h => h) (Or.inl ⟨by rfl, ?hyb16_0_6⟩) (by assumption) ?_
                case hyb16_0_6 => (intro w hSw; (try dsimp only at hSw); go_simp; try (with_reducible rfl))
                (try simp only [Act.put, List.getElem_toArray, List.getElem_cons_zero, List.getElem_cons_succ, List.setIfInBounds_toArray, List.set_cons_zero, List.set_cons_succ])
                refine wpAnyH_take (i := 7) (v := ?vb16_0_7) rfl (by kernel_rfl) (by kernel_rfl) (by kernel_rfl) (fun _ _ _ h => h) (Or.inl ⟨by rfl, ?hyb16_0_7⟩) (by assumption) ?_
                case hyb16_0_7 => (intro w hSw; (try dsimp only at hSw); go_simp; try (with_reducible rfl))
                (try simp only [Act.put, List.getElem_toArray, List.getElem_cons_zero, List.getElem_cons_succ, List.setIfInBounds_toArray, List.set_cons_zero, List.set_cons_succ])
                refine wpAnyH_take (i := 8) (v := ?vb16_0_8) rfl (by kernel_rfl) (by kernel_rfl) (by kernel_rfl) (fun _ _ _ h => h) (Or.inl ⟨by rfl, ?hyb16_0_8⟩) (by assumption) ?_
                case hyb16_0_8 => (intro w hSw; (try dsimp only at hSw); go_simp; try (with_reducible rfl))
                (try simp only [Act.put, List.getElem_toArray, List.getElem_cons_zero, List.getElem_cons_succ, List.setIfInBounds_toArray, List.set_cons_zero, List.set_cons_succ])
                refine wpAnyH_done (by kernel_rfl) ?_ _
                clear hHeld
                go_wp2
                go_ret2
                exact OfPost.bad (HNB.out (fun h => by rw [HLO.out] at h; have := HB2.out; rw [h.2.2.1] at this; cases this)) (by decide) (H2.out.ch.trans (by (repeat first | exact Chg.refl _ _ | apply Chg.drew | apply Chg.alloc)))
              | true =>
                have KS := KS0
                rw [hb1, hb2] at KS
                have HB12 := Lib.hid (And.intro hb1 hb2)
                clear hb1 hb2 KS0
                obtain ⟨y0, y1, y2, y3, y4, y5, y6, y7, y8, y9, y10⟩ := KS.out w2 (Chg.refl _ _)
                clear y0 y1 y2 y5 y6 y7 y8 y9 y10
                by_cases hv : 1 ≤ lm ∧ lm ≤ 1099511627776 ∧ 0 ≤ db ∧ db ≤ lm
                · by_cases hrk : k = 0 ∨ (lx ls (k - 1)).rank < (⟨c, d, u, lm, db⟩ : Ln).rank
                  · have hx : Hid (lOk SS ls k) := Lib.hid (by rw [HLO.out]; exact ⟨HOK.out, HB12.out.1, HB12.out.2, hv, hrk⟩)
                    have HNX : Hid (setL (ls.take k) ⟨c, d, u, lm, db⟩ = ls.take (k + 1)) := Lib.hid (HST.out hrk)
                    have HK2 : Hid (∀ j, j < k + 1 → lOk SS ls j) := Lib.hid (fun j hj => by
                      by_cases e : j = k
                      · subst e; exact hx.out
                      · exact HK.out j (by omega))
                    obtain ⟨v1, v2, v3, v4⟩ := hv
                    have t1 : decide (lm < 1) = false := decide_eq_false (by omega)
                    have t2 : decide (1099511627776 < lm) = false := decide_eq_false (by omega)
                    have t3 : decide (db < 0) = false := decide_eq_false (by omega)
                    have t4 : decide (lm < db) = false := decide_eq_false (by omega)
                    by_cases hk0 : k = 0
                    · subst hk0
                      clear hrk HORD
                      go_wp2_with fail
                      refine wp_region_held_drew (S := (fun W : World => W.cell? ⟨wr.heap.size, 0, none⟩ = some (.int .u8 c) ∧ W.cell? ⟨wr.heap.size, 1, none⟩ = some (.int .u8 d) ∧ W.cell? ⟨wr.heap.size, 2, none⟩ = some (.int .u8 u) ∧ W.cell? ⟨wr.heap.size, 3, none⟩ = some (.int .i64 lm) ∧ W.cell? ⟨wr.heap.size, 4, none⟩ = some (.int .i64 db) ∧ W.cell? ⟨wr.heap.size + 1, 0, none⟩ = some (.int .u8 c) ∧ W.cell? ⟨wr.heap.size + 1, 1, none⟩ = some (.int .u8 d) ∧ W.cell? ⟨wr.heap.size + 1, 2, none⟩ = some (.int .u8 u) ∧ W.cell? ⟨lb, 17, none⟩ = some (.map (some mb)) ∧ W.cell? ⟨lb, c, none⟩ = some (.bool true) ∧ W.cell? ⟨lb, d, none⟩ = some (.bool true))) (by kernel_rfl) ?_ (fun hHeld => ?_)
                      · exact KS.out _ (by (repeat first | exact Chg.refl _ _ | apply Chg.drew | apply Chg.alloc))
                      refine wpAnyH_take (i := 0) (v := ?vc15_0_0) rfl (by kernel_rfl) (by kernel_rfl) (by kernel_rfl) (fun _ _ _ h => h) (Or.inl ⟨by rfl, ?hyc15_0_0⟩) (by assumption) ?_
                      case hyc15_0_0 => (intro w hSw; (try dsimp only at hSw); go_simp; try (with_reducible rfl))
                      (try simp only [Act.put, List.getElem_toArray, List.getElem_cons_zero, List.setIfInBounds_toArray, List.set_cons_zero, List.set_cons_succ])
                      refine wpAnyH_take (i := 1) (v := ?vc15_0_1) rfl (by kernel_rfl) (by kernel_rfl) (by kernel_rfl) (fun _ _ _ h => h) (Or.inl ⟨by rfl, ?hyc15_0_1⟩) (by assumption) ?_
                      case hyc15_0_1 => (intro w hSw; (try dsimp only at hSw); go_simp; try (with_reducible rfl))
                      (try simp only [Act.put, List.getElem_toArray, List.getElem_cons_zero, List.getElem_cons_succ, List.setIfInBounds_toArray, List.set_cons_zero, List.set_cons_succ])
                      refine wpAnyH_take (i := 2) (v := ?vc15_0_2) rfl (by kernel_rfl) (by kernel_rfl) (by kernel_rfl) (fun _ _ _ h => h) (Or.inl ⟨by rfl, ?hyc15_0_2⟩) (by assumption) ?_
                      case hyc15_0_2 => (intro w hSw; (try dsimp only at hSw); go_simp; try (with_reducible rfl))
                      (try simp only [Act.put, List.getElem_toArray, List.getElem_cons_zero, List.getElem_cons_succ, List.setIfInBounds_toArray, List.set_cons_zero, List.set_cons_succ])
                      refine wpAnyH_take (i := 3) (v := ?vc15_0_3) rfl (by kernel_rfl) (by kernel_rfl) (by kernel_rfl) (fun _ _ _ h => h) (Or.inl ⟨by rfl, ?hyc15_0_3⟩) (by assumption) ?_
                      case hyc15_0_3 => (intro w hSw; (try dsimp only at hSw); go_simp; try (with_reducible rfl))
                      (try simp only [Act.put, List.getElem_toArray, List.getElem_cons_zero, List.getElem_cons_succ, List.setIfInBounds_toArray, List.set_cons_zero, List.set_cons_succ])
                      refine wpAnyH_take (i := 4) (v := ?vc15_0_4) rfl (by kernel_rfl) (by kernel_rfl) (by kernel_rfl) (fun _ _ _ h => h) (Or.inl ⟨by rfl, ?hyc15_0_4⟩) (by assumption) ?_
                      case hyc15_0_4 => (intro w hSw; (try dsimp only at hSw); go_simp; try (with_reducible rfl))
                      (try simp only [Act.put, List.getElem_toArray, List.getElem_cons_zero, List.getElem_cons_succ, List.setIfInBounds_toArray, List.set_cons_zero, List.set_cons_succ])
                      refine wpAnyH_take (i := 5) (v := ?vc15_0_5) rfl (by kernel_rfl) (by kernel_rfl) (by kernel_rfl) (fun _ _ _ h => h) (Or.inl ⟨by rfl, ?hyc15_0_5⟩) (by assumption) ?_
                      case hyc15_0_5 => (intro w hSw; (try dsimp only at hSw); go_simp; try (with_reducible rfl))
                      (try simp only [Act.put, List.getElem_toArray, List.getElem_cons_zero, List.getElem_cons_succ, List.setIfInBounds_toArray, List.set_cons_zero, List.set_cons_succ])
                      refine wpAnyH_take (i := 6) (v := ?vc15_0_6) rfl (by kernel_rfl) (by kernel_rfl) (by kernel_rfl) (fun _ _ _ h => h) (Or.inl ⟨by rfl, ?hyc15_0_6⟩) (by assumption) ?_
                      case hyc15_0_6 => (intro w hSw; (try dsimp only at hSw); go_simp; try (with_reducible rfl))
                      (try simp only [Act.put, List.getElem_toArray, List.getElem_cons_zero, List.getElem_cons_succ, List.setIfInBounds_toArray, List.set_cons_zero, List.set_cons_succ])
                      refine wpAnyH_take (i := 7) (v := ?vc15_0_7) rfl (by kernel_rfl) (by kernel_rfl) (by kernel_rfl) (fun _ _ _ h => h) (Or.inl ⟨by rfl, ?hyc15_0_7⟩) (by assumption) ?_
                      case hyc15_0_7 => (intro w hSw; (try dsimp only at hSw); go_simp; try (with_reducible rfl))
                      (try simp only [Act.put, List.getElem_toArray, List.getElem_cons_zero, List.getElem_cons_succ, List.setIfInBounds_toArray, List.set_cons_zero, List.set_cons_succ])
                      refine wpAnyH_take (i := 8) (v := ?vc15_0_8) rfl (by kernel_rfl) (by kernel_rfl) (by kernel_rfl) (fun _ _ _ h => h) (Or.inl ⟨by rfl, ?hyc15_0_8⟩) (by assumption) ?_
                      case hyc15_0_8 => (intro w hSw; (try dsimp only at hSw); go_simp; try (with_reducible rfl))
                      (try simp only [Act.put, List.getElem_toArray, List.getElem_cons_zero, List.getElem_cons_succ, List.setIfInBounds_toArray, List.set_cons_zero, List.set_cons_succ])
                      refine wpAnyH_done (by kernel_rfl) ?_ _
                      clear hHeld
                      go_wp2_with fail
                      refine wp_region_held_drew (S := (fun W : World => W.cell? ⟨wr.heap.size, 0, none⟩ = some (.int .u8 c) ∧ W.cell? ⟨wr.heap.size, 1, none⟩ = some (.int .u8 d) ∧ W.cell? ⟨wr.heap.size, 2, none⟩ = some (.int .u8 u) ∧ W.cell? ⟨wr.heap.size, 3, none⟩ = some (.int .i64 lm) ∧ W.cell? ⟨wr.heap.size, 4, none⟩ = some (.int .i64 db) ∧ W.cell? ⟨wr.heap.size + 1, 0, none⟩ = some (.int .u8 c) ∧ W.cell? ⟨wr.heap.size + 1, 1, none⟩ = some (.int .u8 d) ∧ W.cell? ⟨wr.heap.size + 1, 2, none⟩ = some (.int .u8 u) ∧ W.cell? ⟨lb, 17, none⟩ = some (.map (some mb)) ∧ W.cell? ⟨lb, c, none⟩ = some (.bool true) ∧ W.cell? ⟨lb, d, none⟩ = some (.bool true))) (by kernel_rfl) ?_ (fun hHeld => ?_)
                      · exact KS.out _ (by (repeat first | exact Chg.refl _ _ | apply Chg.drew | apply Chg.alloc))
                      refine wpAnyH_take (i := 0) (v := ?vc16_0_0) rfl (by kernel_rfl) (by kernel_rfl) (by kernel_rfl) (fun _ _ _ h => h) (Or.inl ⟨by rfl, ?hyc16_0_0⟩) (by assumption) ?_
                      case hyc16_0_0 => (intro w hSw; (try dsimp only at hSw); go_simp; try (with_reducible rfl))
                      (try simp only [Act.put, List.getElem_toArray, List.getElem_cons_zero, List.setIfInBounds_toArray, List.set_cons_zero, List.set_cons_succ])
                      refine wpAnyH_take (i := 1) (v := ?vc16_0_1) rfl (by kernel_rfl) (by kernel_rfl) (by kernel_rfl) (fun _ _ _ h => h) (Or.inl ⟨by rfl, ?hyc16_0_1⟩) (by assumption) ?_
                      case hyc16_0_1 => (intro w hSw; (try dsimp only at hSw); go_simp; try (with_reducible rfl))
                      (try simp only [Act.put, List.getElem_toArray, List.getElem_cons_zero, List.getElem_cons_succ, List.setIfInBounds_toArray, List.set_cons_zero, List.set_cons_succ])
                      refine wpAnyH_take (i := 2) (v := ?vc16_0_2) rfl (by kernel_rfl) (by kernel_rfl) (by kernel_rfl) (fun _ _ _ h => h) (Or.inl ⟨by rfl, ?hyc16_0_2⟩) (by assumption) ?_
                      case hyc16_0_2 => (intro w hSw; (try dsimp only at hSw); go_simp; try (with_reducible rfl))
                      (try simp only [Act.put, List.getElem_toArray, List.getElem_cons_zero, List.getElem_cons_succ, List.setIfInBounds_toArray, List.set_cons_zero, List.set_cons_succ])
                      refine wpAnyH_take (i := 3) (v := ?vc16_0_3) rfl (by kernel_rfl) (by kernel_rfl) (by kernel_rfl) (fun _ _ _ h => h) (Or.inl ⟨by rfl, ?hyc16_0_3⟩) (by assumption) ?_
                      case hyc16_0_3 => (intro w hSw; (try dsimp only at hSw); go_simp; try (with_reducible rfl))
                      (try simp only [Act.put, List.getElem_toArray, List.getElem_cons_zero, List.getElem_cons_succ, List.setIfInBounds_toArray, List.set_cons_zero, List.set_cons_succ])
                      refine wpAnyH_take (i := 4) (v := ?vc16_0_4) rfl (by kernel_rfl) (by kernel_rfl) (by kernel_rfl) (fun _ _ _ h => h) (Or.inl ⟨by rfl, ?hyc16_0_4⟩) (by assumption) ?_
                      case hyc16_0_4 => (intro w hSw; (try dsimp only at hSw); go_simp; try (with_reducible rfl))
                      (try simp only [Act.put, List.getElem_toArray, List.getElem_cons_zero, List.getElem_cons_succ, List.setIfInBounds_toArray, List.set_cons_zero, List.set_cons_succ])
                      refine wpAnyH_take (i := 5) (v := ?vc16_0_5) rfl (by kernel_rfl) (by kernel_rfl) (by kernel_rfl) (fun _ _ _ h => h) (Or.inl ⟨by rfl, ?hyc16_0_5⟩) (by assumption) ?_
                      case hyc16_0_5 => (intro w hSw; (try dsimp only at hSw); go_simp; try (with_reducible rfl))
                      (try simp only [Act.put, List.getElem_toArray, List.getElem_cons_zero, List.getElem_cons_succ, List.setIfInBounds_toArray, List.set_cons_zero, List.set_cons_succ])
                      refine wpAnyH_take (i := 6) (v := ?vc16_0_6) rfl (by kernel_rfl) (by kernel_rfl) (by kernel_rfl) (fun _ _ _ h => h) (Or.inl ⟨by rfl, ?hyc16_0_6⟩) (by assumption) ?_
                      case hyc16_0_6 => (intro w hSw; (try dsimp only at hSw); go_simp; try (with_reducible rfl))
                      (try simp only [Act.put, List.getElem_toArray, List.getElem_cons_zero, List.getElem_cons_succ, List.setIfInBounds_toArray, List.set_cons_zero, List.set_cons_succ])
                      refine wpAnyH_take (i := 7) (v := ?vc16_0_7) rfl (by kernel_rfl) (by kernel_rfl) (by kernel_rfl) (fun _ _ _ h => h) (Or.inl ⟨by rfl, ?hyc16_0_7⟩) (by assumption) ?_
                      case hyc16_0_7 => (intro w hSw; (try dsimp only at hSw); go_simp; try (with_reducible rfl))
                      (try simp only [Act.put, List.getElem_toArray, List.getElem_cons_zero, List.getElem_cons_succ, List.setIfInBounds_toArray, List.set_cons_zero, List.set_cons_succ])
                      refine wpAnyH_take (i := 8) (v := ?vc16_0_8) rfl (by kernel_rfl) (by kernel_rfl) (by kernel_rfl) (fun _ _ _ h => h) (Or.inl ⟨by rfl, ?hyc16_0_8⟩) (by assumption) ?_
                      case hyc16_0_8 => (intro w hSw; (try dsimp only at hSw); go_simp; try (with_reducible rfl))
                      (try simp only [Act.put, List.getElem_toArray, List.getElem_cons_zero, List.getElem_cons_succ, List.setIfInBounds_toArray, List.set_cons_zero, List.set_cons_succ])
                      refine wpAnyH_done (by kernel_rfl) ?_ _
                      clear hHeld
                      go_wp2_with fail
                      refine wp_region_held_drew (S := (fun W : World => W.cell? ⟨wr.heap.size, 0, none⟩ = some (.int .u8 c) ∧ W.cell? ⟨wr.heap.size, 1, none⟩ = some (.int .u8 d) ∧ W.cell? ⟨wr.heap.size, 2, none⟩ = some (.int .u8 u) ∧ W.cell? ⟨wr.heap.size, 3, none⟩ = some (.int .i64 lm) ∧ W.cell? ⟨wr.heap.size, 4, none⟩ = some (.int .i64 db) ∧ W.cell? ⟨wr.heap.size + 1, 0, none⟩ = some (.int .u8 c) ∧ W.cell? ⟨wr.heap.size + 1, 1, none⟩ = some (.int .u8 d) ∧ W.cell? ⟨wr.heap.size + 1, 2, none⟩ = some (.int .u8 u) ∧ W.cell? ⟨lb, 17, none⟩ = some (.map (some mb)) ∧ W.cell? ⟨lb, c, none⟩ = some (.bool true) ∧ W.cell? ⟨lb, d, none⟩ = some (.bool true))) (by kernel_rfl) ?_ (fun hHeld => ?_)
                      · exact KS.out _ (by (repeat first | exact Chg.refl _ _ | apply Chg.drew | apply Chg.alloc))
                      refine wpAnyH_take (i := 0) (v := ?vc23_0_0) rfl (by kernel_rfl) (by kernel_rfl) (by kernel_rfl) (fun _ _ _ h => h) (Or.inl ⟨by rfl, ?hyc23_0_0⟩) (by assumption) ?_
                      case hyc23_0_0 => (intro w hSw; (try dsimp only at hSw); go_simp; try (with_reducible rfl))
                      (try simp only [Act.put, List.getElem_toArray, List.getElem_cons_zero, List.setIfInBounds_toArray, List.set_cons_zero, List.set_cons_succ])
                      refine wpAnyH_take (i := 1) (v := ?vc23_0_1) rfl (by kernel_rfl) (by kernel_rfl) (by kernel_rfl) (fun _ _ _ h => h) (Or.inl ⟨by rfl, ?hyc23_0_1⟩) (by assumption) ?_
                      case hyc23_0_1 => (intro w hSw; (try dsimp only at hSw); go_simp; try (with_reducible rfl))
                      (try simp only [Act.put, List.getElem_toArray, List.getElem_cons_zero, List.getElem_cons_succ, List.setIfInBounds_toArray, List.set_cons_zero, List.set_cons_succ])
                      refine wpAnyH_take (i := 2) (v := ?vc23_0_2) rfl (by kernel_rfl) (by kernel_rfl) (by kernel_rfl) (fun _ _ _ h => h) (Or.inl ⟨by rfl, ?hyc23_0_2⟩) (by assumption) ?_
                      case hyc23_0_2 => (intro w hSw; (try dsimp only at hSw); go_simp; try (with_reducible rfl))
                      (try simp only [Act.put, List.getElem_toArray, List.getElem_cons_zero, List.getElem_cons_succ, List.setIfInBounds_toArray, List.set_cons_zero, List.set_cons_succ])
                      refine wpAnyH_take (i := 3) (v := undef) rfl (by kernel_rfl) (by kernel_rfl) (by kernel_rfl) (fun _ _ _ h => h) (Or.inr ⟨by rfl, rfl⟩) (by assumption) ?_
                      (try simp only [Act.put, List.getElem_toArray, List.getElem_cons_zero, List.getElem_cons_succ, List.setIfInBounds_toArray, List.set_cons_zero, List.set_cons_succ])
                      refine wpAnyH_take (i := 4) (v := undef) rfl (by kernel_rfl) (by kernel_rfl) (by kernel_rfl) (fun _ _ _ h => h) (Or.inr ⟨by rfl, rfl⟩) (by assumption) ?_
                      (try simp only [Act.put, List.getElem_toArray, List.getElem_cons_zero, List.getElem_cons_succ, List.setIfInBounds_toArray, List.set_cons_zero, List.set_cons_succ])
                      refine wpAnyH_take (i := 5) (v := undef) rfl (by kernel_rfl) (by kernel_rfl) (by kernel_rfl) (fun _ _ _ h => h) (Or.inr ⟨by rfl, rfl⟩) (by assumption) ?_
                      (try simp only [Act.put, List.getElem_toArray, List.getElem_cons_zero, List.getElem_cons_succ, List.setIfInBounds_toArray, List.set_cons_zero, List.set_cons_succ])
                      refine wpAnyH_take (i := 6) (v := undef) rfl (by kernel_rfl) (by kernel_rfl) (by kernel_rfl) (fun _ _ _ h => h) (Or.inr ⟨by rfl, rfl⟩) (by assumption) ?_
                      (try simp only [Act.put, List.getElem_toArray, List.getElem_cons_zero, List.getElem_cons_succ, List.setIfInBounds_toArray, List.set_cons_zero, List.set_cons_succ])
                      refine wpAnyH_take (i := 7) (v := undef) rfl (by kernel_rfl) (by kernel_rfl) (by kernel_rfl) (fun _ _ _ h => h) (Or.inr ⟨by rfl, rfl⟩) (by assumption) ?_
                      (try simp only [Act.put, List.getElem_toArray, List.getElem_cons_zero, List.getElem_cons_succ, List.setIfInBounds_toArray, List.set_cons_zero, List.set_cons_succ])
                      refine wpAnyH_take (i := 8) (v := undef) rfl (by kernel_rfl) (by kernel_rfl) (by kernel_rfl) (fun _ _ _ h => h) (Or.inr ⟨by rfl, rfl⟩) (by assumption) ?_
                      (try simp only [Act.put, List.getElem_toArray, List.getElem_cons_zero, List.getElem_cons_succ, List.setIfInBounds_toArray, List.set_cons_zero, List.set_cons_succ])
                      refine wpAnyH_take (i := 9) (v := undef) rfl (by kernel_rfl) (by kernel_rfl) (by kernel_rfl) (fun _ _ _ h => h) (Or.inr ⟨by rfl, rfl⟩) (by assumption) ?_
                      (try simp only [Act.put, List.getElem_toArray, List.getElem_cons_zero, List.getElem_cons_succ, List.setIfInBounds_toArray, List.set_cons_zero, List.set_cons_succ])
                      refine wpAnyH_take (i := 10) (v := undef) rfl (by kernel_rfl) (by kernel_rfl) (by kernel_rfl) (fun _ _ _ h => h) (Or.inr ⟨by rfl, rfl⟩) (by assumption) ?_
                      (try simp only [Act.put, List.getElem_toArray, List.getElem_cons_zero, List.getElem_cons_succ, List.setIfInBounds_toArray, List.set_cons_zero, List.set_cons_succ])
                      refine wpAnyH_take (i := 11) (v := ?vc23_0_11) rfl (by kernel_rfl) (by kernel_rfl) (by kernel_rfl) (fun _ _ _ h => h) (Or.inl ⟨by rfl, ?hyc23_0_11⟩) (by assumption) ?_
                      case hyc23_0_11 => (intro w hSw; (try dsimp only at hSw); go_simp; try (with_reducible rfl))
                      (try simp only [Act.put, List.getElem_toArray, List.getElem_cons_zero, List.getElem_cons_succ, List.setIfInBounds_toArray, List.set_cons_zero, List.set_cons_succ])
                      refine wpAnyH_take (i := 12) (v := ?vc23_0_12) rfl (by kernel_rfl) (by kernel_rfl) (by kernel_rfl) (fun _ _ _ h => h) (Or.inl ⟨by rfl, ?hyc23_0_12⟩) (by assumption) ?_
                      case hyc23_0_12 => (intro w hSw; (try dsimp only at hSw); go_simp; try (with_reducible rfl))
                      (try simp only [Act.put, List.getElem_toArray, List.getElem_cons_zero, List.getElem_cons_succ, List.setIfInBounds_toArray, List.set_cons_zero, List.set_cons_succ])
                      refine wpAnyH_done (by kernel_rfl) ?_ _
                      clear hHeld
                      have HLW := Lib.hid (H2.out.chg0 ((((Chg.refl [] w2).drew).drew).drew))
                      obtain ⟨W4, hr4, hm4, ht4⟩ := HLW.out.led.map.drew.store (x := ⟨c, d, u, lm, db⟩) (by omega) HSM.out
                      dsimp only at hr4
                      rw [HNX.out] at hm4
                      have KT : Hid (Chg [mb] w2.drew.drew.drew W4) := Lib.hid ((Chg.refl _ _).drew.trans (turned_chg ht4))
                      have HM4 := Lib.hid hm4
                      have KS4 : Hid (∀ W, Chg [mb] w2.drew.drew.drew W → W.cell? ⟨wr.heap.size, 0, none⟩ = some (.int .u8 c) ∧ W.cell? ⟨wr.heap.size, 1, none⟩ = some (.int .u8 d) ∧ W.cell? ⟨wr.heap.size, 2, none⟩ = some (.int .u8 u) ∧ W.cell? ⟨wr.heap.size, 3, none⟩ = some (.int .i64 lm) ∧ W.cell? ⟨wr.heap.size, 4, none⟩ = some (.int .i64 db) ∧ W.cell? ⟨wr.heap.size + 1, 0, none⟩ = some (.int .u8 c) ∧ W.cell? ⟨wr.heap.size + 1, 1, none⟩ = some (.int .u8 d) ∧ W.cell? ⟨wr.heap.size + 1, 2, none⟩ = some (.int .u8 u) ∧ W.cell? ⟨lb, 17, none⟩ = some (.map (some mb))) := Lib.hid fun W hW => by
                        obtain ⟨n1, n2, n3⟩ := HNE.out
                        have q1 := HLW.out.led.blk.chg hW (by simpa using n1)
                        have q2 := (HX2.out.chg ((((Chg.refl [] w2).drew).drew).drew) (by simp)).chg hW (by simp; omega)
                        have q3 := (HE2.out.chg ((((Chg.refl [] w2).drew).drew).drew) (by simp)).chg hW (by simp; omega)
                        exact ⟨q2.cell 0, q2.cell 1, q2.cell 2, q2.cell 3, q2.cell 4, q3.cell 0, q3.cell 1, q3.cell 2, by rw [q1.cell, ledC_map]⟩
                      clear hm4 ht4
                      go_wp2_with fail
                      refine wp_region_held_drew (S := (fun W : World => W.cell? ⟨wr.heap.size, 0, none⟩ = some (.int .u8 c) ∧ W.cell? ⟨wr.heap.size, 1, none⟩ = some (.int .u8 d) ∧ W.cell? ⟨wr.heap.size, 2, none⟩ = some (.int .u8 u) ∧ W.cell? ⟨wr.heap.size, 3, none⟩ = some (.int .i64 lm) ∧ W.cell? ⟨wr.heap.size, 4, none⟩ = some (.int .i64 db) ∧ W.cell? ⟨wr.heap.size + 1, 0, none⟩ = some (.int .u8 c) ∧ W.cell? ⟨wr.heap.size + 1, 1, none⟩ = some (.int .u8 d) ∧ W.cell? ⟨wr.heap.size + 1, 2, none⟩ = some (.int .u8 u) ∧ W.cell? ⟨lb, 17, none⟩ = some (.map (some mb)))) (by kernel_rfl) ?_ (fun hHeld => ?_)
                      · exact KS4.out _ (Chg.refl _ _).drew
                      refine wpAnyH_take (i := 0) (v := ?vc25_0_0) rfl (by kernel_rfl) (by kernel_rfl) (by kernel_rfl) (fun _ _ _ h => h) (Or.inl ⟨by rfl, ?hyc25_0_0⟩) (by assumption) ?_
                      case hyc25_0_0 => (intro w hSw; (try dsimp only at hSw); go_simp; try (with_reducible rfl))
                      (try simp only [Act.put, List.getElem_toArray, List.getElem_cons_zero, List.setIfInBounds_toArray, List.set_cons_zero, List.set_cons_succ])
                      refine wpAnyH_take (i := 1) (v := ?vc25_0_1) rfl (by kernel_rfl) (by kernel_rfl) (by kernel_rfl) (fun _ _ _ h => h) (Or.inl ⟨by rfl, ?hyc25_0_1⟩) (by assumption) ?_
                      case hyc25_0_1 => (intro w hSw; (try dsimp only at hSw); go_simp; try (with_reducible rfl))
                      (try simp only [Act.put, List.getElem_toArray, List.getElem_cons_zero, List.getElem_cons_succ, List.setIfInBounds_toArray, List.set_cons_zero, List.set_cons_succ])
                      refine wpAnyH_take (i := 2) (v := ?vc25_0_2) rfl (by kernel_rfl) (by kernel_rfl) (by kernel_rfl) (fun _ _ _ h => h) (Or.inl ⟨by rfl, ?hyc25_0_2⟩) (by assumption) ?_
                      case hyc25_0_2 => (intro w hSw; (try dsimp only at hSw); go_simp; try (with_reducible rfl))
                      (try simp only [Act.put, List.getElem_toArray, List.getElem_cons_zero, List.getElem_cons_succ, List.setIfInBounds_toArray, List.set_cons_zero, List.set_cons_succ])
                      refine wpAnyH_take (i := 3) (v := ?vc25_0_3) rfl (by kernel_rfl) (by kernel_rfl) (by kernel_rfl) (fun _ _ _ h => h) (Or.inl ⟨by rfl, ?hyc25_0_3⟩) (by assumption) ?_
                      case hyc25_0_3 => (intro w hSw; (try dsimp only at hSw); go_simp; try (with_reducible rfl))
                      (try simp only [Act.put, List.getElem_toArray, List.getElem_cons_zero, List.getElem_cons_succ, List.setIfInBounds_toArray, List.set_cons_zero, List.set_cons_succ])
                      refine wpAnyH_take (i := 4) (v := ?vc25_0_4) rfl (by kernel_rfl) (by kernel_rfl) (by kernel_rfl) (fun _ _ _ h => h) (Or.inl ⟨by rfl, ?hyc25_0_4⟩) (by assumption) ?_
                      case hyc25_0_4 => (intro w hSw; (try dsimp only at hSw); go_simp; try (with_reducible rfl))
                      (try simp only [Act.put, List.getElem_toArray, List.getElem_cons_zero, List.getElem_cons_succ, List.setIfInBounds_toArray, List.set_cons_zero, List.set_cons_succ])
                      refine wpAnyH_take (i := 5) (v := ?vc25_0_5) rfl (by kernel_rfl) (by kernel_rfl) (by kernel_rfl) (fun _ _ _ h => h) (Or.inl ⟨by rfl, ?hyc25_0_5⟩) (by assumption) ?_
                      case hyc25_0_5 => (intro w hSw; (try dsimp only at hSw); go_simp; try (with_reducible rfl))
                      (try simp only [Act.put, List.getElem_toArray, List.getElem_cons_zero, List.getElem_cons_succ, List.setIfInBounds_toArray, List.set_cons_zero, List.set_cons_succ])
                      refine wpAnyH_take (i := 6) (v := ?vc25_0_6) rfl (by kernel_rfl) (by kernel_rfl) (by kernel_rfl) (fun _ _ _ h => h) (Or.inl ⟨by rfl, ?hyc25_0_6⟩) (by assumption) ?_
                      case hyc25_0_6 => (intro w hSw; (try dsimp only at hSw); go_simp; try (with_reducible rfl))
                      (try simp only [Act.put, List.getElem_toArray, List.getElem_cons_zero, List.getElem_cons_succ, List.setIfInBounds_toArray, List.set_cons_zero, List.set_cons_succ])
                      refine wpAnyH_take (i := 7) (v := ?vc25_0_7) rfl (by kernel_rfl) (by kernel_rfl) (by kernel_rfl) (fun _ _ _ h => h) (Or.inl ⟨by rfl, ?hyc25_0_7⟩) (by assumption) ?_
                      case hyc25_0_7 => (intro w hSw; (try dsimp only at hSw); go_simp; try (with_reducible rfl))
                      (try simp only [Act.put, List.getElem_toArray, List.getElem_cons_zero, List.getElem_cons_succ, List.setIfInBounds_toArray, List.set_cons_zero, List.set_cons_succ])
                      refine wpAnyH_take (i := 8) (v := ?vc25_0_8) rfl (by kernel_rfl) (by kernel_rfl) (by kernel_rfl) (fun _ _ _ h => h) (Or.inl ⟨by rfl, ?hyc25_0_8⟩) (by assumption) ?_
                      case hyc25_0_8 => (intro w hSw; (try dsimp only at hSw); go_simp; try (with_reducible rfl))
                      (try simp only [Act.put, List.getElem_toArray, List.getElem_cons_zero, List.getElem_cons_succ, List.setIfInBounds_toArray, List.set_cons_zero, List.set_cons_succ])
                      refine wpAnyH_take (i := 9) (v := ?vc25_0_9) rfl (by kernel_rfl) (by kernel_rfl) (by kernel_rfl) (fun _ _ _ h => h) (Or.inl ⟨by rfl, ?hyc25_0_9⟩) (by assumption) ?_
                      case hyc25_0_9 => (intro w hSw; (try dsimp only at hSw); go_simp; try (with_reducible rfl))
                      (try simp only [Act.put, List.getElem_toArray, List.getElem_cons_zero, List.getElem_cons_succ, List.setIfInBounds_toArray, List.set_cons_zero, List.set_cons_succ])
                      refine wpAnyH_ready (rs := [10]) (by kernel_rfl) (by simp) (AllReadyH.cons rfl (fun K hK => ?_) AllReadyH.nil)
                      go_simp
                      refine hK.out _ _ ?_ (fun hHeld => ?_)
                      · exact KS4.out _ KT.out
                      clear hK K
                      (try simp only [Act.put, List.getElem_toArray, List.getElem_cons_zero, List.getElem_cons_succ, List.setIfInBounds_toArray, List.set_cons_zero, List.set_cons_succ])
                      refine wpAnyH_done (by kernel_rfl) ?_ _
                      clear hHeld hr4
                      have hI4 : IsL W4 lb mb SS (ls.take (0 + 1)) := ⟨HLW.out.led.blk.chg KT.out (by simpa using HNE.out.1), HM4.out, HGO.out (0 + 1) (by omega) HK2.out⟩
                      have H4 := Lib.hid (HLW.out.step hI4 KT.out (by simp))
                      clear hI4
                      go_wp2
                      go_roundw
                      case rel => exact ⟨0 + 1, by omega, by go_num, H4, HK2⟩
                      case measure => simp [intOf]; omega
                    · have hcp := HCELL.out
                      obtain ⟨pv, hpv⟩ : ∃ pv, pv = lx ls (k - 1) := ⟨_, rfl⟩
                      have hz := (HORD.out hk0).2 (by omega)
                      rw [← hpv] at hz
                      obtain ⟨pc1, pd1, pu1, pl1, pn1⟩ := pv
                      obtain ⟨z, hzz⟩ : ∃ z, z = cfL ⟨pc1, pd1, pu1, pl1, pn1⟩ ⟨c, d, u, lm, db⟩ := ⟨_, rfl⟩
                      rw [← hzz] at hz
                      have KO : Hid (∀ W, Calls Try.prog 84 #[.agg #[.int .u8 pc1, .int .u8 pd1, .int .u8 pu1, .int .i64 pl1, .int .i64 pn1], .agg #[.int .u8 c, .int .u8 d, .int .u8 u, .int .i64 lm, .int .i64 db]] W fun e w' => e = .returned (.int .i64 z) ∧ Chg [] W w') := Lib.hid fun W => by
                        have := lorder ⟨pc1, pd1, pu1, pl1, pn1⟩ ⟨c, d, u, lm, db⟩ W
                        rw [← hzz] at this
                        exact this.mono fun _ _ ⟨he, hg⟩ => ⟨he, hg.chg⟩
                      have KSP : Hid (∀ W, Chg [] w2 W → W.cell? ⟨wr.heap.size, 0, none⟩ = some (.int .u8 c) ∧ W.cell? ⟨wr.heap.size, 1, none⟩ = some (.int .u8 d) ∧ W.cell? ⟨wr.heap.size, 2, none⟩ = some (.int .u8 u) ∧ W.cell? ⟨wr.heap.size, 3, none⟩ = some (.int .i64 lm) ∧ W.cell? ⟨wr.heap.size, 4, none⟩ = some (.int .i64 db) ∧ W.cell? ⟨wr.heap.size + 1, 0, none⟩ = some (.int .u8 c) ∧ W.cell? ⟨wr.heap.size + 1, 1, none⟩ = some (.int .u8 d) ∧ W.cell? ⟨wr.heap.size + 1, 2, none⟩ = some (.int .u8 u) ∧ W.cell? ⟨lb, 17, none⟩ = some (.map (some mb)) ∧ W.cell? ⟨g, off + (k - 1) * 5, none⟩ = some (.int .u8 pc1) ∧ W.cell? ⟨g, off + (k - 1) * 5 + 1, none⟩ = some (.int .u8 pd1) ∧ W.cell? ⟨g, off + (k - 1) * 5 + 2, none⟩ = some (.int .u8 pu1) ∧ W.cell? ⟨g, off + (k - 1) * 5 + 3, none⟩ = some (.int .i64 pl1) ∧ W.cell? ⟨g, off + (k - 1) * 5 + 4, none⟩ = some (.int .i64 pn1)) := Lib.hid fun W k' => by
                        obtain ⟨q0, q1, q2, q3, q4, q5, q6, q7, q8, _⟩ := KS.out W k'
                        have := hcp W (H2.out.ch.trans k') (k - 1) (by omega)
                        rw [← hpv] at this
                        obtain ⟨p0, p1, p2, p3, p4⟩ := this
                        exact ⟨q0, q1, q2, q3, q4, q5, q6, q7, q8, p0, p1, p2, p3, p4⟩
                      have hpos : (0 : Int) < k := by omega
                      have tk : decide (0 < k) = true := decide_eq_true (by omega)
                      have hkk : (k : Int) - 1 = ((k - 1 : Nat) : Int) := by omega
                      have hkt : ((k : Int) - 1).toNat = k - 1 := by omega
                      have hk1 : k - 1 < ls.length := by omega
                      have hwk : IntKind.i64.wrap ((k - 1 : Nat) : Int) = ((k - 1 : Nat) : Int) := IntWalk.i64_in _ (by omega)
                      clear hzz hcp hpv
                      have t5 : decide (0 ≤ z) = false := decide_eq_false (by omega)
                      clear hz
                      go_wp2_with fail
                      refine wp_region_held_drew (S := (fun W : World => W.cell? ⟨wr.heap.size, 0, none⟩ = some (.int .u8 c) ∧ W.cell? ⟨wr.heap.size, 1, none⟩ = some (.int .u8 d) ∧ W.cell? ⟨wr.heap.size, 2, none⟩ = some (.int .u8 u) ∧ W.cell? ⟨wr.heap.size, 3, none⟩ = some (.int .i64 lm) ∧ W.cell? ⟨wr.heap.size, 4, none⟩ = some (.int .i64 db) ∧ W.cell? ⟨wr.heap.size + 1, 0, none⟩ = some (.int .u8 c) ∧ W.cell? ⟨wr.heap.size + 1, 1, none⟩ = some (.int .u8 d) ∧ W.cell? ⟨wr.heap.size + 1, 2, none⟩ = some (.int .u8 u) ∧ W.cell? ⟨lb, 17, none⟩ = some (.map (some mb)) ∧ W.cell? ⟨lb, c, none⟩ = some (.bool true) ∧ W.cell? ⟨lb, d, none⟩ = some (.bool true))) (by kernel_rfl) ?_ (fun hHeld => ?_)
                      · exact KS.out _ (by (repeat first | exact Chg.refl _ _ | apply Chg.drew | apply Chg.alloc))
                      refine wpAnyH_take (i := 0) (v := ?vd15_0_0) rfl (by kernel_rfl) (by kernel_rfl) (by kernel_rfl) (fun _ _ _ h => h) (Or.inl ⟨by rfl, ?hyd15_0_0⟩) (by assumption) ?_
                      case hyd15_0_0 => (intro w hSw; (try dsimp only at hSw); go_simp; try (with_reducible rfl))
                      (try simp only [Act.put, List.getElem_toArray, List.getElem_cons_zero, List.setIfInBounds_toArray, List.set_cons_zero, List.set_cons_succ])
                      refine wpAnyH_take (i := 1) (v := ?vd15_0_1) rfl (by kernel_rfl) (by kernel_rfl) (by kernel_rfl) (fun _ _ _ h => h) (Or.inl ⟨by rfl, ?hyd15_0_1⟩) (by assumption) ?_
                      case hyd15_0_1 => (intro w hSw; (try dsimp only at hSw); go_simp; try (with_reducible rfl))
                      (try simp only [Act.put, List.getElem_toArray, List.getElem_cons_zero, List.getElem_cons_succ, List.setIfInBounds_toArray, List.set_cons_zero, List.set_cons_succ])
                      refine wpAnyH_take (i := 2) (v := ?vd15_0_2) rfl (by kernel_rfl) (by kernel_rfl) (by kernel_rfl) (fun _ _ _ h => h) (Or.inl ⟨by rfl, ?hyd15_0_2⟩) (by assumption) ?_
                      case hyd15_0_2 => (intro w hSw; (try dsimp only at hSw); go_simp; try (with_reducible rfl))
                      (try simp only [Act.put, List.getElem_toArray, List.getElem_cons_zero, List.getElem_cons_succ, List.setIfInBounds_toArray, List.set_cons_zero, List.set_cons_succ])
                      refine wpAnyH_take (i := 3) (v := ?vd15_0_3) rfl (by kernel_rfl) (by kernel_rfl) (by kernel_rfl) (fun _ _ _ h => h) (Or.inl ⟨by rfl, ?hyd15_0_3⟩) (by assumption) ?_
                      case hyd15_0_3 => (intro w hSw; (try dsimp only at hSw); go_simp; try (with_reducible rfl))
                      (try simp only [Act.put, List.getElem_toArray, List.getElem_cons_zero, List.getElem_cons_succ, List.setIfInBounds_toArray, List.set_cons_zero, List.set_cons_succ])
                      refine wpAnyH_take (i := 4) (v := ?vd15_0_4) rfl (by kernel_rfl) (by kernel_rfl) (by kernel_rfl) (fun _ _ _ h => h) (Or.inl ⟨by rfl, ?hyd15_0_4⟩) (by assumption) ?_
                      case hyd15_0_4 => (intro w hSw; (try dsimp only at hSw); go_simp; try (with_reducible rfl))
                      (try simp only [Act.put, List.getElem_toArray, List.getElem_cons_zero, List.getElem_cons_succ, List.setIfInBounds_toArray, List.set_cons_zero, List.set_cons_succ])
                      refine wpAnyH_take (i := 5) (v := ?vd15_0_5) rfl (by kernel_rfl) (by kernel_rfl) (by kernel_rfl) (fun _ _ _ h => h) (Or.inl ⟨by rfl, ?hyd15_0_5⟩) (by assumption) ?_
                      case hyd15_0_5 => (intro w hSw; (try dsimp only at hSw); go_simp; try (with_reducible rfl))
                      (try simp only [Act.put, List.getElem_toArray, List.getElem_cons_zero, List.getElem_cons_succ, List.setIfInBounds_toArray, List.set_cons_zero, List.set_cons_succ])
                      refine wpAnyH_take (i := 6) (v := ?vd15_0_6) rfl (by kernel_rfl) (by kernel_rfl) (by kernel_rfl) (fun _ _ _ h => h) (Or.inl ⟨by rfl, ?hyd15_0_6⟩) (by assumption) ?_
                      case hyd15_0_6 => (intro w hSw; (try dsimp only at hSw); go_simp; try (with_reducible rfl))
                      (try simp only [Act.put, List.getElem_toArray, List.getElem_cons_zero, List.getElem_cons_succ, List.setIfInBounds_toArray, List.set_cons_zero, List.set_cons_succ])
                      refine wpAnyH_take (i := 7) (v := ?vd15_0_7) rfl (by kernel_rfl) (by kernel_rfl) (by kernel_rfl) (fun _ _ _ h => h) (Or.inl ⟨by rfl, ?hyd15_0_7⟩) (by assumption) ?_
                      case hyd15_0_7 => (intro w hSw; (try dsimp only at hSw); go_simp; try (with_reducible rfl))
                      (try simp only [Act.put, List.getElem_toArray, List.getElem_cons_zero, List.getElem_cons_succ, List.setIfInBounds_toArray, List.set_cons_zero, List.set_cons_succ])
                      refine wpAnyH_take (i := 8) (v := ?vd15_0_8) rfl (by kernel_rfl) (by kernel_rfl) (by kernel_rfl) (fun _ _ _ h => h) (Or.inl ⟨by rfl, ?hyd15_0_8⟩) (by assumption) ?_
                      case hyd15_0_8 => (intro w hSw; (try dsimp only at hSw); go_simp; try (with_reducible rfl))
                      (try simp only [Act.put, List.getElem_toArray, List.getElem_cons_zero, List.getElem_cons_succ, List.setIfInBounds_toArray, List.set_cons_zero, List.set_cons_succ])
                      refine wpAnyH_done (by kernel_rfl) ?_ _
                      clear hHeld
                      go_wp2_with fail
                      refine wp_region_held_drew (S := (fun W : World => W.cell? ⟨wr.heap.size, 0, none⟩ = some (.int .u8 c) ∧ W.cell? ⟨wr.heap.size, 1, none⟩ = some (.int .u8 d) ∧ W.cell? ⟨wr.heap.size, 2, none⟩ = some (.int .u8 u) ∧ W.cell? ⟨wr.heap.size, 3, none⟩ = some (.int .i64 lm) ∧ W.cell? ⟨wr.heap.size, 4, none⟩ = some (.int .i64 db) ∧ W.cell? ⟨wr.heap.size + 1, 0, none⟩ = some (.int .u8 c) ∧ W.cell? ⟨wr.heap.size + 1, 1, none⟩ = some (.int .u8 d) ∧ W.cell? ⟨wr.heap.size + 1, 2, none⟩ = some (.int .u8 u) ∧ W.cell? ⟨lb, 17, none⟩ = some (.map (some mb)) ∧ W.cell? ⟨lb, c, none⟩ = some (.bool true) ∧ W.cell? ⟨lb, d, none⟩ = some (.bool true))) (by kernel_rfl) ?_ (fun hHeld => ?_)
                      · exact KS.out _ (by (repeat first | exact Chg.refl _ _ | apply Chg.drew | apply Chg.alloc))
                      refine wpAnyH_take (i := 0) (v := ?vd16_0_0) rfl (by kernel_rfl) (by kernel_rfl) (by kernel_rfl) (fun _ _ _ h => h) (Or.inl ⟨by rfl, ?hyd16_0_0⟩) (by assumption) ?_
                      case hyd16_0_0 => (intro w hSw; (try dsimp only at hSw); go_simp; try (with_reducible rfl))
                      (try simp only [Act.put, List.getElem_toArray, List.getElem_cons_zero, List.setIfInBounds_toArray, List.set_cons_zero, List.set_cons_succ])
                      refine wpAnyH_take (i := 1) (v := ?vd16_0_1) rfl (by kernel_rfl) (by kernel_rfl) (by kernel_rfl) (fun _ _ _ h => h) (Or.inl ⟨by rfl, ?hyd16_0_1⟩) (by assumption) ?_
                      case hyd16_0_1 => (intro w hSw; (try dsimp only at hSw); go_simp; try (with_reducible rfl))
                      (try simp only [Act.put, List.getElem_toArray, List.getElem_cons_zero, List.getElem_cons_succ, List.setIfInBounds_toArray, List.set_cons_zero, List.set_cons_succ])
                      refine wpAnyH_take (i := 2) (v := ?vd16_0_2) rfl (by kernel_rfl) (by kernel_rfl) (by kernel_rfl) (fun _ _ _ h => h) (Or.inl ⟨by rfl, ?hyd16_0_2⟩) (by assumption) ?_
                      case hyd16_0_2 => (intro w hSw; (try dsimp only at hSw); go_simp; try (with_reducible rfl))
                      (try simp only [Act.put, List.getElem_toArray, List.getElem_cons_zero, List.getElem_cons_succ, List.setIfInBounds_toArray, List.set_cons_zero, List.set_cons_succ])
                      refine wpAnyH_take (i := 3) (v := ?vd16_0_3) rfl (by kernel_rfl) (by kernel_rfl) (by kernel_rfl) (fun _ _ _ h => h) (Or.inl ⟨by rfl, ?hyd16_0_3⟩) (by assumption) ?_
                      case hyd16_0_3 => (intro w hSw; (try dsimp only at hSw); go_simp; try (with_reducible rfl))
                      (try simp only [Act.put, List.getElem_toArray, List.getElem_cons_zero, List.getElem_cons_succ, List.setIfInBounds_toArray, List.set_cons_zero, List.set_cons_succ])
                      refine wpAnyH_take (i := 4) (v := ?vd16_0_4) rfl (by kernel_rfl) (by kernel_rfl) (by kernel_rfl) (fun _ _ _ h => h) (Or.inl ⟨by rfl, ?hyd16_0_4⟩) (by assumption) ?_
                      case hyd16_0_4 => (intro w hSw; (try dsimp only at hSw); go_simp; try (with_reducible rfl))
                      (try simp only [Act.put, List.getElem_toArray, List.getElem_cons_zero, List.getElem_cons_succ, List.setIfInBounds_toArray, List.set_cons_zero, List.set_cons_succ])
                      refine wpAnyH_take (i := 5) (v := ?vd16_0_5) rfl (by kernel_rfl) (by kernel_rfl) (by kernel_rfl) (fun _ _ _ h => h) (Or.inl ⟨by rfl, ?hyd16_0_5⟩) (by assumption) ?_
                      case hyd16_0_5 => (intro w hSw; (try dsimp only at hSw); go_simp; try (with_reducible rfl))
                      (try simp only [Act.put, List.getElem_toArray, List.getElem_cons_zero, List.getElem_cons_succ, List.setIfInBounds_toArray, List.set_cons_zero, List.set_cons_succ])
                      refine wpAnyH_take (i := 6) (v := ?vd16_0_6) rfl (by kernel_rfl) (by kernel_rfl) (by kernel_rfl) (fun _ _ _ h => h) (Or.inl ⟨by rfl, ?hyd16_0_6⟩) (by assumption) ?_
                      case hyd16_0_6 => (intro w hSw; (try dsimp only at hSw); go_simp; try (with_reducible rfl))
                      (try simp only [Act.put, List.getElem_toArray, List.getElem_cons_zero, List.getElem_cons_succ, List.setIfInBounds_toArray, List.set_cons_zero, List.set_cons_succ])
                      refine wpAnyH_take (i := 7) (v := ?vd16_0_7) rfl (by kernel_rfl) (by kernel_rfl) (by kernel_rfl) (fun _ _ _ h => h) (Or.inl ⟨by rfl, ?hyd16_0_7⟩) (by assumption) ?_
                      case hyd16_0_7 => (intro w hSw; (try dsimp only at hSw); go_simp; try (with_reducible rfl))
                      (try simp only [Act.put, List.getElem_toArray, List.getElem_cons_zero, List.getElem_cons_succ, List.setIfInBounds_toArray, List.set_cons_zero, List.set_cons_succ])
                      refine wpAnyH_take (i := 8) (v := ?vd16_0_8) rfl (by kernel_rfl) (by kernel_rfl) (by kernel_rfl) (fun _ _ _ h => h) (Or.inl ⟨by rfl, ?hyd16_0_8⟩) (by assumption) ?_
                      case hyd16_0_8 => (intro w hSw; (try dsimp only at hSw); go_simp; try (with_reducible rfl))
                      (try simp only [Act.put, List.getElem_toArray, List.getElem_cons_zero, List.getElem_cons_succ, List.setIfInBounds_toArray, List.set_cons_zero, List.set_cons_succ])
                      refine wpAnyH_done (by kernel_rfl) ?_ _
                      clear hHeld
                      go_wp2_with fail
                      have HCC : Hid (Chg [] w2 w2.drew.drew.drew) := Lib.hid (((Chg.refl [] w2).drew).drew).drew
                      refine wp_region_held_drew (S := (fun W : World => W.cell? ⟨wr.heap.size, 0, none⟩ = some (.int .u8 c) ∧ W.cell? ⟨wr.heap.size, 1, none⟩ = some (.int .u8 d) ∧ W.cell? ⟨wr.heap.size, 2, none⟩ = some (.int .u8 u) ∧ W.cell? ⟨wr.heap.size, 3, none⟩ = some (.int .i64 lm) ∧ W.cell? ⟨wr.heap.size, 4, none⟩ = some (.int .i64 db) ∧ W.cell? ⟨wr.heap.size + 1, 0, none⟩ = some (.int .u8 c) ∧ W.cell? ⟨wr.heap.size + 1, 1, none⟩ = some (.int .u8 d) ∧ W.cell? ⟨wr.heap.size + 1, 2, none⟩ = some (.int .u8 u) ∧ W.cell? ⟨lb, 17, none⟩ = some (.map (some mb)) ∧ W.cell? ⟨g, off + (k - 1) * 5, none⟩ = some (.int .u8 pc1) ∧ W.cell? ⟨g, off + (k - 1) * 5 + 1, none⟩ = some (.int .u8 pd1) ∧ W.cell? ⟨g, off + (k - 1) * 5 + 2, none⟩ = some (.int .u8 pu1) ∧ W.cell? ⟨g, off + (k - 1) * 5 + 3, none⟩ = some (.int .i64 pl1) ∧ W.cell? ⟨g, off + (k - 1) * 5 + 4, none⟩ = some (.int .i64 pn1))) (by kernel_rfl) ?_ (fun hHeld => ?_)
                      · exact KSP.out _ HCC.out
                      refine wpAnyH_take (i := 0) (v := ?vd23_0_0) rfl (by kernel_rfl) (by kernel_rfl) (by kernel_rfl) (fun _ _ _ h => h) (Or.inl ⟨by rfl, ?hyd23_0_0⟩) (by assumption) ?_
                      case hyd23_0_0 => (intro w hSw; (try dsimp only at hSw); go_simp; try (with_reducible rfl))
                      (try simp only [Act.put, List.getElem_toArray, List.getElem_cons_zero, List.setIfInBounds_toArray, List.set_cons_zero, List.set_cons_succ])
                      refine wpAnyH_take (i := 1) (v := ?vd23_0_1) rfl (by kernel_rfl) (by kernel_rfl) (by kernel_rfl) (fun _ _ _ h => h) (Or.inl ⟨by rfl, ?hyd23_0_1⟩) (by assumption) ?_
                      case hyd23_0_1 => (intro w hSw; (try dsimp only at hSw); go_simp; try (with_reducible rfl))
                      (try simp only [Act.put, List.getElem_toArray, List.getElem_cons_zero, List.getElem_cons_succ, List.setIfInBounds_toArray, List.set_cons_zero, List.set_cons_succ])
                      refine wpAnyH_take (i := 2) (v := ?vd23_0_2) rfl (by kernel_rfl) (by kernel_rfl) (by kernel_rfl) (fun _ _ _ h => h) (Or.inl ⟨by rfl, ?hyd23_0_2⟩) (by assumption) ?_
                      case hyd23_0_2 => (intro w hSw; (try dsimp only at hSw); go_simp; try (with_reducible rfl))
                      (try simp only [Act.put, List.getElem_toArray, List.getElem_cons_zero, List.getElem_cons_succ, List.setIfInBounds_toArray, List.set_cons_zero, List.set_cons_succ])
                      refine wpAnyH_take (i := 3) (v := ?vd23_0_3) rfl (by kernel_rfl) (by kernel_rfl) (by kernel_rfl) (fun _ _ _ h => h) (Or.inl ⟨by rfl, ?hyd23_0_3⟩) (by assumption) ?_
                      case hyd23_0_3 => (intro w hSw; (try dsimp only at hSw); go_simp; try (with_reducible rfl))
                      (try simp only [Act.put, List.getElem_toArray, List.getElem_cons_zero, List.getElem_cons_succ, List.setIfInBounds_toArray, List.set_cons_zero, List.set_cons_succ])
                      refine wpAnyH_take (i := 4) (v := ?vd23_0_4) rfl (by kernel_rfl) (by kernel_rfl) (by kernel_rfl) (fun _ _ _ h => h) (Or.inl ⟨by rfl, ?hyd23_0_4⟩) (by assumption) ?_
                      case hyd23_0_4 => (intro w hSw; (try dsimp only at hSw); go_simp; try (with_reducible rfl))
                      (try simp only [Act.put, List.getElem_toArray, List.getElem_cons_zero, List.getElem_cons_succ, List.setIfInBounds_toArray, List.set_cons_zero, List.set_cons_succ])
                      refine wpAnyH_take (i := 5) (v := ?vd23_0_5) rfl (by kernel_rfl) (by kernel_rfl) (by kernel_rfl) (fun _ _ _ h => h) (Or.inl ⟨by rfl, ?hyd23_0_5⟩) (by assumption) ?_
                      case hyd23_0_5 => (intro w hSw; (try dsimp only at hSw); go_simp; try (with_reducible rfl))
                      (try simp only [Act.put, List.getElem_toArray, List.getElem_cons_zero, List.getElem_cons_succ, List.setIfInBounds_toArray, List.set_cons_zero, List.set_cons_succ])
                      refine wpAnyH_take (i := 6) (v := ?vd23_0_6) rfl (by kernel_rfl) (by kernel_rfl) (by kernel_rfl) (fun _ _ _ h => h) (Or.inl ⟨by rfl, ?hyd23_0_6⟩) (by assumption) ?_
                      case hyd23_0_6 => (intro w hSw; (try dsimp only at hSw); go_simp; try (with_reducible rfl))
                      (try simp only [Act.put, List.getElem_toArray, List.getElem_cons_zero, List.getElem_cons_succ, List.setIfInBounds_toArray, List.set_cons_zero, List.set_cons_succ])
                      refine wpAnyH_take (i := 7) (v := ?vd23_0_7) rfl (by kernel_rfl) (by kernel_rfl) (by kernel_rfl) (fun _ _ _ h => h) (Or.inl ⟨by rfl, ?hyd23_0_7⟩) (by assumption) ?_
                      case hyd23_0_7 => (intro w hSw; (try dsimp only at hSw); go_simp; try (with_reducible rfl))
                      (try simp only [Act.put, List.getElem_toArray, List.getElem_cons_zero, List.getElem_cons_succ, List.setIfInBounds_toArray, List.set_cons_zero, List.set_cons_succ])
                      refine wpAnyH_take (i := 8) (v := ?vd23_0_8) rfl (by kernel_rfl) (by kernel_rfl) (by kernel_rfl) (fun _ _ _ h => h) (Or.inl ⟨by rfl, ?hyd23_0_8⟩) (by assumption) ?_
                      case hyd23_0_8 => (intro w hSw; (try dsimp only at hSw); go_simp; try (with_reducible rfl))
                      (try simp only [Act.put, List.getElem_toArray, List.getElem_cons_zero, List.getElem_cons_succ, List.setIfInBounds_toArray, List.set_cons_zero, List.set_cons_succ])
                      refine wpAnyH_ready (rs := [9]) (by kernel_rfl) (by simp) (AllReadyH.cons rfl (fun K hK => ?_) AllReadyH.nil)
                      go_simp
                      (refine (KO.out _).mono ?_; rintro e w3 ⟨rfl, hch⟩; have HCC := Lib.hid (HCC.out.trans hch); clear hch)
                      (try go_wp2_with fail)
                      refine hK.out _ _ ?_ (fun hHeld => ?_)
                      · exact KSP.out _ HCC.out
                      clear hK K
                      (try simp only [Act.put, List.getElem_toArray, List.getElem_cons_zero, List.getElem_cons_succ, List.setIfInBounds_toArray, List.set_cons_zero, List.set_cons_succ])
                      refine wpAnyH_take (i := 10) (v := ?vd23_0_10) rfl (by kernel_rfl) (by kernel_rfl) (by kernel_rfl) (fun _ _ _ h => h) (Or.inl ⟨by rfl, ?hyd23_0_10⟩) (by assumption) ?_
                      case hyd23_0_10 => (intro w hSw; (try dsimp only at hSw); go_simp; try (with_reducible rfl))
                      (try simp only [Act.put, List.getElem_toArray, List.getElem_cons_zero, List.getElem_cons_succ, List.setIfInBounds_toArray, List.set_cons_zero, List.set_cons_succ])
                      refine wpAnyH_take (i := 11) (v := ?vd23_0_11) rfl (by kernel_rfl) (by kernel_rfl) (by kernel_rfl) (fun _ _ _ h => h) (Or.inl ⟨by rfl, ?hyd23_0_11⟩) (by assumption) ?_
                      case hyd23_0_11 => (intro w hSw; (try dsimp only at hSw); go_simp; try (with_reducible rfl))
                      (try simp only [Act.put, List.getElem_toArray, List.getElem_cons_zero, List.getElem_cons_succ, List.setIfInBounds_toArray, List.set_cons_zero, List.set_cons_succ])
                      refine wpAnyH_take (i := 12) (v := ?vd23_0_12) rfl (by kernel_rfl) (by kernel_rfl) (by kernel_rfl) (fun _ _ _ h => h) (Or.inl ⟨by rfl, ?hyd23_0_12⟩) (by assumption) ?_
                      case hyd23_0_12 => (intro w hSw; (try dsimp only at hSw); go_simp; try (with_reducible rfl))
                      (try simp only [Act.put, List.getElem_toArray, List.getElem_cons_zero, List.getElem_cons_succ, List.setIfInBounds_toArray, List.set_cons_zero, List.set_cons_succ])
                      refine wpAnyH_done (by kernel_rfl) ?_ _
                      clear hHeld
                      have HCD := HCC
                      clear HCC
                      have HLW := Lib.hid (H2.out.chg0 (HCD.out))
                      obtain ⟨W4, hr4, hm4, ht4⟩ := HLW.out.led.map.drew.store (x := ⟨c, d, u, lm, db⟩) (by omega) HSM.out
                      dsimp only at hr4
                      rw [HNX.out] at hm4
                      have KT : Hid (Chg [mb] w3 W4) := Lib.hid ((Chg.refl _ _).drew.trans (turned_chg ht4))
                      have HM4 := Lib.hid hm4
                      have KS4 : Hid (∀ W, Chg [mb] w3 W → W.cell? ⟨wr.heap.size, 0, none⟩ = some (.int .u8 c) ∧ W.cell? ⟨wr.heap.size, 1, none⟩ = some (.int .u8 d) ∧ W.cell? ⟨wr.heap.size, 2, none⟩ = some (.int .u8 u) ∧ W.cell? ⟨wr.heap.size, 3, none⟩ = some (.int .i64 lm) ∧ W.cell? ⟨wr.heap.size, 4, none⟩ = some (.int .i64 db) ∧ W.cell? ⟨wr.heap.size + 1, 0, none⟩ = some (.int .u8 c) ∧ W.cell? ⟨wr.heap.size + 1, 1, none⟩ = some (.int .u8 d) ∧ W.cell? ⟨wr.heap.size + 1, 2, none⟩ = some (.int .u8 u) ∧ W.cell? ⟨lb, 17, none⟩ = some (.map (some mb))) := Lib.hid fun W hW => by
                        obtain ⟨n1, n2, n3⟩ := HNE.out
                        have q1 := HLW.out.led.blk.chg hW (by simpa using n1)
                        have q2 := (HX2.out.chg (HCD.out) (by simp)).chg hW (by simp; omega)
                        have q3 := (HE2.out.chg (HCD.out) (by simp)).chg hW (by simp; omega)
                        exact ⟨q2.cell 0, q2.cell 1, q2.cell 2, q2.cell 3, q2.cell 4, q3.cell 0, q3.cell 1, q3.cell 2, by rw [q1.cell, ledC_map]⟩
                      clear hm4 ht4
                      go_wp2_with fail
                      refine wp_region_held_drew (S := (fun W : World => W.cell? ⟨wr.heap.size, 0, none⟩ = some (.int .u8 c) ∧ W.cell? ⟨wr.heap.size, 1, none⟩ = some (.int .u8 d) ∧ W.cell? ⟨wr.heap.size, 2, none⟩ = some (.int .u8 u) ∧ W.cell? ⟨wr.heap.size, 3, none⟩ = some (.int .i64 lm) ∧ W.cell? ⟨wr.heap.size, 4, none⟩ = some (.int .i64 db) ∧ W.cell? ⟨wr.heap.size + 1, 0, none⟩ = some (.int .u8 c) ∧ W.cell? ⟨wr.heap.size + 1, 1, none⟩ = some (.int .u8 d) ∧ W.cell? ⟨wr.heap.size + 1, 2, none⟩ = some (.int .u8 u) ∧ W.cell? ⟨lb, 17, none⟩ = some (.map (some mb)))) (by kernel_rfl) ?_ (fun hHeld => ?_)
                      · exact KS4.out _ (Chg.refl _ _).drew
                      refine wpAnyH_take (i := 0) (v := ?vd25_0_0) rfl (by kernel_rfl) (by kernel_rfl) (by kernel_rfl) (fun _ _ _ h => h) (Or.inl ⟨by rfl, ?hyd25_0_0⟩) (by assumption) ?_
                      case hyd25_0_0 => (intro w hSw; (try dsimp only at hSw); go_simp; try (with_reducible rfl))
                      (try simp only [Act.put, List.getElem_toArray, List.getElem_cons_zero, List.setIfInBounds_toArray, List.set_cons_zero, List.set_cons_succ])
                      refine wpAnyH_take (i := 1) (v := ?vd25_0_1) rfl (by kernel_rfl) (by kernel_rfl) (by kernel_rfl) (fun _ _ _ h => h) (Or.inl ⟨by rfl, ?hyd25_0_1⟩) (by assumption) ?_
                      case hyd25_0_1 => (intro w hSw; (try dsimp only at hSw); go_simp; try (with_reducible rfl))
                      (try simp only [Act.put, List.getElem_toArray, List.getElem_cons_zero, List.getElem_cons_succ, List.setIfInBounds_toArray, List.set_cons_zero, List.set_cons_succ])
                      refine wpAnyH_take (i := 2) (v := ?vd25_0_2) rfl (by kernel_rfl) (by kernel_rfl) (by kernel_rfl) (fun _ _ _ h => h) (Or.inl ⟨by rfl, ?hyd25_0_2⟩) (by assumption) ?_
                      case hyd25_0_2 => (intro w hSw; (try dsimp only at hSw); go_simp; try (with_reducible rfl))
                      (try simp only [Act.put, List.getElem_toArray, List.getElem_cons_zero, List.getElem_cons_succ, List.setIfInBounds_toArray, List.set_cons_zero, List.set_cons_succ])
                      refine wpAnyH_take (i := 3) (v := ?vd25_0_3) rfl (by kernel_rfl) (by kernel_rfl) (by kernel_rfl) (fun _ _ _ h => h) (Or.inl ⟨by rfl, ?hyd25_0_3⟩) (by assumption) ?_
                      case hyd25_0_3 => (intro w hSw; (try dsimp only at hSw); go_simp; try (with_reducible rfl))
                      (try simp only [Act.put, List.getElem_toArray, List.getElem_cons_zero, List.getElem_cons_succ, List.setIfInBounds_toArray, List.set_cons_zero, List.set_cons_succ])
                      refine wpAnyH_take (i := 4) (v := ?vd25_0_4) rfl (by kernel_rfl) (by kernel_rfl) (by kernel_rfl) (fun _ _ _ h => h) (Or.inl ⟨by rfl, ?hyd25_0_4⟩) (by assumption) ?_
                      case hyd25_0_4 => (intro w hSw; (try dsimp only at hSw); go_simp; try (with_reducible rfl))
                      (try simp only [Act.put, List.getElem_toArray, List.getElem_cons_zero, List.getElem_cons_succ, List.setIfInBounds_toArray, List.set_cons_zero, List.set_cons_succ])
                      refine wpAnyH_take (i := 5) (v := ?vd25_0_5) rfl (by kernel_rfl) (by kernel_rfl) (by kernel_rfl) (fun _ _ _ h => h) (Or.inl ⟨by rfl, ?hyd25_0_5⟩) (by assumption) ?_
                      case hyd25_0_5 => (intro w hSw; (try dsimp only at hSw); go_simp; try (with_reducible rfl))
                      (try simp only [Act.put, List.getElem_toArray, List.getElem_cons_zero, List.getElem_cons_succ, List.setIfInBounds_toArray, List.set_cons_zero, List.set_cons_succ])
                      refine wpAnyH_take (i := 6) (v := ?vd25_0_6) rfl (by kernel_rfl) (by kernel_rfl) (by kernel_rfl) (fun _ _ _ h => h) (Or.inl ⟨by rfl, ?hyd25_0_6⟩) (by assumption) ?_
                      case hyd25_0_6 => (intro w hSw; (try dsimp only at hSw); go_simp; try (with_reducible rfl))
                      (try simp only [Act.put, List.getElem_toArray, List.getElem_cons_zero, List.getElem_cons_succ, List.setIfInBounds_toArray, List.set_cons_zero, List.set_cons_succ])
                      refine wpAnyH_take (i := 7) (v := ?vd25_0_7) rfl (by kernel_rfl) (by kernel_rfl) (by kernel_rfl) (fun _ _ _ h => h) (Or.inl ⟨by rfl, ?hyd25_0_7⟩) (by assumption) ?_
                      case hyd25_0_7 => (intro w hSw; (try dsimp only at hSw); go_simp; try (with_reducible rfl))
                      (try simp only [Act.put, List.getElem_toArray, List.getElem_cons_zero, List.getElem_cons_succ, List.setIfInBounds_toArray, List.set_cons_zero, List.set_cons_succ])
                      refine wpAnyH_take (i := 8) (v := ?vd25_0_8) rfl (by kernel_rfl) (by kernel_rfl) (by kernel_rfl) (fun _ _ _ h => h) (Or.inl ⟨by rfl, ?hyd25_0_8⟩) (by assumption) ?_
                      case hyd25_0_8 => (intro w hSw; (try dsimp only at hSw); go_simp; try (with_reducible rfl))
                      (try simp only [Act.put, List.getElem_toArray, List.getElem_cons_zero, List.getElem_cons_succ, List.setIfInBounds_toArray, List.set_cons_zero, List.set_cons_succ])
                      refine wpAnyH_take (i := 9) (v := ?vd25_0_9) rfl (by kernel_rfl) (by kernel_rfl) (by kernel_rfl) (fun _ _ _ h => h) (Or.inl ⟨by rfl, ?hyd25_0_9⟩) (by assumption) ?_
                      case hyd25_0_9 => (intro w hSw; (try dsimp only at hSw); go_simp; try (with_reducible rfl))
                      (try simp only [Act.put, List.getElem_toArray, List.getElem_cons_zero, List.getElem_cons_succ, List.setIfInBounds_toArray, List.set_cons_zero, List.set_cons_succ])
                      refine wpAnyH_ready (rs := [10]) (by kernel_rfl) (by simp) (AllReadyH.cons rfl (fun K hK => ?_) AllReadyH.nil)
                      go_simp
                      refine hK.out _ _ ?_ (fun hHeld => ?_)
                      · exact KS4.out _ KT.out
                      clear hK K
                      (try simp only [Act.put, List.getElem_toArray, List.getElem_cons_zero, List.getElem_cons_succ, List.setIfInBounds_toArray, List.set_cons_zero, List.set_cons_succ])
                      refine wpAnyH_done (by kernel_rfl) ?_ _
                      clear hHeld hr4
                      have hI4 : IsL W4 lb mb SS (ls.take (k + 1)) := ⟨HLW.out.led.blk.chg KT.out (by simpa using HNE.out.1), HM4.out, HGO.out (k + 1) (by omega) HK2.out⟩
                      have H4 := Lib.hid (HLW.out.step hI4 KT.out (by simp))
                      clear hI4
                      go_wp2
                      go_roundw
                      case rel => exact ⟨k + 1, by omega, by go_num, H4, HK2⟩
                      case measure => simp [intOf]; omega
                  · have hk0 : k ≠ 0 := fun e => hrk (.inl e)
                    have hcp := HCELL.out
                    obtain ⟨pv, hpv⟩ : ∃ pv, pv = lx ls (k - 1) := ⟨_, rfl⟩
                    have hz : ¬ cfL (lx ls (k - 1)) ⟨c, d, u, lm, db⟩ < 0 := fun h => hrk (.inr ((HORD.out hk0).1 h))
                    rw [← hpv] at hz
                    have HNRK := Lib.hid hrk
                    obtain ⟨v1, v2, v3, v4⟩ := hv
                    have t1 : decide (lm < 1) = false := decide_eq_false (by omega)
                    have t2 : decide (1099511627776 < lm) = false := decide_eq_false (by omega)
                    have t3 : decide (db < 0) = false := decide_eq_false (by omega)
                    have t4 : decide (lm < db) = false := decide_eq_false (by omega)
                    obtain ⟨pc1, pd1, pu1, pl1, pn1⟩ := pv
                    obtain ⟨z, hzz⟩ : ∃ z, z = cfL ⟨pc1, pd1, pu1, pl1, pn1⟩ ⟨c, d, u, lm, db⟩ := ⟨_, rfl⟩
                    rw [← hzz] at hz
                    have KO : Hid (∀ W, Calls Try.prog 84 #[.agg #[.int .u8 pc1, .int .u8 pd1, .int .u8 pu1, .int .i64 pl1, .int .i64 pn1], .agg #[.int .u8 c, .int .u8 d, .int .u8 u, .int .i64 lm, .int .i64 db]] W fun e w' => e = .returned (.int .i64 z) ∧ Chg [] W w') := Lib.hid fun W => by
                      have := lorder ⟨pc1, pd1, pu1, pl1, pn1⟩ ⟨c, d, u, lm, db⟩ W
                      rw [← hzz] at this
                      exact this.mono fun _ _ ⟨he, hg⟩ => ⟨he, hg.chg⟩
                    have KSP : Hid (∀ W, Chg [] w2 W → W.cell? ⟨wr.heap.size, 0, none⟩ = some (.int .u8 c) ∧ W.cell? ⟨wr.heap.size, 1, none⟩ = some (.int .u8 d) ∧ W.cell? ⟨wr.heap.size, 2, none⟩ = some (.int .u8 u) ∧ W.cell? ⟨wr.heap.size, 3, none⟩ = some (.int .i64 lm) ∧ W.cell? ⟨wr.heap.size, 4, none⟩ = some (.int .i64 db) ∧ W.cell? ⟨wr.heap.size + 1, 0, none⟩ = some (.int .u8 c) ∧ W.cell? ⟨wr.heap.size + 1, 1, none⟩ = some (.int .u8 d) ∧ W.cell? ⟨wr.heap.size + 1, 2, none⟩ = some (.int .u8 u) ∧ W.cell? ⟨lb, 17, none⟩ = some (.map (some mb)) ∧ W.cell? ⟨g, off + (k - 1) * 5, none⟩ = some (.int .u8 pc1) ∧ W.cell? ⟨g, off + (k - 1) * 5 + 1, none⟩ = some (.int .u8 pd1) ∧ W.cell? ⟨g, off + (k - 1) * 5 + 2, none⟩ = some (.int .u8 pu1) ∧ W.cell? ⟨g, off + (k - 1) * 5 + 3, none⟩ = some (.int .i64 pl1) ∧ W.cell? ⟨g, off + (k - 1) * 5 + 4, none⟩ = some (.int .i64 pn1)) := Lib.hid fun W k' => by
                      obtain ⟨q0, q1, q2, q3, q4, q5, q6, q7, q8, _⟩ := KS.out W k'
                      have := hcp W (H2.out.ch.trans k') (k - 1) (by omega)
                      rw [← hpv] at this
                      obtain ⟨p0, p1, p2, p3, p4⟩ := this
                      exact ⟨q0, q1, q2, q3, q4, q5, q6, q7, q8, p0, p1, p2, p3, p4⟩
                    have hpos : (0 : Int) < k := by omega
                    have tk : decide (0 < k) = true := decide_eq_true (by omega)
                    have hkk : (k : Int) - 1 = ((k - 1 : Nat) : Int) := by omega
                    have hkt : ((k : Int) - 1).toNat = k - 1 := by omega
                    have hk1 : k - 1 < ls.length := by omega
                    have hwk : IntKind.i64.wrap ((k - 1 : Nat) : Int) = ((k - 1 : Nat) : Int) := IntWalk.i64_in _ (by omega)
                    clear hzz hcp hpv
                    have t5 : decide (0 ≤ z) = true := decide_eq_true (by omega)
                    clear hz
                    go_wp2_with fail
                    refine wp_region_held_drew (S := (fun W : World => W.cell? ⟨wr.heap.size, 0, none⟩ = some (.int .u8 c) ∧ W.cell? ⟨wr.heap.size, 1, none⟩ = some (.int .u8 d) ∧ W.cell? ⟨wr.heap.size, 2, none⟩ = some (.int .u8 u) ∧ W.cell? ⟨wr.heap.size, 3, none⟩ = some (.int .i64 lm) ∧ W.cell? ⟨wr.heap.size, 4, none⟩ = some (.int .i64 db) ∧ W.cell? ⟨wr.heap.size + 1, 0, none⟩ = some (.int .u8 c) ∧ W.cell? ⟨wr.heap.size + 1, 1, none⟩ = some (.int .u8 d) ∧ W.cell? ⟨wr.heap.size + 1, 2, none⟩ = some (.int .u8 u) ∧ W.cell? ⟨lb, 17, none⟩ = some (.map (some mb)) ∧ W.cell? ⟨lb, c, none⟩ = some (.bool true) ∧ W.cell? ⟨lb, d, none⟩ = some (.bool true))) (by kernel_rfl) ?_ (fun hHeld => ?_)
                    · exact KS.out _ (by (repeat first | exact Chg.refl _ _ | apply Chg.drew | apply Chg.alloc))
                    refine wpAnyH_take (i := 0) (v := ?ve15_0_0) rfl (by kernel_rfl) (by kernel_rfl) (by kernel_rfl) (fun _ _ _ h => h) (Or.inl ⟨by rfl, ?hye15_0_0⟩) (by assumption) ?_
                    case hye15_0_0 => (intro w hSw; (try dsimp only at hSw); go_simp; try (with_reducible rfl))
                    (try simp only [Act.put, List.getElem_toArray, List.getElem_cons_zero, List.setIfInBounds_toArray, List.set_cons_zero, List.set_cons_succ])
                    refine wpAnyH_take (i := 1) (v := ?ve15_0_1) rfl (by kernel_rfl) (by kernel_rfl) (by kernel_rfl) (fun _ _ _ h => h) (Or.inl ⟨by rfl, ?hye15_0_1⟩) (by assumption) ?_
                    case hye15_0_1 => (intro w hSw; (try dsimp only at hSw); go_simp; try (with_reducible rfl))
                    (try simp only [Act.put, List.getElem_toArray, List.getElem_cons_zero, List.getElem_cons_succ, List.setIfInBounds_toArray, List.set_cons_zero, List.set_cons_succ])
                    refine wpAnyH_take (i := 2) (v := ?ve15_0_2) rfl (by kernel_rfl) (by kernel_rfl) (by kernel_rfl) (fun _ _ _ h => h) (Or.inl ⟨by rfl, ?hye15_0_2⟩) (by assumption) ?_
                    case hye15_0_2 => (intro w hSw; (try dsimp only at hSw); go_simp; try (with_reducible rfl))
                    (try simp only [Act.put, List.getElem_toArray, List.getElem_cons_zero, List.getElem_cons_succ, List.setIfInBounds_toArray, List.set_cons_zero, List.set_cons_succ])
                    refine wpAnyH_take (i := 3) (v := ?ve15_0_3) rfl (by kernel_rfl) (by kernel_rfl) (by kernel_rfl) (fun _ _ _ h => h) (Or.inl ⟨by rfl, ?hye15_0_3⟩) (by assumption) ?_
                    case hye15_0_3 => (intro w hSw; (try dsimp only at hSw); go_simp; try (with_reducible rfl))
                    (try simp only [Act.put, List.getElem_toArray, List.getElem_cons_zero, List.getElem_cons_succ, List.setIfInBounds_toArray, List.set_cons_zero, List.set_cons_succ])
                    refine wpAnyH_take (i := 4) (v := ?ve15_0_4) rfl (by kernel_rfl) (by kernel_rfl) (by kernel_rfl) (fun _ _ _ h => h) (Or.inl ⟨by rfl, ?hye15_0_4⟩) (by assumption) ?_
                    case hye15_0_4 => (intro w hSw; (try dsimp only at hSw); go_simp; try (with_reducible rfl))
                    (try simp only [Act.put, List.getElem_toArray, List.getElem_cons_zero, List.getElem_cons_succ, List.setIfInBounds_toArray, List.set_cons_zero, List.set_cons_succ])
                    refine wpAnyH_take (i := 5) (v := ?ve15_0_5) rfl (by kernel_rfl) (by kernel_rfl) (by kernel_rfl) (fun _ _ _ h => h) (Or.inl ⟨by rfl, ?hye15_0_5⟩) (by assumption) ?_
                    case hye15_0_5 => (intro w hSw; (try dsimp only at hSw); go_simp; try (with_reducible rfl))
                    (try simp only [Act.put, List.getElem_toArray, List.getElem_cons_zero, List.getElem_cons_succ, List.setIfInBounds_toArray, List.set_cons_zero, List.set_cons_succ])
                    refine wpAnyH_take (i := 6) (v := ?ve15_0_6) rfl (by kernel_rfl) (by kernel_rfl) (by kernel_rfl) (fun _ _ _ h => h) (Or.inl ⟨by rfl, ?hye15_0_6⟩) (by assumption) ?_
                    case hye15_0_6 => (intro w hSw; (try dsimp only at hSw); go_simp; try (with_reducible rfl))
                    (try simp only [Act.put, List.getElem_toArray, List.getElem_cons_zero, List.getElem_cons_succ, List.setIfInBounds_toArray, List.set_cons_zero, List.set_cons_succ])
                    refine wpAnyH_take (i := 7) (v := ?ve15_0_7) rfl (by kernel_rfl) (by kernel_rfl) (by kernel_rfl) (fun _ _ _ h => h) (Or.inl ⟨by rfl, ?hye15_0_7⟩) (by assumption) ?_
                    case hye15_0_7 => (intro w hSw; (try dsimp only at hSw); go_simp; try (with_reducible rfl))
                    (try simp only [Act.put, List.getElem_toArray, List.getElem_cons_zero, List.getElem_cons_succ, List.setIfInBounds_toArray, List.set_cons_zero, List.set_cons_succ])
                    refine wpAnyH_take (i := 8) (v := ?ve15_0_8) rfl (by kernel_rfl) (by kernel_rfl) (by kernel_rfl) (fun _ _ _ h => h) (Or.inl ⟨by rfl, ?hye15_0_8⟩) (by assumption) ?_
                    case hye15_0_8 => (intro w hSw; (try dsimp only at hSw); go_simp; try (with_reducible rfl))
                    (try simp only [Act.put, List.getElem_toArray, List.getElem_cons_zero, List.getElem_cons_succ, List.setIfInBounds_toArray, List.set_cons_zero, List.set_cons_succ])
                    refine wpAnyH_done (by kernel_rfl) ?_ _
                    clear hHeld
                    go_wp2_with fail
                    refine wp_region_held_drew (S := (fun W : World => W.cell? ⟨wr.heap.size, 0, none⟩ = some (.int .u8 c) ∧ W.cell? ⟨wr.heap.size, 1, none⟩ = some (.int .u8 d) ∧ W.cell? ⟨wr.heap.size, 2, none⟩ = some (.int .u8 u) ∧ W.cell? ⟨wr.heap.size, 3, none⟩ = some (.int .i64 lm) ∧ W.cell? ⟨wr.heap.size, 4, none⟩ = some (.int .i64 db) ∧ W.cell? ⟨wr.heap.size + 1, 0, none⟩ = some (.int .u8 c) ∧ W.cell? ⟨wr.heap.size + 1, 1, none⟩ = some (.int .u8 d) ∧ W.cell? ⟨wr.heap.size + 1, 2, none⟩ = some (.int .u8 u) ∧ W.cell? ⟨lb, 17, none⟩ = some (.map (some mb)) ∧ W.cell? ⟨lb, c, none⟩ = some (.bool true) ∧ W.cell? ⟨lb, d, none⟩ = some (.bool true))) (by kernel_rfl) ?_ (fun hHeld => ?_)
                    · exact KS.out _ (by (repeat first | exact Chg.refl _ _ | apply Chg.drew | apply Chg.alloc))
                    refine wpAnyH_take (i := 0) (v := ?ve16_0_0) rfl (by kernel_rfl) (by kernel_rfl) (by kernel_rfl) (fun _ _ _ h => h) (Or.inl ⟨by rfl, ?hye16_0_0⟩) (by assumption) ?_
                    case hye16_0_0 => (intro w hSw; (try dsimp only at hSw); go_simp; try (with_reducible rfl))
                    (try simp only [Act.put, List.getElem_toArray, List.getElem_cons_zero, List.setIfInBounds_toArray, List.set_cons_zero, List.set_cons_succ])
                    refine wpAnyH_take (i := 1) (v := ?ve16_0_1) rfl (by kernel_rfl) (by kernel_rfl) (by kernel_rfl) (fun _ _ _ h => h) (Or.inl ⟨by rfl, ?hye16_0_1⟩) (by assumption) ?_
                    case hye16_0_1 => (intro w hSw; (try dsimp only at hSw); go_simp; try (with_reducible rfl))
                    (try simp only [Act.put, List.getElem_toArray, List.getElem_cons_zero, List.getElem_cons_succ, List.setIfInBounds_toArray, List.set_cons_zero, List.set_cons_succ])
                    refine wpAnyH_take (i := 2) (v := ?ve16_0_2) rfl (by kernel_rfl) (by kernel_rfl) (by kernel_rfl) (fun _ _ _ h => h) (Or.inl ⟨by rfl, ?hye16_0_2⟩) (by assumption) ?_
                    case hye16_0_2 => (intro w hSw; (try dsimp only at hSw); go_simp; try (with_reducible rfl))
                    (try simp only [Act.put, List.getElem_toArray, List.getElem_cons_zero, List.getElem_cons_succ, List.setIfInBounds_toArray, List.set_cons_zero, List.set_cons_succ])
                    refine wpAnyH_take (i := 3) (v := ?ve16_0_3) rfl (by kernel_rfl) (by kernel_rfl) (by kernel_rfl) (fun _ _ _ h => h) (Or.inl ⟨by rfl, ?hye16_0_3⟩) (by assumption) ?_
                    case hye16_0_3 => (intro w hSw; (try dsimp only at hSw); go_simp; try (with_reducible rfl))
                    (try simp only [Act.put, List.getElem_toArray, List.getElem_cons_zero, List.getElem_cons_succ, List.setIfInBounds_toArray, List.set_cons_zero, List.set_cons_succ])
                    refine wpAnyH_take (i := 4) (v := ?ve16_0_4) rfl (by kernel_rfl) (by kernel_rfl) (by kernel_rfl) (fun _ _ _ h => h) (Or.inl ⟨by rfl, ?hye16_0_4⟩) (by assumption) ?_
                    case hye16_0_4 => (intro w hSw; (try dsimp only at hSw); go_simp; try (with_reducible rfl))
                    (try simp only [Act.put, List.getElem_toArray, List.getElem_cons_zero, List.getElem_cons_succ, List.setIfInBounds_toArray, List.set_cons_zero, List.set_cons_succ])
                    refine wpAnyH_take (i := 5) (v := ?ve16_0_5) rfl (by kernel_rfl) (by kernel_rfl) (by kernel_rfl) (fun _ _ _ h => h) (Or.inl ⟨by rfl, ?hye16_0_5⟩) (by assumption) ?_
                    case hye16_0_5 => (intro w hSw; (try dsimp only at hSw); go_simp; try (with_reducible rfl))
                    (try simp only [Act.put, List.getElem_toArray, List.getElem_cons_zero, List.getElem_cons_succ, List.setIfInBounds_toArray, List.set_cons_zero, List.set_cons_succ])
                    refine wpAnyH_take (i := 6) (v := ?ve16_0_6) rfl (by kernel_rfl) (by kernel_rfl) (by kernel_rfl) (fun _ _ _ h => h) (Or.inl ⟨by rfl, ?hye16_0_6⟩) (by assumption) ?_
                    case hye16_0_6 => (intro w hSw; (try dsimp only at hSw); go_simp; try (with_reducible rfl))
                    (try simp only [Act.put, List.getElem_toArray, List.getElem_cons_zero, List.getElem_cons_succ, List.setIfInBounds_toArray, List.set_cons_zero, List.set_cons_succ])
                    refine wpAnyH_take (i := 7) (v := ?ve16_0_7) rfl (by kernel_rfl) (by kernel_rfl) (by kernel_rfl) (fun _ _ _ h => h) (Or.inl ⟨by rfl, ?hye16_0_7⟩) (by assumption) ?_
                    case hye16_0_7 => (intro w hSw; (try dsimp only at hSw); go_simp; try (with_reducible rfl))
                    (try simp only [Act.put, List.getElem_toArray, List.getElem_cons_zero, List.getElem_cons_succ, List.setIfInBounds_toArray, List.set_cons_zero, List.set_cons_succ])
                    refine wpAnyH_take (i := 8) (v := ?ve16_0_8) rfl (by kernel_rfl) (by kernel_rfl) (by kernel_rfl) (fun _ _ _ h => h) (Or.inl ⟨by rfl, ?hye16_0_8⟩) (by assumption) ?_
                    case hye16_0_8 => (intro w hSw; (try dsimp only at hSw); go_simp; try (with_reducible rfl))
                    (try simp only [Act.put, List.getElem_toArray, List.getElem_cons_zero, List.getElem_cons_succ, List.setIfInBounds_toArray, List.set_cons_zero, List.set_cons_succ])
                    refine wpAnyH_done (by kernel_rfl) ?_ _
                    clear hHeld
                    go_wp2_with fail
                    have HCC : Hid (Chg [] w2 w2.drew.drew.drew) := Lib.hid (((Chg.refl [] w2).drew).drew).drew
                    refine wp_region_held_drew (S := (fun W : World => W.cell? ⟨wr.heap.size, 0, none⟩ = some (.int .u8 c) ∧ W.cell? ⟨wr.heap.size, 1, none⟩ = some (.int .u8 d) ∧ W.cell? ⟨wr.heap.size, 2, none⟩ = some (.int .u8 u) ∧ W.cell? ⟨wr.heap.size, 3, none⟩ = some (.int .i64 lm) ∧ W.cell? ⟨wr.heap.size, 4, none⟩ = some (.int .i64 db) ∧ W.cell? ⟨wr.heap.size + 1, 0, none⟩ = some (.int .u8 c) ∧ W.cell? ⟨wr.heap.size + 1, 1, none⟩ = some (.int .u8 d) ∧ W.cell? ⟨wr.heap.size + 1, 2, none⟩ = some (.int .u8 u) ∧ W.cell? ⟨lb, 17, none⟩ = some (.map (some mb)) ∧ W.cell? ⟨g, off + (k - 1) * 5, none⟩ = some (.int .u8 pc1) ∧ W.cell? ⟨g, off + (k - 1) * 5 + 1, none⟩ = some (.int .u8 pd1) ∧ W.cell? ⟨g, off + (k - 1) * 5 + 2, none⟩ = some (.int .u8 pu1) ∧ W.cell? ⟨g, off + (k - 1) * 5 + 3, none⟩ = some (.int .i64 pl1) ∧ W.cell? ⟨g, off + (k - 1) * 5 + 4, none⟩ = some (.int .i64 pn1))) (by kernel_rfl) ?_ (fun hHeld => ?_)
                    · exact KSP.out _ HCC.out
                    refine wpAnyH_take (i := 0) (v := ?ve23_0_0) rfl (by kernel_rfl) (by kernel_rfl) (by kernel_rfl) (fun _ _ _ h => h) (Or.inl ⟨by rfl, ?hye23_0_0⟩) (by assumption) ?_
                    case hye23_0_0 => (intro w hSw; (try dsimp only at hSw); go_simp; try (with_reducible rfl))
                    (try simp only [Act.put, List.getElem_toArray, List.getElem_cons_zero, List.setIfInBounds_toArray, List.set_cons_zero, List.set_cons_succ])
                    refine wpAnyH_take (i := 1) (v := ?ve23_0_1) rfl (by kernel_rfl) (by kernel_rfl) (by kernel_rfl) (fun _ _ _ h => h) (Or.inl ⟨by rfl, ?hye23_0_1⟩) (by assumption) ?_
                    case hye23_0_1 => (intro w hSw; (try dsimp only at hSw); go_simp; try (with_reducible rfl))
                    (try simp only [Act.put, List.getElem_toArray, List.getElem_cons_zero, List.getElem_cons_succ, List.setIfInBounds_toArray, List.set_cons_zero, List.set_cons_succ])
                    refine wpAnyH_take (i := 2) (v := ?ve23_0_2) rfl (by kernel_rfl) (by kernel_rfl) (by kernel_rfl) (fun _ _ _ h => h) (Or.inl ⟨by rfl, ?hye23_0_2⟩) (by assumption) ?_
                    case hye23_0_2 => (intro w hSw; (try dsimp only at hSw); go_simp; try (with_reducible rfl))
                    (try simp only [Act.put, List.getElem_toArray, List.getElem_cons_zero, List.getElem_cons_succ, List.setIfInBounds_toArray, List.set_cons_zero, List.set_cons_succ])
                    refine wpAnyH_take (i := 3) (v := ?ve23_0_3) rfl (by kernel_rfl) (by kernel_rfl) (by kernel_rfl) (fun _ _ _ h => h) (Or.inl ⟨by rfl, ?hye23_0_3⟩) (by assumption) ?_
                    case hye23_0_3 => (intro w hSw; (try dsimp only at hSw); go_simp; try (with_reducible rfl))
                    (try simp only [Act.put, List.getElem_toArray, List.getElem_cons_zero, List.getElem_cons_succ, List.setIfInBounds_toArray, List.set_cons_zero, List.set_cons_succ])
                    refine wpAnyH_take (i := 4) (v := ?ve23_0_4) rfl (by kernel_rfl) (by kernel_rfl) (by kernel_rfl) (fun _ _ _ h => h) (Or.inl ⟨by rfl, ?hye23_0_4⟩) (by assumption) ?_
                    case hye23_0_4 => (intro w hSw; (try dsimp only at hSw); go_simp; try (with_reducible rfl))
                    (try simp only [Act.put, List.getElem_toArray, List.getElem_cons_zero, List.getElem_cons_succ, List.setIfInBounds_toArray, List.set_cons_zero, List.set_cons_succ])
                    refine wpAnyH_take (i := 5) (v := ?ve23_0_5) rfl (by kernel_rfl) (by kernel_rfl) (by kernel_rfl) (fun _ _ _ h => h) (Or.inl ⟨by rfl, ?hye23_0_5⟩) (by assumption) ?_
                    case hye23_0_5 => (intro w hSw; (try dsimp only at hSw); go_simp; try (with_reducible rfl))
                    (try simp only [Act.put, List.getElem_toArray, List.getElem_cons_zero, List.getElem_cons_succ, List.setIfInBounds_toArray, List.set_cons_zero, List.set_cons_succ])
                    refine wpAnyH_take (i := 6) (v := ?ve23_0_6) rfl (by kernel_rfl) (by kernel_rfl) (by kernel_rfl) (fun _ _ _ h => h) (Or.inl ⟨by rfl, ?hye23_0_6⟩) (by assumption) ?_
                    case hye23_0_6 => (intro w hSw; (try dsimp only at hSw); go_simp; try (with_reducible rfl))
                    (try simp only [Act.put, List.getElem_toArray, List.getElem_cons_zero, List.getElem_cons_succ, List.setIfInBounds_toArray, List.set_cons_zero, List.set_cons_succ])
                    refine wpAnyH_take (i := 7) (v := ?ve23_0_7) rfl (by kernel_rfl) (by kernel_rfl) (by kernel_rfl) (fun _ _ _ h => h) (Or.inl ⟨by rfl, ?hye23_0_7⟩) (by assumption) ?_
                    case hye23_0_7 => (intro w hSw; (try dsimp only at hSw); go_simp; try (with_reducible rfl))
                    (try simp only [Act.put, List.getElem_toArray, List.getElem_cons_zero, List.getElem_cons_succ, List.setIfInBounds_toArray, List.set_cons_zero, List.set_cons_succ])
                    refine wpAnyH_take (i := 8) (v := ?ve23_0_8) rfl (by kernel_rfl) (by kernel_rfl) (by kernel_rfl) (fun _ _ _ h => h) (Or.inl ⟨by rfl, ?hye23_0_8⟩) (by assumption) ?_
                    case hye23_0_8 => (intro w hSw; (try dsimp only at hSw); go_simp; try (with_reducible rfl))
                    (try simp only [Act.put, List.getElem_toArray, List.getElem_cons_zero, List.getElem_cons_succ, List.setIfInBounds_toArray, List.set_cons_zero, List.set_cons_succ])
                    refine wpAnyH_ready (rs := [9]) (by kernel_rfl) (by simp) (AllReadyH.cons rfl (fun K hK => ?_) AllReadyH.nil)
                    go_simp
                    (refine (KO.out _).mono ?_; rintro e w3 ⟨rfl, hch⟩; have HCC := Lib.hid (HCC.out.trans hch); clear hch)
                    (try go_wp2_with fail)
                    refine hK.out _ _ ?_ (fun hHeld => ?_)
                    · exact KSP.out _ HCC.out
                    clear hK K
                    (try simp only [Act.put, List.getElem_toArray, List.getElem_cons_zero, List.getElem_cons_succ, List.setIfInBounds_toArray, List.set_cons_zero, List.set_cons_succ])
                    refine wpAnyH_take (i := 10) (v := ?ve23_0_10) rfl (by kernel_rfl) (by kernel_rfl) (by kernel_rfl) (fun _ _ _ h => h) (Or.inl ⟨by rfl, ?hye23_0_10⟩) (by assumption) ?_
                    case hye23_0_10 => (intro w hSw; (try dsimp only at hSw); go_simp; try (with_reducible rfl))
                    (try simp only [Act.put, List.getElem_toArray, List.getElem_cons_zero, List.getElem_cons_succ, List.setIfInBounds_toArray, List.set_cons_zero, List.set_cons_succ])
                    refine wpAnyH_take (i := 11) (v := ?ve23_0_11) rfl (by kernel_rfl) (by kernel_rfl) (by kernel_rfl) (fun _ _ _ h => h) (Or.inl ⟨by rfl, ?hye23_0_11⟩) (by assumption) ?_
                    case hye23_0_11 => (intro w hSw; (try dsimp only at hSw); go_simp; try (with_reducible rfl))
                    (try simp only [Act.put, List.getElem_toArray, List.getElem_cons_zero, List.getElem_cons_succ, List.setIfInBounds_toArray, List.set_cons_zero, List.set_cons_succ])
                    refine wpAnyH_take (i := 12) (v := ?ve23_0_12) rfl (by kernel_rfl) (by kernel_rfl) (by kernel_rfl) (fun _ _ _ h => h) (Or.inl ⟨by rfl, ?hye23_0_12⟩) (by assumption) ?_
                    case hye23_0_12 => (intro w hSw; (try dsimp only at hSw); go_simp; try (with_reducible rfl))
                    (try simp only [Act.put, List.getElem_toArray, List.getElem_cons_zero, List.getElem_cons_succ, List.setIfInBounds_toArray, List.set_cons_zero, List.set_cons_succ])
                    refine wpAnyH_done (by kernel_rfl) ?_ _
                    clear hHeld
                    go_wp2
                    go_ret2
                    exact OfPost.bad (HNB.out (fun h => by rw [HLO.out] at h; exact HNRK.out h.2.2.2.2)) (by decide) (H2.out.ch.trans HCC.out)
                · have HNV := Lib.hid hv
                  by_cases v1 : lm < 1
                  · have t1 : decide (lm < 1) = true := decide_eq_true v1
                    clear v1 hv
                    go_wp2_with fail
                    refine wp_region_held_drew (S := (fun W : World => W.cell? ⟨wr.heap.size, 0, none⟩ = some (.int .u8 c) ∧ W.cell? ⟨wr.heap.size, 1, none⟩ = some (.int .u8 d) ∧ W.cell? ⟨wr.heap.size, 2, none⟩ = some (.int .u8 u) ∧ W.cell? ⟨wr.heap.size, 3, none⟩ = some (.int .i64 lm) ∧ W.cell? ⟨wr.heap.size, 4, none⟩ = some (.int .i64 db) ∧ W.cell? ⟨wr.heap.size + 1, 0, none⟩ = some (.int .u8 c) ∧ W.cell? ⟨wr.heap.size + 1, 1, none⟩ = some (.int .u8 d) ∧ W.cell? ⟨wr.heap.size + 1, 2, none⟩ = some (.int .u8 u) ∧ W.cell? ⟨lb, 17, none⟩ = some (.map (some mb)) ∧ W.cell? ⟨lb, c, none⟩ = some (.bool true) ∧ W.cell? ⟨lb, d, none⟩ = some (.bool true))) (by kernel_rfl) ?_ (fun hHeld => ?_)
                    · exact KS.out _ (by (repeat first | exact Chg.refl _ _ | apply Chg.drew | apply Chg.alloc))
                    refine wpAnyH_take (i := 0) (v := ?vf15_0_0) rfl (by kernel_rfl) (by kernel_rfl) (by kernel_rfl) (fun _ _ _ h => h) (Or.inl ⟨by rfl, ?hyf15_0_0⟩) (by assumption) ?_
                    case hyf15_0_0 => (intro w hSw; (try dsimp only at hSw); go_simp; try (with_reducible rfl))
                    (try simp only [Act.put, List.getElem_toArray, List.getElem_cons_zero, List.setIfInBounds_toArray, List.set_cons_zero, List.set_cons_succ])
                    refine wpAnyH_take (i := 1) (v := ?vf15_0_1) rfl (by kernel_rfl) (by kernel_rfl) (by kernel_rfl) (fun _ _ _ h => h) (Or.inl ⟨by rfl, ?hyf15_0_1⟩) (by assumption) ?_
                    case hyf15_0_1 => (intro w hSw; (try dsimp only at hSw); go_simp; try (with_reducible rfl))
                    (try simp only [Act.put, List.getElem_toArray, List.getElem_cons_zero, List.getElem_cons_succ, List.setIfInBounds_toArray, List.set_cons_zero, List.set_cons_succ])
                    refine wpAnyH_take (i := 2) (v := ?vf15_0_2) rfl (by kernel_rfl) (by kernel_rfl) (by kernel_rfl) (fun _ _ _ h => h) (Or.inl ⟨by rfl, ?hyf15_0_2⟩) (by assumption) ?_
                    case hyf15_0_2 => (intro w hSw; (try dsimp only at hSw); go_simp; try (with_reducible rfl))
                    (try simp only [Act.put, List.getElem_toArray, List.getElem_cons_zero, List.getElem_cons_succ, List.setIfInBounds_toArray, List.set_cons_zero, List.set_cons_succ])
                    refine wpAnyH_take (i := 3) (v := ?vf15_0_3) rfl (by kernel_rfl) (by kernel_rfl) (by kernel_rfl) (fun _ _ _ h => h) (Or.inl ⟨by rfl, ?hyf15_0_3⟩) (by assumption) ?_
                    case hyf15_0_3 => (intro w hSw; (try dsimp only at hSw); go_simp; try (with_reducible rfl))
                    (try simp only [Act.put, List.getElem_toArray, List.getElem_cons_zero, List.getElem_cons_succ, List.setIfInBounds_toArray, List.set_cons_zero, List.set_cons_succ])
                    refine wpAnyH_take (i := 4) (v := ?vf15_0_4) rfl (by kernel_rfl) (by kernel_rfl) (by kernel_rfl) (fun _ _ _ h => h) (Or.inl ⟨by rfl, ?hyf15_0_4⟩) (by assumption) ?_
                    case hyf15_0_4 => (intro w hSw; (try dsimp only at hSw); go_simp; try (with_reducible rfl))
                    (try simp only [Act.put, List.getElem_toArray, List.getElem_cons_zero, List.getElem_cons_succ, List.setIfInBounds_toArray, List.set_cons_zero, List.set_cons_succ])
                    refine wpAnyH_take (i := 5) (v := ?vf15_0_5) rfl (by kernel_rfl) (by kernel_rfl) (by kernel_rfl) (fun _ _ _ h => h) (Or.inl ⟨by rfl, ?hyf15_0_5⟩) (by assumption) ?_
                    case hyf15_0_5 => (intro w hSw; (try dsimp only at hSw); go_simp; try (with_reducible rfl))
                    (try simp only [Act.put, List.getElem_toArray, List.getElem_cons_zero, List.getElem_cons_succ, List.setIfInBounds_toArray, List.set_cons_zero, List.set_cons_succ])
                    refine wpAnyH_take (i := 6) (v := ?vf15_0_6) rfl (by kernel_rfl) (by kernel_rfl) (by kernel_rfl) (fun _ _ _ h => h) (Or.inl ⟨by rfl, ?hyf15_0_6⟩) (by assumption) ?_
                    case hyf15_0_6 => (intro w hSw; (try dsimp only at hSw); go_simp; try (with_reducible rfl))
                    (try simp only [Act.put, List.getElem_toArray, List.getElem_cons_zero, List.getElem_cons_succ, List.setIfInBounds_toArray, List.set_cons_zero, List.set_cons_succ])
                    refine wpAnyH_take (i := 7) (v := ?vf15_0_7) rfl (by kernel_rfl) (by kernel_rfl) (by kernel_rfl) (fun _ _ _ h => h) (Or.inl ⟨by rfl, ?hyf15_0_7⟩) (by assumption) ?_
                    case hyf15_0_7 => (intro w hSw; (try dsimp only at hSw); go_simp; try (with_reducible rfl))
                    (try simp only [Act.put, List.getElem_toArray, List.getElem_cons_zero, List.getElem_cons_succ, List.setIfInBounds_toArray, List.set_cons_zero, List.set_cons_succ])
                    refine wpAnyH_take (i := 8) (v := ?vf15_0_8) rfl (by kernel_rfl) (by kernel_rfl) (by kernel_rfl) (fun _ _ _ h => h) (Or.inl ⟨by rfl, ?hyf15_0_8⟩) (by assumption) ?_
                    case hyf15_0_8 => (intro w hSw; (try dsimp only at hSw); go_simp; try (with_reducible rfl))
                    (try simp only [Act.put, List.getElem_toArray, List.getElem_cons_zero, List.getElem_cons_succ, List.setIfInBounds_toArray, List.set_cons_zero, List.set_cons_succ])
                    refine wpAnyH_done (by kernel_rfl) ?_ _
                    clear hHeld
                    go_wp2_with fail
                    refine wp_region_held_drew (S := (fun W : World => W.cell? ⟨wr.heap.size, 0, none⟩ = some (.int .u8 c) ∧ W.cell? ⟨wr.heap.size, 1, none⟩ = some (.int .u8 d) ∧ W.cell? ⟨wr.heap.size, 2, none⟩ = some (.int .u8 u) ∧ W.cell? ⟨wr.heap.size, 3, none⟩ = some (.int .i64 lm) ∧ W.cell? ⟨wr.heap.size, 4, none⟩ = some (.int .i64 db) ∧ W.cell? ⟨wr.heap.size + 1, 0, none⟩ = some (.int .u8 c) ∧ W.cell? ⟨wr.heap.size + 1, 1, none⟩ = some (.int .u8 d) ∧ W.cell? ⟨wr.heap.size + 1, 2, none⟩ = some (.int .u8 u) ∧ W.cell? ⟨lb, 17, none⟩ = some (.map (some mb)) ∧ W.cell? ⟨lb, c, none⟩ = some (.bool true) ∧ W.cell? ⟨lb, d, none⟩ = some (.bool true))) (by kernel_rfl) ?_ (fun hHeld => ?_)
                    · exact KS.out _ (by (repeat first | exact Chg.refl _ _ | apply Chg.drew | apply Chg.alloc))
                    refine wpAnyH_take (i := 0) (v := ?vf16_0_0) rfl (by kernel_rfl) (by kernel_rfl) (by kernel_rfl) (fun _ _ _ h => h) (Or.inl ⟨by rfl, ?hyf16_0_0⟩) (by assumption) ?_
                    case hyf16_0_0 => (intro w hSw; (try dsimp only at hSw); go_simp; try (with_reducible rfl))
                    (try simp only [Act.put, List.getElem_toArray, List.getElem_cons_zero, List.setIfInBounds_toArray, List.set_cons_zero, List.set_cons_succ])
                    refine wpAnyH_take (i := 1) (v := ?vf16_0_1) rfl (by kernel_rfl) (by kernel_rfl) (by kernel_rfl) (fun _ _ _ h => h) (Or.inl ⟨by rfl, ?hyf16_0_1⟩) (by assumption) ?_
                    case hyf16_0_1 => (intro w hSw; (try dsimp only at hSw); go_simp; try (with_reducible rfl))
                    (try simp only [Act.put, List.getElem_toArray, List.getElem_cons_zero, List.getElem_cons_succ, List.setIfInBounds_toArray, List.set_cons_zero, List.set_cons_succ])
                    refine wpAnyH_take (i := 2) (v := ?vf16_0_2) rfl (by kernel_rfl) (by kernel_rfl) (by kernel_rfl) (fun _ _ _ h => h) (Or.inl ⟨by rfl, ?hyf16_0_2⟩) (by assumption) ?_
                    case hyf16_0_2 => (intro w hSw; (try dsimp only at hSw); go_simp; try (with_reducible rfl))
                    (try simp only [Act.put, List.getElem_toArray, List.getElem_cons_zero, List.getElem_cons_succ, List.setIfInBounds_toArray, List.set_cons_zero, List.set_cons_succ])
                    refine wpAnyH_take (i := 3) (v := ?vf16_0_3) rfl (by kernel_rfl) (by kernel_rfl) (by kernel_rfl) (fun _ _ _ h => h) (Or.inl ⟨by rfl, ?hyf16_0_3⟩) (by assumption) ?_
                    case hyf16_0_3 => (intro w hSw; (try dsimp only at hSw); go_simp; try (with_reducible rfl))
                    (try simp only [Act.put, List.getElem_toArray, List.getElem_cons_zero, List.getElem_cons_succ, List.setIfInBounds_toArray, List.set_cons_zero, List.set_cons_succ])
                    refine wpAnyH_take (i := 4) (v := ?vf16_0_4) rfl (by kernel_rfl) (by kernel_rfl) (by kernel_rfl) (fun _ _ _ h => h) (Or.inl ⟨by rfl, ?hyf16_0_4⟩) (by assumption) ?_
                    case hyf16_0_4 => (intro w hSw; (try dsimp only at hSw); go_simp; try (with_reducible rfl))
                    (try simp only [Act.put, List.getElem_toArray, List.getElem_cons_zero, List.getElem_cons_succ, List.setIfInBounds_toArray, List.set_cons_zero, List.set_cons_succ])
                    refine wpAnyH_take (i := 5) (v := ?vf16_0_5) rfl (by kernel_rfl) (by kernel_rfl) (by kernel_rfl) (fun _ _ _ h => h) (Or.inl ⟨by rfl, ?hyf16_0_5⟩) (by assumption) ?_
                    case hyf16_0_5 => (intro w hSw; (try dsimp only at hSw); go_simp; try (with_reducible rfl))
                    (try simp only [Act.put, List.getElem_toArray, List.getElem_cons_zero, List.getElem_cons_succ, List.setIfInBounds_toArray, List.set_cons_zero, List.set_cons_succ])
                    refine wpAnyH_take (i := 6) (v := ?vf16_0_6) rfl (by kernel_rfl) (by kernel_rfl) (by kernel_rfl) (fun _ _ _ h => h) (Or.inl ⟨by rfl, ?hyf16_0_6⟩) (by assumption) ?_
                    case hyf16_0_6 => (intro w hSw; (try dsimp only at hSw); go_simp; try (with_reducible rfl))
                    (try simp only [Act.put, List.getElem_toArray, List.getElem_cons_zero, List.getElem_cons_succ, List.setIfInBounds_toArray, List.set_cons_zero, List.set_cons_succ])
                    refine wpAnyH_take (i := 7) (v := ?vf16_0_7) rfl (by kernel_rfl) (by kernel_rfl) (by kernel_rfl) (fun _ _ _ h => h) (Or.inl ⟨by rfl, ?hyf16_0_7⟩) (by assumption) ?_
                    case hyf16_0_7 => (intro w hSw; (try dsimp only at hSw); go_simp; try (with_reducible rfl))
                    (try simp only [Act.put, List.getElem_toArray, List.getElem_cons_zero, List.getElem_cons_succ, List.setIfInBounds_toArray, List.set_cons_zero, List.set_cons_succ])
                    refine wpAnyH_take (i := 8) (v := ?vf16_0_8) rfl (by kernel_rfl) (by kernel_rfl) (by kernel_rfl) (fun _ _ _ h => h) (Or.inl ⟨by rfl, ?hyf16_0_8⟩) (by assumption) ?_
                    case hyf16_0_8 => (intro w hSw; (try dsimp only at hSw); go_simp; try (with_reducible rfl))
                    (try simp only [Act.put, List.getElem_toArray, List.getElem_cons_zero, List.getElem_cons_succ, List.setIfInBounds_toArray, List.set_cons_zero, List.set_cons_succ])
                    refine wpAnyH_done (by kernel_rfl) ?_ _
                    clear hHeld
                    go_wp2
                    go_ret2
                    exact OfPost.bad (HNB.out (fun h => by rw [HLO.out] at h; exact HNV.out h.2.2.2.1)) (by decide) (H2.out.ch.trans (by (repeat first | exact Chg.refl _ _ | apply Chg.drew | apply Chg.alloc)))
                  · have t1 : decide (lm < 1) = false := decide_eq_false v1
                    by_cases v2 : 1099511627776 < lm
                    · have t2 : decide (1099511627776 < lm) = true := decide_eq_true v2
                      clear v1 v2 hv
                      go_wp2_with fail
                      refine wp_region_held_drew (S := (fun W : World => W.cell? ⟨wr.heap.size, 0, none⟩ = some (.int .u8 c) ∧ W.cell? ⟨wr.heap.size, 1, none⟩ = some (.int .u8 d) ∧ W.cell? ⟨wr.heap.size, 2, none⟩ = some (.int .u8 u) ∧ W.cell? ⟨wr.heap.size, 3, none⟩ = some (.int .i64 lm) ∧ W.cell? ⟨wr.heap.size, 4, none⟩ = some (.int .i64 db) ∧ W.cell? ⟨wr.heap.size + 1, 0, none⟩ = some (.int .u8 c) ∧ W.cell? ⟨wr.heap.size + 1, 1, none⟩ = some (.int .u8 d) ∧ W.cell? ⟨wr.heap.size + 1, 2, none⟩ = some (.int .u8 u) ∧ W.cell? ⟨lb, 17, none⟩ = some (.map (some mb)) ∧ W.cell? ⟨lb, c, none⟩ = some (.bool true) ∧ W.cell? ⟨lb, d, none⟩ = some (.bool true))) (by kernel_rfl) ?_ (fun hHeld => ?_)
                      · exact KS.out _ (by (repeat first | exact Chg.refl _ _ | apply Chg.drew | apply Chg.alloc))
                      refine wpAnyH_take (i := 0) (v := ?vg15_0_0) rfl (by kernel_rfl) (by kernel_rfl) (by kernel_rfl) (fun _ _ _ h => h) (Or.inl ⟨by rfl, ?hyg15_0_0⟩) (by assumption) ?_
                      case hyg15_0_0 => (intro w hSw; (try dsimp only at hSw); go_simp; try (with_reducible rfl))
                      (try simp only [Act.put, List.getElem_toArray, List.getElem_cons_zero, List.setIfInBounds_toArray, List.set_cons_zero, List.set_cons_succ])
                      refine wpAnyH_take (i := 1) (v := ?vg15_0_1) rfl (by kernel_rfl) (by kernel_rfl) (by kernel_rfl) (fun _ _ _ h => h) (Or.inl ⟨by rfl, ?hyg15_0_1⟩) (by assumption) ?_
                      case hyg15_0_1 => (intro w hSw; (try dsimp only at hSw); go_simp; try (with_reducible rfl))
                      (try simp only [Act.put, List.getElem_toArray, List.getElem_cons_zero, List.getElem_cons_succ, List.setIfInBounds_toArray, List.set_cons_zero, List.set_cons_succ])
                      refine wpAnyH_take (i := 2) (v := ?vg15_0_2) rfl (by kernel_rfl) (by kernel_rfl) (by kernel_rfl) (fun _ _ _ h => h) (Or.inl ⟨by rfl, ?hyg15_0_2⟩) (by assumption) ?_
                      case hyg15_0_2 => (intro w hSw; (try dsimp only at hSw); go_simp; try (with_reducible rfl))
                      (try simp only [Act.put, List.getElem_toArray, List.getElem_cons_zero, List.getElem_cons_succ, List.setIfInBounds_toArray, List.set_cons_zero, List.set_cons_succ])
                      refine wpAnyH_take (i := 3) (v := ?vg15_0_3) rfl (by kernel_rfl) (by kernel_rfl) (by kernel_rfl) (fun _ _ _ h => h) (Or.inl ⟨by rfl, ?hyg15_0_3⟩) (by assumption) ?_
                      case hyg15_0_3 => (intro w hSw; (try dsimp only at hSw); go_simp; try (with_reducible rfl))
                      (try simp only [Act.put, List.getElem_toArray, List.getElem_cons_zero, List.getElem_cons_succ, List.setIfInBounds_toArray, List.set_cons_zero, List.set_cons_succ])
                      refine wpAnyH_take (i := 4) (v := ?vg15_0_4) rfl (by kernel_rfl) (by kernel_rfl) (by kernel_rfl) (fun _ _ _ h => h) (Or.inl ⟨by rfl, ?hyg15_0_4⟩) (by assumption) ?_
                      case hyg15_0_4 => (intro w hSw; (try dsimp only at hSw); go_simp; try (with_reducible rfl))
                      (try simp only [Act.put, List.getElem_toArray, List.getElem_cons_zero, List.getElem_cons_succ, List.setIfInBounds_toArray, List.set_cons_zero, List.set_cons_succ])
                      refine wpAnyH_take (i := 5) (v := ?vg15_0_5) rfl (by kernel_rfl) (by kernel_rfl) (by kernel_rfl) (fun _ _ _ h => h) (Or.inl ⟨by rfl, ?hyg15_0_5⟩) (by assumption) ?_
                      case hyg15_0_5 => (intro w hSw; (try dsimp only at hSw); go_simp; try (with_reducible rfl))
                      (try simp only [Act.put, List.getElem_toArray, List.getElem_cons_zero, List.getElem_cons_succ, List.setIfInBounds_toArray, List.set_cons_zero, List.set_cons_succ])
                      refine wpAnyH_take (i := 6) (v := ?vg15_0_6) rfl (by kernel_rfl) (by kernel_rfl) (by kernel_rfl) (fun _ _ _ h => h) (Or.inl ⟨by rfl, ?hyg15_0_6⟩) (by assumption) ?_
                      case hyg15_0_6 => (intro w hSw; (try dsimp only at hSw); go_simp; try (with_reducible rfl))
                      (try simp only [Act.put, List.getElem_toArray, List.getElem_cons_zero, List.getElem_cons_succ, List.setIfInBounds_toArray, List.set_cons_zero, List.set_cons_succ])
                      refine wpAnyH_take (i := 7) (v := ?vg15_0_7) rfl (by kernel_rfl) (by kernel_rfl) (by kernel_rfl) (fun _ _ _ h => h) (Or.inl ⟨by rfl, ?hyg15_0_7⟩) (by assumption) ?_
                      case hyg15_0_7 => (intro w hSw; (try dsimp only at hSw); go_simp; try (with_reducible rfl))
                      (try simp only [Act.put, List.getElem_toArray, List.getElem_cons_zero, List.getElem_cons_succ, List.setIfInBounds_toArray, List.set_cons_zero, List.set_cons_succ])
                      refine wpAnyH_take (i := 8) (v := ?vg15_0_8) rfl (by kernel_rfl) (by kernel_rfl) (by kernel_rfl) (fun _ _ _ h => h) (Or.inl ⟨by rfl, ?hyg15_0_8⟩) (by assumption) ?_
                      case hyg15_0_8 => (intro w hSw; (try dsimp only at hSw); go_simp; try (with_reducible rfl))
                      (try simp only [Act.put, List.getElem_toArray, List.getElem_cons_zero, List.getElem_cons_succ, List.setIfInBounds_toArray, List.set_cons_zero, List.set_cons_succ])
                      refine wpAnyH_done (by kernel_rfl) ?_ _
                      clear hHeld
                      go_wp2_with fail
                      refine wp_region_held_drew (S := (fun W : World => W.cell? ⟨wr.heap.size, 0, none⟩ = some (.int .u8 c) ∧ W.cell? ⟨wr.heap.size, 1, none⟩ = some (.int .u8 d) ∧ W.cell? ⟨wr.heap.size, 2, none⟩ = some (.int .u8 u) ∧ W.cell? ⟨wr.heap.size, 3, none⟩ = some (.int .i64 lm) ∧ W.cell? ⟨wr.heap.size, 4, none⟩ = some (.int .i64 db) ∧ W.cell? ⟨wr.heap.size + 1, 0, none⟩ = some (.int .u8 c) ∧ W.cell? ⟨wr.heap.size + 1, 1, none⟩ = some (.int .u8 d) ∧ W.cell? ⟨wr.heap.size + 1, 2, none⟩ = some (.int .u8 u) ∧ W.cell? ⟨lb, 17, none⟩ = some (.map (some mb)) ∧ W.cell? ⟨lb, c, none⟩ = some (.bool true) ∧ W.cell? ⟨lb, d, none⟩ = some (.bool true))) (by kernel_rfl) ?_ (fun hHeld => ?_)
                      · exact KS.out _ (by (repeat first | exact Chg.refl _ _ | apply Chg.drew | apply Chg.alloc))
                      refine wpAnyH_take (i := 0) (v := ?vg16_0_0) rfl (by kernel_rfl) (by kernel_rfl) (by kernel_rfl) (fun _ _ _ h => h) (Or.inl ⟨by rfl, ?hyg16_0_0⟩) (by assumption) ?_
                      case hyg16_0_0 => (intro w hSw; (try dsimp only at hSw); go_simp; try (with_reducible rfl))
                      (try simp only [Act.put, List.getElem_toArray, List.getElem_cons_zero, List.setIfInBounds_toArray, List.set_cons_zero, List.set_cons_succ])
                      refine wpAnyH_take (i := 1) (v := ?vg16_0_1) rfl (by kernel_rfl) (by kernel_rfl) (by kernel_rfl) (fun _ _ _ h => h) (Or.inl ⟨by rfl, ?hyg16_0_1⟩) (by assumption) ?_
                      case hyg16_0_1 => (intro w hSw; (try dsimp only at hSw); go_simp; try (with_reducible rfl))
                      (try simp only [Act.put, List.getElem_toArray, List.getElem_cons_zero, List.getElem_cons_succ, List.setIfInBounds_toArray, List.set_cons_zero, List.set_cons_succ])
                      refine wpAnyH_take (i := 2) (v := ?vg16_0_2) rfl (by kernel_rfl) (by kernel_rfl) (by kernel_rfl) (fun _ _ _ h => h) (Or.inl ⟨by rfl, ?hyg16_0_2⟩) (by assumption) ?_
                      case hyg16_0_2 => (intro w hSw; (try dsimp only at hSw); go_simp; try (with_reducible rfl))
                      (try simp only [Act.put, List.getElem_toArray, List.getElem_cons_zero, List.getElem_cons_succ, List.setIfInBounds_toArray, List.set_cons_zero, List.set_cons_succ])
                      refine wpAnyH_take (i := 3) (v := ?vg16_0_3) rfl (by kernel_rfl) (by kernel_rfl) (by kernel_rfl) (fun _ _ _ h => h) (Or.inl ⟨by rfl, ?hyg16_0_3⟩) (by assumption) ?_
                      case hyg16_0_3 => (intro w hSw; (try dsimp only at hSw); go_simp; try (with_reducible rfl))
                      (try simp only [Act.put, List.getElem_toArray, List.getElem_cons_zero, List.getElem_cons_succ, List.setIfInBounds_toArray, List.set_cons_zero, List.set_cons_succ])
                      refine wpAnyH_take (i := 4) (v := ?vg16_0_4) rfl (by kernel_rfl) (by kernel_rfl) (by kernel_rfl) (fun _ _ _ h => h) (Or.inl ⟨by rfl, ?hyg16_0_4⟩) (by assumption) ?_
                      case hyg16_0_4 => (intro w hSw; (try dsimp only at hSw); go_simp; try (with_reducible rfl))
                      (try simp only [Act.put, List.getElem_toArray, List.getElem_cons_zero, List.getElem_cons_succ, List.setIfInBounds_toArray, List.set_cons_zero, List.set_cons_succ])
                      refine wpAnyH_take (i := 5) (v := ?vg16_0_5) rfl (by kernel_rfl) (by kernel_rfl) (by kernel_rfl) (fun _ _ _ h => h) (Or.inl ⟨by rfl, ?hyg16_0_5⟩) (by assumption) ?_
                      case hyg16_0_5 => (intro w hSw; (try dsimp only at hSw); go_simp; try (with_reducible rfl))
                      (try simp only [Act.put, List.getElem_toArray, List.getElem_cons_zero, List.getElem_cons_succ, List.setIfInBounds_toArray, List.set_cons_zero, List.set_cons_succ])
                      refine wpAnyH_take (i := 6) (v := ?vg16_0_6) rfl (by kernel_rfl) (by kernel_rfl) (by kernel_rfl) (fun _ _ _ h => h) (Or.inl ⟨by rfl, ?hyg16_0_6⟩) (by assumption) ?_
                      case hyg16_0_6 => (intro w hSw; (try dsimp only at hSw); go_simp; try (with_reducible rfl))
                      (try simp only [Act.put, List.getElem_toArray, List.getElem_cons_zero, List.getElem_cons_succ, List.setIfInBounds_toArray, List.set_cons_zero, List.set_cons_succ])
                      refine wpAnyH_take (i := 7) (v := ?vg16_0_7) rfl (by kernel_rfl) (by kernel_rfl) (by kernel_rfl) (fun _ _ _ h => h) (Or.inl ⟨by rfl, ?hyg16_0_7⟩) (by assumption) ?_
                      case hyg16_0_7 => (intro w hSw; (try dsimp only at hSw); go_simp; try (with_reducible rfl))
                      (try simp only [Act.put, List.getElem_toArray, List.getElem_cons_zero, List.getElem_cons_succ, List.setIfInBounds_toArray, List.set_cons_zero, List.set_cons_succ])
                      refine wpAnyH_take (i := 8) (v := ?vg16_0_8) rfl (by kernel_rfl) (by kernel_rfl) (by kernel_rfl) (fun _ _ _ h => h) (Or.inl ⟨by rfl, ?hyg16_0_8⟩) (by assumption) ?_
                      case hyg16_0_8 => (intro w hSw; (try dsimp only at hSw); go_simp; try (with_reducible rfl))
                      (try simp only [Act.put, List.getElem_toArray, List.getElem_cons_zero, List.getElem_cons_succ, List.setIfInBounds_toArray, List.set_cons_zero, List.set_cons_succ])
                      refine wpAnyH_done (by kernel_rfl) ?_ _
                      clear hHeld
                      go_wp2
                      go_ret2
                      exact OfPost.bad (HNB.out (fun h => by rw [HLO.out] at h; exact HNV.out h.2.2.2.1)) (by decide) (H2.out.ch.trans (by (repeat first | exact Chg.refl _ _ | apply Chg.drew | apply Chg.alloc)))
                    · have t2 : decide (1099511627776 < lm) = false := decide_eq_false v2
                      by_cases v3 : db < 0
                      · have t3 : decide (db < 0) = true := decide_eq_true v3
                        clear v1 v2 v3 hv
                        go_wp2_with fail
                        refine wp_region_held_drew (S := (fun W : World => W.cell? ⟨wr.heap.size, 0, none⟩ = some (.int .u8 c) ∧ W.cell? ⟨wr.heap.size, 1, none⟩ = some (.int .u8 d) ∧ W.cell? ⟨wr.heap.size, 2, none⟩ = some (.int .u8 u) ∧ W.cell? ⟨wr.heap.size, 3, none⟩ = some (.int .i64 lm) ∧ W.cell? ⟨wr.heap.size, 4, none⟩ = some (.int .i64 db) ∧ W.cell? ⟨wr.heap.size + 1, 0, none⟩ = some (.int .u8 c) ∧ W.cell? ⟨wr.heap.size + 1, 1, none⟩ = some (.int .u8 d) ∧ W.cell? ⟨wr.heap.size + 1, 2, none⟩ = some (.int .u8 u) ∧ W.cell? ⟨lb, 17, none⟩ = some (.map (some mb)) ∧ W.cell? ⟨lb, c, none⟩ = some (.bool true) ∧ W.cell? ⟨lb, d, none⟩ = some (.bool true))) (by kernel_rfl) ?_ (fun hHeld => ?_)
                        · exact KS.out _ (by (repeat first | exact Chg.refl _ _ | apply Chg.drew | apply Chg.alloc))
                        refine wpAnyH_take (i := 0) (v := ?vh15_0_0) rfl (by kernel_rfl) (by kernel_rfl) (by kernel_rfl) (fun _ _ _ h => h) (Or.inl ⟨by rfl, ?hyh15_0_0⟩) (by assumption) ?_
                        case hyh15_0_0 => (intro w hSw; (try dsimp only at hSw); go_simp; try (with_reducible rfl))
                        (try simp only [Act.put, List.getElem_toArray, List.getElem_cons_zero, List.setIfInBounds_toArray, List.set_cons_zero, List.set_cons_succ])
                        refine wpAnyH_take (i := 1) (v := ?vh15_0_1) rfl (by kernel_rfl) (by kernel_rfl) (by kernel_rfl) (fun _ _ _ h => h) (Or.inl ⟨by rfl, ?hyh15_0_1⟩) (by assumption) ?_
                        case hyh15_0_1 => (intro w hSw; (try dsimp only at hSw); go_simp; try (with_reducible rfl))
                        (try simp only [Act.put, List.getElem_toArray, List.getElem_cons_zero, List.getElem_cons_succ, List.setIfInBounds_toArray, List.set_cons_zero, List.set_cons_succ])
                        refine wpAnyH_take (i := 2) (v := ?vh15_0_2) rfl (by kernel_rfl) (by kernel_rfl) (by kernel_rfl) (fun _ _ _ h => h) (Or.inl ⟨by rfl, ?hyh15_0_2⟩) (by assumption) ?_
                        case hyh15_0_2 => (intro w hSw; (try dsimp only at hSw); go_simp; try (with_reducible rfl))
                        (try simp only [Act.put, List.getElem_toArray, List.getElem_cons_zero, List.getElem_cons_succ, List.setIfInBounds_toArray, List.set_cons_zero, List.set_cons_succ])
                        refine wpAnyH_take (i := 3) (v := ?vh15_0_3) rfl (by kernel_rfl) (by kernel_rfl) (by kernel_rfl) (fun _ _ _ h => h) (Or.inl ⟨by rfl, ?hyh15_0_3⟩) (by assumption) ?_
                        case hyh15_0_3 => (intro w hSw; (try dsimp only at hSw); go_simp; try (with_reducible rfl))
                        (try simp only [Act.put, List.getElem_toArray, List.getElem_cons_zero, List.getElem_cons_succ, List.setIfInBounds_toArray, List.set_cons_zero, List.set_cons_succ])
                        refine wpAnyH_take (i := 4) (v := ?vh15_0_4) rfl (by kernel_rfl) (by kernel_rfl) (by kernel_rfl) (fun _ _ _ h => h) (Or.inl ⟨by rfl, ?hyh15_0_4⟩) (by assumption) ?_
                        case hyh15_0_4 => (intro w hSw; (try dsimp only at hSw); go_simp; try (with_reducible rfl))
                        (try simp only [Act.put, List.getElem_toArray, List.getElem_cons_zero, List.getElem_cons_succ, List.setIfInBounds_toArray, List.set_cons_zero, List.set_cons_succ])
                        refine wpAnyH_take (i := 5) (v := ?vh15_0_5) rfl (by kernel_rfl) (by kernel_rfl) (by kernel_rfl) (fun _ _ _ h => h) (Or.inl ⟨by rfl, ?hyh15_0_5⟩) (by assumption) ?_
                        case hyh15_0_5 => (intro w hSw; (try dsimp only at hSw); go_simp; try (with_reducible rfl))
                        (try simp only [Act.put, List.getElem_toArray, List.getElem_cons_zero, List.getElem_cons_succ, List.setIfInBounds_toArray, List.set_cons_zero, List.set_cons_succ])
                        refine wpAnyH_take (i := 6) (v := ?vh15_0_6) rfl (by kernel_rfl) (by kernel_rfl) (by kernel_rfl) (fun _ _ _ h => h) (Or.inl ⟨by rfl, ?hyh15_0_6⟩) (by assumption) ?_
                        case hyh15_0_6 => (intro w hSw; (try dsimp only at hSw); go_simp; try (with_reducible rfl))
                        (try simp only [Act.put, List.getElem_toArray, List.getElem_cons_zero, List.getElem_cons_succ, List.setIfInBounds_toArray, List.set_cons_zero, List.set_cons_succ])
                        refine wpAnyH_take (i := 7) (v := ?vh15_0_7) rfl (by kernel_rfl) (by kernel_rfl) (by kernel_rfl) (fun _ _ _ h => h) (Or.inl ⟨by rfl, ?hyh15_0_7⟩) (by assumption) ?_
                        case hyh15_0_7 => (intro w hSw; (try dsimp only at hSw); go_simp; try (with_reducible rfl))
                        (try simp only [Act.put, List.getElem_toArray, List.getElem_cons_zero, List.getElem_cons_succ, List.setIfInBounds_toArray, List.set_cons_zero, List.set_cons_succ])
                        refine wpAnyH_take (i := 8) (v := ?vh15_0_8) rfl (by kernel_rfl) (by kernel_rfl) (by kernel_rfl) (fun _ _ _ h => h) (Or.inl ⟨by rfl, ?hyh15_0_8⟩) (by assumption) ?_
                        case hyh15_0_8 => (intro w hSw; (try dsimp only at hSw); go_simp; try (with_reducible rfl))
                        (try simp only [Act.put, List.getElem_toArray, List.getElem_cons_zero, List.getElem_cons_succ, List.setIfInBounds_toArray, List.set_cons_zero, List.set_cons_succ])
                        refine wpAnyH_done (by kernel_rfl) ?_ _
                        clear hHeld
                        go_wp2_with fail
                        refine wp_region_held_drew (S := (fun W : World => W.cell? ⟨wr.heap.size, 0, none⟩ = some (.int .u8 c) ∧ W.cell? ⟨wr.heap.size, 1, none⟩ = some (.int .u8 d) ∧ W.cell? ⟨wr.heap.size, 2, none⟩ = some (.int .u8 u) ∧ W.cell? ⟨wr.heap.size, 3, none⟩ = some (.int .i64 lm) ∧ W.cell? ⟨wr.heap.size, 4, none⟩ = some (.int .i64 db) ∧ W.cell? ⟨wr.heap.size + 1, 0, none⟩ = some (.int .u8 c) ∧ W.cell? ⟨wr.heap.size + 1, 1, none⟩ = some (.int .u8 d) ∧ W.cell? ⟨wr.heap.size + 1, 2, none⟩ = some (.int .u8 u) ∧ W.cell? ⟨lb, 17, none⟩ = some (.map (some mb)) ∧ W.cell? ⟨lb, c, none⟩ = some (.bool true) ∧ W.cell? ⟨lb, d, none⟩ = some (.bool true))) (by kernel_rfl) ?_ (fun hHeld => ?_)
                        · exact KS.out _ (by (repeat first | exact Chg.refl _ _ | apply Chg.drew | apply Chg.alloc))
                        refine wpAnyH_take (i := 0) (v := ?vh16_0_0) rfl (by kernel_rfl) (by kernel_rfl) (by kernel_rfl) (fun _ _ _ h => h) (Or.inl ⟨by rfl, ?hyh16_0_0⟩) (by assumption) ?_
                        case hyh16_0_0 => (intro w hSw; (try dsimp only at hSw); go_simp; try (with_reducible rfl))
                        (try simp only [Act.put, List.getElem_toArray, List.getElem_cons_zero, List.setIfInBounds_toArray, List.set_cons_zero, List.set_cons_succ])
                        refine wpAnyH_take (i := 1) (v := ?vh16_0_1) rfl (by kernel_rfl) (by kernel_rfl) (by kernel_rfl) (fun _ _ _ h => h) (Or.inl ⟨by rfl, ?hyh16_0_1⟩) (by assumption) ?_
                        case hyh16_0_1 => (intro w hSw; (try dsimp only at hSw); go_simp; try (with_reducible rfl))
                        (try simp only [Act.put, List.getElem_toArray, List.getElem_cons_zero, List.getElem_cons_succ, List.setIfInBounds_toArray, List.set_cons_zero, List.set_cons_succ])
                        refine wpAnyH_take (i := 2) (v := ?vh16_0_2) rfl (by kernel_rfl) (by kernel_rfl) (by kernel_rfl) (fun _ _ _ h => h) (Or.inl ⟨by rfl, ?hyh16_0_2⟩) (by assumption) ?_
                        case hyh16_0_2 => (intro w hSw; (try dsimp only at hSw); go_simp; try (with_reducible rfl))
                        (try simp only [Act.put, List.getElem_toArray, List.getElem_cons_zero, List.getElem_cons_succ, List.setIfInBounds_toArray, List.set_cons_zero, List.set_cons_succ])
                        refine wpAnyH_take (i := 3) (v := ?vh16_0_3) rfl (by kernel_rfl) (by kernel_rfl) (by kernel_rfl) (fun _ _ _ h => h) (Or.inl ⟨by rfl, ?hyh16_0_3⟩) (by assumption) ?_
                        case hyh16_0_3 => (intro w hSw; (try dsimp only at hSw); go_simp; try (with_reducible rfl))
                        (try simp only [Act.put, List.getElem_toArray, List.getElem_cons_zero, List.getElem_cons_succ, List.setIfInBounds_toArray, List.set_cons_zero, List.set_cons_succ])
                        refine wpAnyH_take (i := 4) (v := ?vh16_0_4) rfl (by kernel_rfl) (by kernel_rfl) (by kernel_rfl) (fun _ _ _ h => h) (Or.inl ⟨by rfl, ?hyh16_0_4⟩) (by assumption) ?_
                        case hyh16_0_4 => (intro w hSw; (try dsimp only at hSw); go_simp; try (with_reducible rfl))
                        (try simp only [Act.put, List.getElem_toArray, List.getElem_cons_zero, List.getElem_cons_succ, List.setIfInBounds_toArray, List.set_cons_zero, List.set_cons_succ])
                        refine wpAnyH_take (i := 5) (v := ?vh16_0_5) rfl (by kernel_rfl) (by kernel_rfl) (by kernel_rfl) (fun _ _ _ h => h) (Or.inl ⟨by rfl, ?hyh16_0_5⟩) (by assumption) ?_
                        case hyh16_0_5 => (intro w hSw; (try dsimp only at hSw); go_simp; try (with_reducible rfl))
                        (try simp only [Act.put, List.getElem_toArray, List.getElem_cons_zero, List.getElem_cons_succ, List.setIfInBounds_toArray, List.set_cons_zero, List.set_cons_succ])
                        refine wpAnyH_take (i := 6) (v := ?vh16_0_6) rfl (by kernel_rfl) (by kernel_rfl) (by kernel_rfl) (fun _ _ _ h => h) (Or.inl ⟨by rfl, ?hyh16_0_6⟩) (by assumption) ?_
                        case hyh16_0_6 => (intro w hSw; (try dsimp only at hSw); go_simp; try (with_reducible rfl))
                        (try simp only [Act.put, List.getElem_toArray, List.getElem_cons_zero, List.getElem_cons_succ, List.setIfInBounds_toArray, List.set_cons_zero, List.set_cons_succ])
                        refine wpAnyH_take (i := 7) (v := ?vh16_0_7) rfl (by kernel_rfl) (by kernel_rfl) (by kernel_rfl) (fun _ _ _ h => h) (Or.inl ⟨by rfl, ?hyh16_0_7⟩) (by assumption) ?_
                        case hyh16_0_7 => (intro w hSw; (try dsimp only at hSw); go_simp; try (with_reducible rfl))
                        (try simp only [Act.put, List.getElem_toArray, List.getElem_cons_zero, List.getElem_cons_succ, List.setIfInBounds_toArray, List.set_cons_zero, List.set_cons_succ])
                        refine wpAnyH_take (i := 8) (v := ?vh16_0_8) rfl (by kernel_rfl) (by kernel_rfl) (by kernel_rfl) (fun _ _ _ h => h) (Or.inl ⟨by rfl, ?hyh16_0_8⟩) (by assumption) ?_
                        case hyh16_0_8 => (intro w hSw; (try dsimp only at hSw); go_simp; try (with_reducible rfl))
                        (try simp only [Act.put, List.getElem_toArray, List.getElem_cons_zero, List.getElem_cons_succ, List.setIfInBounds_toArray, List.set_cons_zero, List.set_cons_succ])
                        refine wpAnyH_done (by kernel_rfl) ?_ _
                        clear hHeld
                        go_wp2
                        go_ret2
                        exact OfPost.bad (HNB.out (fun h => by rw [HLO.out] at h; exact HNV.out h.2.2.2.1)) (by decide) (H2.out.ch.trans (by (repeat first | exact Chg.refl _ _ | apply Chg.drew | apply Chg.alloc)))
                      · have t3 : decide (db < 0) = false := decide_eq_false v3
                        have t4 : decide (lm < db) = true := decide_eq_true (by omega)
                        clear v1 v2 v3 hv
                        go_wp2_with fail
                        refine wp_region_held_drew (S := (fun W : World => W.cell? ⟨wr.heap.size, 0, none⟩ = some (.int .u8 c) ∧ W.cell? ⟨wr.heap.size, 1, none⟩ = some (.int .u8 d) ∧ W.cell? ⟨wr.heap.size, 2, none⟩ = some (.int .u8 u) ∧ W.cell? ⟨wr.heap.size, 3, none⟩ = some (.int .i64 lm) ∧ W.cell? ⟨wr.heap.size, 4, none⟩ = some (.int .i64 db) ∧ W.cell? ⟨wr.heap.size + 1, 0, none⟩ = some (.int .u8 c) ∧ W.cell? ⟨wr.heap.size + 1, 1, none⟩ = some (.int .u8 d) ∧ W.cell? ⟨wr.heap.size + 1, 2, none⟩ = some (.int .u8 u) ∧ W.cell? ⟨lb, 17, none⟩ = some (.map (some mb)) ∧ W.cell? ⟨lb, c, none⟩ = some (.bool true) ∧ W.cell? ⟨lb, d, none⟩ = some (.bool true))) (by kernel_rfl) ?_ (fun hHeld => ?_)
                        · exact KS.out _ (by (repeat first | exact Chg.refl _ _ | apply Chg.drew | apply Chg.alloc))
                        refine wpAnyH_take (i := 0) (v := ?vi15_0_0) rfl (by kernel_rfl) (by kernel_rfl) (by kernel_rfl) (fun _ _ _ h => h) (Or.inl ⟨by rfl, ?hyi15_0_0⟩) (by assumption) ?_
                        case hyi15_0_0 => (intro w hSw; (try dsimp only at hSw); go_simp; try (with_reducible rfl))
                        (try simp only [Act.put, List.getElem_toArray, List.getElem_cons_zero, List.setIfInBounds_toArray, List.set_cons_zero, List.set_cons_succ])
                        refine wpAnyH_take (i := 1) (v := ?vi15_0_1) rfl (by kernel_rfl) (by kernel_rfl) (by kernel_rfl) (fun _ _ _ h => h) (Or.inl ⟨by rfl, ?hyi15_0_1⟩) (by assumption) ?_
                        case hyi15_0_1 => (intro w hSw; (try dsimp only at hSw); go_simp; try (with_reducible rfl))
                        (try simp only [Act.put, List.getElem_toArray, List.getElem_cons_zero, List.getElem_cons_succ, List.setIfInBounds_toArray, List.set_cons_zero, List.set_cons_succ])
                        refine wpAnyH_take (i := 2) (v := ?vi15_0_2) rfl (by kernel_rfl) (by kernel_rfl) (by kernel_rfl) (fun _ _ _ h => h) (Or.inl ⟨by rfl, ?hyi15_0_2⟩) (by assumption) ?_
                        case hyi15_0_2 => (intro w hSw; (try dsimp only at hSw); go_simp; try (with_reducible rfl))
                        (try simp only [Act.put, List.getElem_toArray, List.getElem_cons_zero, List.getElem_cons_succ, List.setIfInBounds_toArray, List.set_cons_zero, List.set_cons_succ])
                        refine wpAnyH_take (i := 3) (v := ?vi15_0_3) rfl (by kernel_rfl) (by kernel_rfl) (by kernel_rfl) (fun _ _ _ h => h) (Or.inl ⟨by rfl, ?hyi15_0_3⟩) (by assumption) ?_
                        case hyi15_0_3 => (intro w hSw; (try dsimp only at hSw); go_simp; try (with_reducible rfl))
                        (try simp only [Act.put, List.getElem_toArray, List.getElem_cons_zero, List.getElem_cons_succ, List.setIfInBounds_toArray, List.set_cons_zero, List.set_cons_succ])
                        refine wpAnyH_take (i := 4) (v := ?vi15_0_4) rfl (by kernel_rfl) (by kernel_rfl) (by kernel_rfl) (fun _ _ _ h => h) (Or.inl ⟨by rfl, ?hyi15_0_4⟩) (by assumption) ?_
                        case hyi15_0_4 => (intro w hSw; (try dsimp only at hSw); go_simp; try (with_reducible rfl))
                        (try simp only [Act.put, List.getElem_toArray, List.getElem_cons_zero, List.getElem_cons_succ, List.setIfInBounds_toArray, List.set_cons_zero, List.set_cons_succ])
                        refine wpAnyH_take (i := 5) (v := ?vi15_0_5) rfl (by kernel_rfl) (by kernel_rfl) (by kernel_rfl) (fun _ _ _ h => h) (Or.inl ⟨by rfl, ?hyi15_0_5⟩) (by assumption) ?_
                        case hyi15_0_5 => (intro w hSw; (try dsimp only at hSw); go_simp; try (with_reducible rfl))
                        (try simp only [Act.put, List.getElem_toArray, List.getElem_cons_zero, List.getElem_cons_succ, List.setIfInBounds_toArray, List.set_cons_zero, List.set_cons_succ])
                        refine wpAnyH_take (i := 6) (v := ?vi15_0_6) rfl (by kernel_rfl) (by kernel_rfl) (by kernel_rfl) (fun _ _ _ h => h) (Or.inl ⟨by rfl, ?hyi15_0_6⟩) (by assumption) ?_
                        case hyi15_0_6 => (intro w hSw; (try dsimp only at hSw); go_simp; try (with_reducible rfl))
                        (try simp only [Act.put, List.getElem_toArray, List.getElem_cons_zero, List.getElem_cons_succ, List.setIfInBounds_toArray, List.set_cons_zero, List.set_cons_succ])
                        refine wpAnyH_take (i := 7) (v := ?vi15_0_7) rfl (by kernel_rfl) (by kernel_rfl) (by kernel_rfl) (fun _ _ _ h => h) (Or.inl ⟨by rfl, ?hyi15_0_7⟩) (by assumption) ?_
                        case hyi15_0_7 => (intro w hSw; (try dsimp only at hSw); go_simp; try (with_reducible rfl))
                        (try simp only [Act.put, List.getElem_toArray, List.getElem_cons_zero, List.getElem_cons_succ, List.setIfInBounds_toArray, List.set_cons_zero, List.set_cons_succ])
                        refine wpAnyH_take (i := 8) (v := ?vi15_0_8) rfl (by kernel_rfl) (by kernel_rfl) (by kernel_rfl) (fun _ _ _ h => h) (Or.inl ⟨by rfl, ?hyi15_0_8⟩) (by assumption) ?_
                        case hyi15_0_8 => (intro w hSw; (try dsimp only at hSw); go_simp; try (with_reducible rfl))
                        (try simp only [Act.put, List.getElem_toArray, List.getElem_cons_zero, List.getElem_cons_succ, List.setIfInBounds_toArray, List.set_cons_zero, List.set_cons_succ])
                        refine wpAnyH_done (by kernel_rfl) ?_ _
                        clear hHeld
                        go_wp2_with fail
                        refine wp_region_held_drew (S := (fun W : World => W.cell? ⟨wr.heap.size, 0, none⟩ = some (.int .u8 c) ∧ W.cell? ⟨wr.heap.size, 1, none⟩ = some (.int .u8 d) ∧ W.cell? ⟨wr.heap.size, 2, none⟩ = some (.int .u8 u) ∧ W.cell? ⟨wr.heap.size, 3, none⟩ = some (.int .i64 lm) ∧ W.cell? ⟨wr.heap.size, 4, none⟩ = some (.int .i64 db) ∧ W.cell? ⟨wr.heap.size + 1, 0, none⟩ = some (.int .u8 c) ∧ W.cell? ⟨wr.heap.size + 1, 1, none⟩ = some (.int .u8 d) ∧ W.cell? ⟨wr.heap.size + 1, 2, none⟩ = some (.int .u8 u) ∧ W.cell? ⟨lb, 17, none⟩ = some (.map (some mb)) ∧ W.cell? ⟨lb, c, none⟩ = some (.bool true) ∧ W.cell? ⟨lb, d, none⟩ = some (.bool true))) (by kernel_rfl) ?_ (fun hHeld => ?_)
                        · exact KS.out _ (by (repeat first | exact Chg.refl _ _ | apply Chg.drew | apply Chg.alloc))
                        refine wpAnyH_take (i := 0) (v := ?vi16_0_0) rfl (by kernel_rfl) (by kernel_rfl) (by kernel_rfl) (fun _ _ _ h => h) (Or.inl ⟨by rfl, ?hyi16_0_0⟩) (by assumption) ?_
                        case hyi16_0_0 => (intro w hSw; (try dsimp only at hSw); go_simp; try (with_reducible rfl))
                        (try simp only [Act.put, List.getElem_toArray, List.getElem_cons_zero, List.setIfInBounds_toArray, List.set_cons_zero, List.set_cons_succ])
                        refine wpAnyH_take (i := 1) (v := ?vi16_0_1) rfl (by kernel_rfl) (by kernel_rfl) (by kernel_rfl) (fun _ _ _ h => h) (Or.inl ⟨by rfl, ?hyi16_0_1⟩) (by assumption) ?_
                        case hyi16_0_1 => (intro w hSw; (try dsimp only at hSw); go_simp; try (with_reducible rfl))
                        (try simp only [Act.put, List.getElem_toArray, List.getElem_cons_zero, List.getElem_cons_succ, List.setIfInBounds_toArray, List.set_cons_zero, List.set_cons_succ])
                        refine wpAnyH_take (i := 2) (v := ?vi16_0_2) rfl (by kernel_rfl) (by kernel_rfl) (by kernel_rfl) (fun _ _ _ h => h) (Or.inl ⟨by rfl, ?hyi16_0_2⟩) (by assumption) ?_
                        case hyi16_0_2 => (intro w hSw; (try dsimp only at hSw); go_simp; try (with_reducible rfl))
                        (try simp only [Act.put, List.getElem_toArray, List.getElem_cons_zero, List.getElem_cons_succ, List.setIfInBounds_toArray, List.set_cons_zero, List.set_cons_succ])
                        refine wpAnyH_take (i := 3) (v := ?vi16_0_3) rfl (by kernel_rfl) (by kernel_rfl) (by kernel_rfl) (fun _ _ _ h => h) (Or.inl ⟨by rfl, ?hyi16_0_3⟩) (by assumption) ?_
                        case hyi16_0_3 => (intro w hSw; (try dsimp only at hSw); go_simp; try (with_reducible rfl))
                        (try simp only [Act.put, List.getElem_toArray, List.getElem_cons_zero, List.getElem_cons_succ, List.setIfInBounds_toArray, List.set_cons_zero, List.set_cons_succ])
                        refine wpAnyH_take (i := 4) (v := ?vi16_0_4) rfl (by kernel_rfl) (by kernel_rfl) (by kernel_rfl) (fun _ _ _ h => h) (Or.inl ⟨by rfl, ?hyi16_0_4⟩) (by assumption) ?_
                        case hyi16_0_4 => (intro w hSw; (try dsimp only at hSw); go_simp; try (with_reducible rfl))
                        (try simp only [Act.put, List.getElem_toArray, List.getElem_cons_zero, List.getElem_cons_succ, List.setIfInBounds_toArray, List.set_cons_zero, List.set_cons_succ])
                        refine wpAnyH_take (i := 5) (v := ?vi16_0_5) rfl (by kernel_rfl) (by kernel_rfl) (by kernel_rfl) (fun _ _ _ h => h) (Or.inl ⟨by rfl, ?hyi16_0_5⟩) (by assumption) ?_
                        case hyi16_0_5 => (intro w hSw; (try dsimp only at hSw); go_simp; try (with_reducible rfl))
                        (try simp only [Act.put, List.getElem_toArray, List.getElem_cons_zero, List.getElem_cons_succ, List.setIfInBounds_toArray, List.set_cons_zero, List.set_cons_succ])
                        refine wpAnyH_take (i := 6) (v := ?vi16_0_6) rfl (by kernel_rfl) (by kernel_rfl) (by kernel_rfl) (fun _ _ _ h => h) (Or.inl ⟨by rfl, ?hyi16_0_6⟩) (by assumption) ?_
                        case hyi16_0_6 => (intro w hSw; (try dsimp only at hSw); go_simp; try (with_reducible rfl))
                        (try simp only [Act.put, List.getElem_toArray, List.getElem_cons_zero, List.getElem_cons_succ, List.setIfInBounds_toArray, List.set_cons_zero, List.set_cons_succ])
                        refine wpAnyH_take (i := 7) (v := ?vi16_0_7) rfl (by kernel_rfl) (by kernel_rfl) (by kernel_rfl) (fun _ _ _ h => h) (Or.inl ⟨by rfl, ?hyi16_0_7⟩) (by assumption) ?_
                        case hyi16_0_7 => (intro w hSw; (try dsimp only at hSw); go_simp; try (with_reducible rfl))
                        (try simp only [Act.put, List.getElem_toArray, List.getElem_cons_zero, List.getElem_cons_succ, List.setIfInBounds_toArray, List.set_cons_zero, List.set_cons_succ])
                        refine wpAnyH_take (i := 8) (v := ?vi16_0_8) rfl (by kernel_rfl) (by kernel_rfl) (by kernel_rfl) (fun _ _ _ h => h) (Or.inl ⟨by rfl, ?hyi16_0_8⟩) (by assumption) ?_
                        case hyi16_0_8 => (intro w hSw; (try dsimp only at hSw); go_simp; try (with_reducible rfl))
                        (try simp only [Act.put, List.getElem_toArray, List.getElem_cons_zero, List.getElem_cons_succ, List.setIfInBounds_toArray, List.set_cons_zero, List.set_cons_succ])
                        refine wpAnyH_done (by kernel_rfl) ?_ _
                        clear hHeld
                        go_wp2
                        go_ret2
                        exact OfPost.bad (HNB.out (fun h => by rw [HLO.out] at h; exact HNV.out h.2.2.2.1)) (by decide) (H2.out.ch.trans (by (repeat first | exact Chg.refl _ _ | apply Chg.drew | apply Chg.alloc)))
        · obtain rfl : k = ls.length := by omega
          have hO : Hid (ofE ps ls = 0) := Lib.hid (HO.out HK.out)
          rw [List.take_length, HSS.out] at H
          go_wp2
          go_ret2
          exact OfPost.ok hO.out H.out
end Go.Proofs.Ytofnaigkfhfhoaa
