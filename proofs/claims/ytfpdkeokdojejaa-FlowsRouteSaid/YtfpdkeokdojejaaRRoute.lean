/-
  The document's package 7: Route, Most.
-/
import Derived.Test.YtfpdkeokdojejaaRShort
import Derived.Test.YtfpdkeokdojejaaRoute2
namespace Go.Proofs.Ytfpdkeokdojejaa
open Go.RowKit Pl
attribute [local irreducible] hops
attribute [local go_sem ↓] Go.wp_at_zero Go.wp_at_succ

/-- What the document's Route answers: pushes in a row of its own, and how much it got. -/
def RouteR (C : Caps) (s t : Nat) (want : Int) (w : World) (e : Ending) (w' : World) : Prop :=
  ∃ v, e = .returned (.tuple #[v, .int .i64 (route s t want.toNat C want).2.1]) ∧ w'.ownsRow w.heap.size 35 3 v (route s t want.toNat C want).1.length (flsCells (route s t want.toNat C want).1) ∧ Chg [] w w'

set_option maxRecDepth 100000 in
set_option maxHeartbeats 2000000 in
theorem rroute_low {w : World} {mb : Nat} {v : Value} {C : Caps} (h : IsM w mb v C) {s t : Nat} {want : Int} (hw : want ≤ 0) (hlo : -9223372036854775808 ≤ want) :
    Calls Try.prog 32 #[.pointer (some ⟨mb, 0, none⟩), .int .u8 s, .int .u8 t, .int .i64 want] w (RouteR C s t want w) := by
  have hr : route s t want.toNat C want = ([], 0, C) := route_done _ _ _ _ hw
  have HR := Lib.hid hr
  have HC := Lib.hid (rcopy h)
  clear hr h
  go_enter Try.func32, Try.ntmps32
  go_wp2_with fail
  refine HC.out.mono ?_
  rintro e w1 ⟨db, u, hdb, rfl, hM, hc, hu⟩
  have K := Lib.hid hc
  clear hM hc hu HC
  have hlt : ¬ 0 < want := by omega
  go_wp2
  go_loopw [11, 12] (fun u a ws => u = .slice none 0 0 ∧ a = .int .i64 want ∧ ws = w1) (fun _ _ _ => 1)
  case atStart => exact ⟨rfl, rfl, rfl⟩
  case round =>
    obtain ⟨rfl, rfl, rfl⟩ := hrel
    by_cases h0 : want = 0
    · subst h0
      go_wp2
      all_goals
        go_ret2
        exact ⟨_, by rw [HR.out]; rfl, by rw [HR.out]; exact World.ownsRow_nil _ _ _ _, K.out⟩
    · have h1 : want < 0 := by omega
      go_wp2
      all_goals
        go_ret2
        exact ⟨_, by rw [HR.out]; rfl, by rw [HR.out]; exact World.ownsRow_nil _ _ _ _, K.out⟩

theorem Blk.ne {w : World} {b b' : Nat} {t t' : TypeId} {cs cs' : Array Value} (h : Blk w b t cs) (h' : Blk w b' t' cs') (hne : t ≠ t') : b ≠ b' := by
  rintro rfl
  unfold Blk at h h'
  rw [h] at h'
  injection h' with h'
  injection h' with _ h2 _
  exact hne h2
theorem ownsRow_ne {w : World} {b' : Nat} {t' e : TypeId} {cs' : Array Value} {base size n : Nat} {v : Value} {xs : List Value} (h : w.ownsRow base e size v n xs) (h' : Blk w b' t' cs') (hne : e ≠ t') : ∀ g, v.ownBlock = some g → g ∉ [b'] := by
  intro g hg
  obtain ⟨_, ⟨rfl, _⟩ | ⟨g', c, cs, rfl, _, hk, _⟩⟩ := h
  · cases hg
  · have e1 : g' = g := by simpa [Value.ownBlock] using hg
    subst e1
    have := Blk.ne (t := e) hk h' hne
    simpa using this
theorem IsM.lt {w : World} {mb : Nat} {v : Value} {C : Caps} (h : IsM w mb v C) (hne : edgesOf C ≠ []) : ∀ g, v.ownBlock = some g → g < w.heap.size := by
  intro g hg
  rcases h.row with ⟨h0, _⟩ | ⟨g', off, cap, rfl, hcap, hc⟩
  · exact absurd h0 hne
  · have e1 : g' = g := by simpa [Value.ownBlock] using hg
    subst e1
    have hpos : 0 < (edgesOf C).length := List.length_pos_iff.2 hne
    exact block_lt_of_cell (hc 0 hpos).1
theorem edges_push {D : Caps} {B : Int} (hD : CapOk B D) {x y : Nat} {n : Int} (hx : x < 17) (hy : y < 17) (hne : x ≠ y) (hn : 1 ≤ n) : edgesOf (push D x y n) ≠ [] := by
  have h0 := hD.nonneg y x
  have e : push D x y n y x = D y x + n := by
    unfold push
    rw [if_neg (fun h => hne h.1.symm), if_pos ⟨rfl, rfl⟩]
  exact List.ne_nil_of_mem (mem_edgesOf.2 (show (⟨y, x, push D x y n y x⟩ : Fl).f < 17 ∧ _ from ⟨hy, hx, by show 0 < push D x y n y x; rw [e]; omega, rfl⟩))

/-- What stands between two rounds of the document's Route. -/
structure RR7 (w wr : World) (C : Caps) (s t : Nat) (want : Int) (cb : Nat) (u : Value) (k : Nat) (D : Caps) (ps : List Fl) (got : Int) (vm : Value) : Prop where
  rs : RS C s t want.toNat want k D ps got
  m : IsM wr cb vm D
  own : wr.ownsRow w.heap.size 35 3 u ps.length (flsCells ps)
  ch : Chg [] w wr
  off : ∀ g, vm.ownBlock = some g → u.ownBlock ≠ some g

set_option maxRecDepth 100000 in
set_option maxHeartbeats 4000000 in
theorem rroute_pos {w : World} {mb : Nat} {v : Value} {C : Caps} (h : IsM w mb v C) {s t : Nat} {want : Int} (hw : 0 < want) (hhi : want ≤ 9223372036854775807) :
    Calls Try.prog 32 #[.pointer (some ⟨mb, 0, none⟩), .int .u8 s, .int .u8 t, .int .i64 want] w (RouteR C s t want w) := by
  have HC := Lib.hid (rcopy h)
  obtain ⟨i0, q0, q1, q2, q3⟩ := info_parts info_Flow
  have II := Lib.hid (And.intro q0 (And.intro q1 (And.intro q2 q3)))
  clear h q0 q1 q2 q3
  go_enter Try.func32, Try.ntmps32
  go_wp2_with fail
  refine HC.out.mono ?_
  rintro e w1 ⟨cb, vm0, hdb, rfl, hM, hc, hu⟩
  have hcb1 := hM.blk.lt
  have K0 : Hid (RR7 w w1 C s t want cb (.slice none 0 0) 0 C [] 0 vm0) := ⟨RS.start s t _ hM.good (by omega) (by omega), hM, World.ownsRow_nil _ _ _ _, hc, fun g hg => by simp [Value.ownBlock]⟩
  clear hM hc hu HC
  go_wp2
  go_loopg [11, 12] 70162 (fun gk u a wr => ∃ (k : Nat) (D : Caps) (ps : List Fl) (got : Int) (vm : Value), a = .int .i64 (want - got) ∧ Hid (RR7 w wr C s t want cb u k D ps got vm) ∧ gk + k = 70162)
  case atStart => exact ⟨0, C, [], 0, vm0, by simp, K0, rfl⟩
  case round =>
    obtain ⟨k, D, ps, got, vm, rfl, HK, hgk⟩ := hrel
    have hnn := HK.out.rs.nn
    have hle := HK.out.rs.le
    have hfew := HK.out.rs.few
    by_cases hlt : got < want
    · have hl0 : 0 < want - got := by omega
      go_wp2_with fail
      refine (rshort HK.out.m s t).mono ?_
      rintro e w2 ⟨⟨uw, rfl, how⟩, hc2⟩
      by_cases hnil : short D s t = []
      · rw [hnil] at how
        obtain rfl := how.nil
        have hr := HK.out.rs.none hnil
        have RQ : Hid (RouteR C s t want w (.returned (.tuple #[u11, .int .i64 (want - (want - got))])) w2) := ⟨u11, by rw [hr]; show _ = Ending.returned (.tuple #[u11, .int .i64 got]); rw [show want - (want - got) = got from by omega], by rw [hr]; exact ownsRow_chgB HK.out.own hc2 (by simp), HK.out.ch.trans hc2⟩
        clear hr hnil how hc2 hle hfew
        go_wp2
        go_ret2
        exact RQ.out
      · obtain ⟨g, cap, rfl, hpos, hrow⟩ := how.some hnil
        have hR := round_of (C := D) (s := s) (t := t) (w := want - got) (by omega) hnil
        have hWy := short_way hnil
        have htP : t ∈ P16 := Classical.byContradiction fun hno => hnil (short_off (.inr (.inl hno)))
        have hstep := HK.out.rs.step htP hlt hnil
        have hl16 : (short D s t).length ≤ 16 := length_le16 hWy.nodup hWy.inP
        have hinP := hWy.inP
        obtain ⟨lx, hlx⟩ : ∃ lx, lx = short D s t := ⟨_, rfl⟩
        rw [← hlx] at hR hstep hl16 hpos hrow hinP ⊢
        obtain ⟨N, hN⟩ : ∃ N, N = least D lx (want - got) := ⟨_, rfl⟩
        have hRp := hR.pos
        have hRl := hR.le
        have hRv := hR.valid
        rw [← hN] at hRp hRl hRv hstep
        have HST := Lib.hid hstep
        have HVL := Lib.hid hRv
        have HNL := Lib.hid hN
        have hcells := RdP.cells hrow
        obtain ⟨cs, hBg⟩ := RdP.blk hrow
        have hpl := HK.out.rs.num
        have HB2 := Lib.hid hBg
        have HCL : Hid (∀ j (hj : j < lx.length), cs[j]? = some (.int .u8 lx[j])) := fun j hj => by rw [← hBg.cell j]; exact hcells j hj
        have HG2 : Hid (RR7 w w2 C s t want cb u11 k D ps got vm) := ⟨HK.out.rs, HK.out.m.chg0 hc2, ownsRow_chgB HK.out.own hc2 (by simp), HK.out.ch.trans hc2, HK.out.off⟩
        have HIN := Lib.hid hinP
        have hz : ((lx.length : Int) == 0) = false := by rw [beq_eq_false_iff_ne]; omega
        clear hR hWy hstep hRv hN hcells hBg hrow how hc2 hnil hlx HK hinP
        go_wp2
        go_loopw [14, 15] (fun a i ws => ∃ (j : Nat) (x : Int), j + 1 ≤ lx.length ∧ a = .int .i64 x ∧ i = .int .i64 ((j : Int) + 1) ∧ Hid (least D (lx.drop j) x = N) ∧ Hid (Chg [] w2 ws)) (fun _ i _ => 18 - (intOf i).toNat)
        case atStart => exact ⟨0, want - got, by omega, rfl, rfl, HNL.out.symm, Chg.refl _ _⟩
        case round =>
          obtain ⟨j, m, hj, rfl, rfl, hm, hc⟩ := hrel
          have hs1 : IntKind.i64.wrap (j : Int) = (j : Int) := IntWalk.i64_in _ ⟨by omega, by omega⟩
          by_cases hjl : j + 1 < lx.length
          · have q1 := HCL.out j (by omega)
            have q2 := HCL.out (j + 1) hjl
            have hd : lx.drop j = lx[j] :: lx[j + 1] :: lx.drop (j + 2) := by
              rw [List.drop_eq_getElem_cons (by omega), List.drop_eq_getElem_cons hjl]
            have hd2 : lx.drop (j + 1) = lx[j + 1] :: lx.drop (j + 2) := List.drop_eq_getElem_cons hjl
            generalize lx[j] = x at q1 hd
            generalize lx[j + 1] = y at q2 hd hd2
            have hb3 := HB2.out.chg hc.out (by simp)
            have c1 : wr.cell? ⟨g, j, none⟩ = some (.int .u8 x) := by rw [hb3.cell, q1]
            have c2 : wr.cell? ⟨g, j + 1, none⟩ = some (.int .u8 y) := by rw [hb3.cell, q2]
            have HX : Hid (least D (lx.drop (j + 1)) (min m (D x y)) = N) := by
              have := hm.out
              rw [hd, least] at this
              rw [hd2]; exact this
            have CAPM : Hid (∀ (p q : Int) (a b : Nat), p = a → q = b → Calls Try.prog 20 #[.pointer (some ⟨cb, 0, none⟩), .int .u8 p, .int .u8 q] wr.drew fun e w' => e = .returned (.int .i64 (D a b)) ∧ wr.drew = w') :=
              fun p q a b hp hq => rcap (HG2.out.m.chg0 hc.out.drew) hp hq
            have hk2 : (0 : Int) ≤ (j : Int) := by omega
            have hk3 : (j : Int) < (lx.length : Int) := by omega
            have hk4 : (0 : Int) ≤ (j : Int) + 1 := by omega
            have hk5 : (j : Int) + 1 < (lx.length : Int) := by omega
            clear q1 q2 hd hd2 hb3
            go_wp2
            refine wp_region_held_drew (S := (fun w' : World => w'.cell? ⟨g, j, none⟩ = some (.int .u8 x) ∧ w'.cell? ⟨g, j + 1, none⟩ = some (.int .u8 y))) (by kernel_rfl) ?_ (fun hHeld => ?_)
            · exact ⟨c1, c2⟩
            refine wpAnyH_take (i := 0) (v := ?v3211_0_0) rfl (by kernel_rfl) (by kernel_rfl) (by kernel_rfl) (fun _ _ _ h => h) (Or.inl ⟨by rfl, ?hy3211_0_0⟩) (by assumption) ?_
            case hy3211_0_0 => (intro w hSw; (try dsimp only at hSw); go_simp; try (with_reducible rfl))
            (try simp only [Act.put, List.getElem_toArray, List.getElem_cons_zero, List.setIfInBounds_toArray, List.set_cons_zero, List.set_cons_succ])
            refine wpAnyH_take (i := 1) (v := ?v3211_0_1) rfl (by kernel_rfl) (by kernel_rfl) (by kernel_rfl) (fun _ _ _ h => h) (Or.inl ⟨by rfl, ?hy3211_0_1⟩) (by assumption) ?_
            case hy3211_0_1 => (intro w hSw; (try dsimp only at hSw); go_simp; try (with_reducible rfl))
            (try simp only [Act.put, List.getElem_toArray, List.getElem_cons_zero, List.getElem_cons_succ, List.setIfInBounds_toArray, List.set_cons_zero, List.set_cons_succ])
            refine wpAnyH_take (i := 2) (v := ?v3211_0_2) rfl (by kernel_rfl) (by kernel_rfl) (by kernel_rfl) (fun _ _ _ h => h) (Or.inl ⟨by rfl, ?hy3211_0_2⟩) (by assumption) ?_
            case hy3211_0_2 => (intro w hSw; (try dsimp only at hSw); go_simp; try (with_reducible rfl))
            (try simp only [Act.put, List.getElem_toArray, List.getElem_cons_zero, List.getElem_cons_succ, List.setIfInBounds_toArray, List.set_cons_zero, List.set_cons_succ])
            refine wpAnyH_take (i := 3) (v := ?v3211_0_3) rfl (by kernel_rfl) (by kernel_rfl) (by kernel_rfl) (fun _ _ _ h => h) (Or.inl ⟨by rfl, ?hy3211_0_3⟩) (by assumption) ?_
            case hy3211_0_3 => (intro w hSw; (try dsimp only at hSw); go_simp; try (with_reducible rfl))
            (try simp only [Act.put, List.getElem_toArray, List.getElem_cons_zero, List.getElem_cons_succ, List.setIfInBounds_toArray, List.set_cons_zero, List.set_cons_succ])
            refine wpAnyH_take (i := 4) (v := ?v3211_0_4) rfl (by kernel_rfl) (by kernel_rfl) (by kernel_rfl) (fun _ _ _ h => h) (Or.inl ⟨by rfl, ?hy3211_0_4⟩) (by assumption) ?_
            case hy3211_0_4 => (intro w hSw; (try dsimp only at hSw); go_simp; try (with_reducible rfl))
            (try simp only [Act.put, List.getElem_toArray, List.getElem_cons_zero, List.getElem_cons_succ, List.setIfInBounds_toArray, List.set_cons_zero, List.set_cons_succ])
            refine wpAnyH_take (i := 5) (v := ?v3211_0_5) rfl (by kernel_rfl) (by kernel_rfl) (by kernel_rfl) (fun _ _ _ h => h) (Or.inl ⟨by rfl, ?hy3211_0_5⟩) (by assumption) ?_
            case hy3211_0_5 => (intro w hSw; (try dsimp only at hSw); go_simp; try (with_reducible rfl))
            (try simp only [Act.put, List.getElem_toArray, List.getElem_cons_zero, List.getElem_cons_succ, List.setIfInBounds_toArray, List.set_cons_zero, List.set_cons_succ])
            refine wpAnyH_take (i := 6) (v := ?v3211_0_6) rfl (by kernel_rfl) (by kernel_rfl) (by kernel_rfl) (fun _ _ _ h => h) (Or.inl ⟨by rfl, ?hy3211_0_6⟩) (by assumption) ?_
            case hy3211_0_6 => (intro w hSw; (try dsimp only at hSw); go_simp; try (with_reducible rfl))
            (try simp only [Act.put, List.getElem_toArray, List.getElem_cons_zero, List.getElem_cons_succ, List.setIfInBounds_toArray, List.set_cons_zero, List.set_cons_succ])
            refine wpAnyH_take (i := 7) (v := ?v3211_0_7) rfl (by kernel_rfl) (by kernel_rfl) (by kernel_rfl) (fun _ _ _ h => h) (Or.inl ⟨by rfl, ?hy3211_0_7⟩) (by assumption) ?_
            case hy3211_0_7 => (intro w hSw; (try dsimp only at hSw); go_simp; try (with_reducible rfl))
            (try simp only [Act.put, List.getElem_toArray, List.getElem_cons_zero, List.getElem_cons_succ, List.setIfInBounds_toArray, List.set_cons_zero, List.set_cons_succ])
            refine wpAnyH_take (i := 8) (v := ?v3211_0_8) rfl (by kernel_rfl) (by kernel_rfl) (by kernel_rfl) (fun _ _ _ h => h) (Or.inl ⟨by rfl, ?hy3211_0_8⟩) (by assumption) ?_
            case hy3211_0_8 => (intro w hSw; (try dsimp only at hSw); go_simp; try (with_reducible rfl))
            (try simp only [Act.put, List.getElem_toArray, List.getElem_cons_zero, List.getElem_cons_succ, List.setIfInBounds_toArray, List.set_cons_zero, List.set_cons_succ])
            refine wpAnyH_take (i := 9) (v := ?v3211_0_9) rfl (by kernel_rfl) (by kernel_rfl) (by kernel_rfl) (fun _ _ _ h => h) (Or.inl ⟨by rfl, ?hy3211_0_9⟩) (by assumption) ?_
            case hy3211_0_9 => (intro w hSw; (try dsimp only at hSw); go_simp; try (with_reducible rfl))
            (try simp only [Act.put, List.getElem_toArray, List.getElem_cons_zero, List.getElem_cons_succ, List.setIfInBounds_toArray, List.set_cons_zero, List.set_cons_succ])
            refine wpAnyH_take (i := 10) (v := ?v3211_0_10) rfl (by kernel_rfl) (by kernel_rfl) (by kernel_rfl) (fun _ _ _ h => h) (Or.inl ⟨by rfl, ?hy3211_0_10⟩) (by assumption) ?_
            case hy3211_0_10 => (intro w hSw; (try dsimp only at hSw); go_simp; try (with_reducible rfl))
            (try simp only [Act.put, List.getElem_toArray, List.getElem_cons_zero, List.getElem_cons_succ, List.setIfInBounds_toArray, List.set_cons_zero, List.set_cons_succ])
            refine wpAnyH_ready (rs := [11]) (by kernel_rfl) (by simp) (AllReadyH.cons rfl (fun K hK => ?_) AllReadyH.nil)
            go_simp
            (refine (CAPM.out _ _ x y rfl rfl).mono ?_; rintro e w' ⟨rfl, rfl⟩)
            (try go_wp2_with fail)
            refine hK.out _ _ ?_ (fun hHeld => ?_)
            · exact hHeld
            clear hK K
            (try simp only [Act.put, List.getElem_toArray, List.getElem_cons_zero, List.getElem_cons_succ, List.setIfInBounds_toArray, List.set_cons_zero, List.set_cons_succ])
            refine wpAnyH_take (i := 12) (v := ?v3211_0_12) rfl (by kernel_rfl) (by kernel_rfl) (by kernel_rfl) (fun _ _ _ h => h) (Or.inl ⟨by rfl, ?hy3211_0_12⟩) (by assumption) ?_
            case hy3211_0_12 => (intro w hSw; (try dsimp only at hSw); go_simp; try (with_reducible rfl))
            (try simp only [Act.put, List.getElem_toArray, List.getElem_cons_zero, List.getElem_cons_succ, List.setIfInBounds_toArray, List.set_cons_zero, List.set_cons_succ])
            refine wpAnyH_take (i := 13) (v := ?v3211_0_13) rfl (by kernel_rfl) (by kernel_rfl) (by kernel_rfl) (fun _ _ _ h => h) (Or.inl ⟨by rfl, ?hy3211_0_13⟩) (by assumption) ?_
            case hy3211_0_13 => (intro w hSw; (try dsimp only at hSw); go_simp; try (with_reducible rfl))
            (try simp only [Act.put, List.getElem_toArray, List.getElem_cons_zero, List.getElem_cons_succ, List.setIfInBounds_toArray, List.set_cons_zero, List.set_cons_succ])
            refine wpAnyH_done (by kernel_rfl) ?_ _
            go_wp2
            all_goals
              go_roundw
              case rel =>
                have hmin : (if D x y < m then D x y else m) = min m (D x y) := by split <;> omega
                first
                  | exact ⟨j + 1, _, by omega, rfl, by go_num, by rw [hmin]; exact HX, hc.out.drew⟩
                  | exact ⟨j + 1, D x y, by omega, rfl, by go_num, by (have hx := HX.out; rwa [show min m (D x y) = D x y from by omega] at hx), hc.out.drew⟩
                  | exact ⟨j + 1, m, by omega, rfl, by go_num, by (have hx := HX.out; rwa [show min m (D x y) = m from by omega] at hx), hc.out.drew⟩
                  | exact ⟨j + 1, by omega, by omega, by (have hx := HX.out; rwa [show min m (D x y) = m from by omega] at hx), hc.out.drew⟩
                  | exact ⟨j + 1, by omega, by omega, by (have hx := HX.out; rwa [show min m (D x y) = D x y from by omega] at hx), hc.out.drew⟩
              case measure => simp [intOf]; omega
          · have hjk : j + 1 = lx.length := by omega
            have hd : lx.drop j = [lx[j]] := by rw [List.drop_eq_getElem_cons (by omega), List.drop_eq_nil_of_le (by omega)]
            obtain rfl : m = N := by have := hm.out; rw [hd] at this; simpa [least] using this
            have hge : (lx.length : Int) ≤ (j : Int) + 1 := by omega
            obtain ⟨n, hn⟩ : ∃ n, n = m := ⟨_, rfl⟩
            have e0 : along (lx.take (0 + 1)) m = [] := by
              cases lx with
              | nil => rfl
              | cons a l => rfl
            have HZ : Hid (RR7 w wr C s t want cb u11 k D ps got vm ∧ Blk wr g 33 cs) := ⟨⟨HG2.out.rs, HG2.out.m.chg0 hc.out, ownsRow_chgB HG2.out.own hc.out (by simp), HG2.out.ch.trans hc.out, HG2.out.off⟩, HB2.out.chg hc.out (by simp)⟩
            have HZ0 : Hid (IsM wr cb vm (pushAll D (along (lx.take (0 + 1)) m)) ∧ wr.ownsRow w.heap.size 35 3 u11 (ps ++ along (lx.take (0 + 1)) m).length (flsCells (ps ++ along (lx.take (0 + 1)) m)) ∧ Chg [] w wr ∧ (∀ g, vm.ownBlock = some g → u11.ownBlock ≠ some g) ∧ Blk wr g 33 cs) := by
              rw [e0, List.append_nil]
              exact ⟨HZ.out.1.m, HZ.out.1.own, HZ.out.1.ch, HZ.out.1.off, HZ.out.2⟩
            clear hd hn hm hc hj hjl hjk hs1 e0 HZ HG2 HB2
            go_wp2
            go_loopw [11, 16] (fun u i ws => ∃ (j : Nat) (vm2 : Value), j + 1 ≤ lx.length ∧ i = .int .i64 ((j : Int) + 1) ∧ Hid (IsM ws cb vm2 (pushAll D (along (lx.take (j + 1)) m)) ∧ ws.ownsRow w.heap.size 35 3 u (ps ++ along (lx.take (j + 1)) m).length (flsCells (ps ++ along (lx.take (j + 1)) m)) ∧ Chg [] w ws ∧ (∀ g, vm2.ownBlock = some g → u.ownBlock ≠ some g) ∧ Blk ws g 33 cs)) (fun _ i _ => 18 - (intOf i).toNat)
            case atStart => exact ⟨0, vm, by omega, rfl, HZ0.out⟩
            case round =>
              obtain ⟨j, vm2, hj, rfl, HI⟩ := hrel
              have hs1 : IntKind.i64.wrap (j : Int) = (j : Int) := IntWalk.i64_in _ ⟨by omega, by omega⟩
              by_cases hjl : j + 1 < lx.length
              · obtain ⟨hM, hO, hCh, hOff, hBg⟩ := HI.out
                have q1 := HCL.out j (by omega)
                have q2 := HCL.out (j + 1) hjl
                have hat := along_take lx m j hjl
                obtain ⟨ys, hys⟩ := along_split lx m j hjl
                have hval : 1 ≤ m ∧ m ≤ pushAll D (along (lx.take (j + 1)) m) lx[j] lx[j + 1] := by
                  have := HVL.out
                  rw [hys] at this
                  exact valid_at this
                have hok := HVL.out.oks ⟨lx[j], lx[j + 1], m⟩ (by rw [hys]; simp)
                clear hys
                generalize lx[j] = x at q1 hat hval hok
                generalize lx[j + 1] = y at q2 hat hval hok
                have hqs : (ps ++ along (lx.take (j + 1)) m).length ≤ 1100000 := by
                  rw [List.length_append, along_length, List.length_take]
                  omega
                have hat2 : ps ++ along (lx.take (j + 2)) m = (ps ++ along (lx.take (j + 1)) m) ++ [⟨x, y, m⟩] := by rw [hat, List.append_assoc]
                have hpu : pushAll D (along (lx.take (j + 2)) m) = push (pushAll D (along (lx.take (j + 1)) m)) x y m := by rw [hat, pushAll_append]; rfl
                have HN2 : Hid (edgesOf (push (pushAll D (along (lx.take (j + 1)) m)) x y m) ≠ []) := by
                  have h1 : 1 ≤ x ∧ x ≤ 16 := mem_P16.1 hok.1
                  have h2 : 1 ≤ y ∧ y ≤ 16 := mem_P16.1 hok.2.1
                  exact edges_push hM.good (by omega) (by omega) hok.2.2 hval.1
                have HP : Hid (Calls Try.prog 18 #[.pointer (some ⟨cb, 0, none⟩), .int .u8 x, .int .u8 y, .int .i64 m] wr.drew fun e w' => e = .returned (.int .i64 0) ∧ ∃ v', IsM w' cb v' (push (pushAll D (along (lx.take (j + 1)) m)) x y m) ∧ Chg [cb] wr.drew w' ∧ ∀ g, v'.ownBlock = some g → wr.heap.size ≤ g) :=
                  rpush_ok (hM.chg0 ((Chg.refl [] wr).drew)) hval.1 hval.2 rfl rfl
                generalize ps ++ along (lx.take (j + 1)) m = qs at *
                generalize push (pushAll D (along (lx.take (j + 1)) m)) x y m = D2 at *
                have c1 : wr.drew.cell? ⟨g, j, none⟩ = some (.int .u8 x) := by rw [hBg.drew.cell, q1]
                have c2 : wr.drew.cell? ⟨g, j + 1, none⟩ = some (.int .u8 y) := by rw [hBg.drew.cell, q2]
                have KS : Hid (∀ Z, Blk Z g 33 cs → Z.cell? ⟨g, j, none⟩ = some (.int .u8 x) ∧ Z.cell? ⟨g, j + 1, none⟩ = some (.int .u8 y)) := fun Z hZ => ⟨by rw [hZ.cell, q1], by rw [hZ.cell, q2]⟩
                have HGM : Hid (g ∉ [cb]) := by
                  have := Blk.ne hBg hM.blk (by decide)
                  show g ∉ [cb]
                  simpa using this
                have HUM := Lib.hid (ownsRow_ne hO hM.blk (by decide))
                have hbas := fun k hk => (hO.lt k hk)
                have HBS := Lib.hid hbas
                have HBg := Lib.hid hBg
                have HMO := Lib.hid (And.intro hM (And.intro hO (And.intro hCh (And.intro hat2 hpu))))
                have hwsz := hCh.size
                have hk2 : (0 : Int) ≤ (j : Int) := by omega
                have hk3 : (j : Int) < (lx.length : Int) := by omega
                have hk4 : (0 : Int) ≤ (j : Int) + 1 := by omega
                have hk5 : (j : Int) + 1 < (lx.length : Int) := by omega
                clear hM hO hCh hOff hBg q1 q2 hat hval hok hat2 hpu hbas HI
                go_wp2
                refine wp_region_held_drew (S := (fun w' : World => w'.cell? ⟨g, j, none⟩ = some (.int .u8 x) ∧ w'.cell? ⟨g, j + 1, none⟩ = some (.int .u8 y))) (by kernel_rfl) ?_ (fun hHeld => ?_)
                · exact ⟨c1, c2⟩
                refine wpAnyH_take (i := 0) (v := ?v3215_0_0) rfl (by kernel_rfl) (by kernel_rfl) (by kernel_rfl) (fun _ _ _ h => h) (Or.inl ⟨by rfl, ?hy3215_0_0⟩) (by assumption) ?_
                case hy3215_0_0 => (intro w hSw; (try dsimp only at hSw); go_simp; try (with_reducible rfl))
                (try simp only [Act.put, List.getElem_toArray, List.getElem_cons_zero, List.setIfInBounds_toArray, List.set_cons_zero, List.set_cons_succ])
                refine wpAnyH_take (i := 1) (v := ?v3215_0_1) rfl (by kernel_rfl) (by kernel_rfl) (by kernel_rfl) (fun _ _ _ h => h) (Or.inl ⟨by rfl, ?hy3215_0_1⟩) (by assumption) ?_
                case hy3215_0_1 => (intro w hSw; (try dsimp only at hSw); go_simp; try (with_reducible rfl))
                (try simp only [Act.put, List.getElem_toArray, List.getElem_cons_zero, List.getElem_cons_succ, List.setIfInBounds_toArray, List.set_cons_zero, List.set_cons_succ])
                refine wpAnyH_take (i := 2) (v := ?v3215_0_2) rfl (by kernel_rfl) (by kernel_rfl) (by kernel_rfl) (fun _ _ _ h => h) (Or.inl ⟨by rfl, ?hy3215_0_2⟩) (by assumption) ?_
                case hy3215_0_2 => (intro w hSw; (try dsimp only at hSw); go_simp; try (with_reducible rfl))
                (try simp only [Act.put, List.getElem_toArray, List.getElem_cons_zero, List.getElem_cons_succ, List.setIfInBounds_toArray, List.set_cons_zero, List.set_cons_succ])
                refine wpAnyH_take (i := 3) (v := ?v3215_0_3) rfl (by kernel_rfl) (by kernel_rfl) (by kernel_rfl) (fun _ _ _ h => h) (Or.inl ⟨by rfl, ?hy3215_0_3⟩) (by assumption) ?_
                case hy3215_0_3 => (intro w hSw; (try dsimp only at hSw); go_simp; try (with_reducible rfl))
                (try simp only [Act.put, List.getElem_toArray, List.getElem_cons_zero, List.getElem_cons_succ, List.setIfInBounds_toArray, List.set_cons_zero, List.set_cons_succ])
                refine wpAnyH_take (i := 4) (v := ?v3215_0_4) rfl (by kernel_rfl) (by kernel_rfl) (by kernel_rfl) (fun _ _ _ h => h) (Or.inl ⟨by rfl, ?hy3215_0_4⟩) (by assumption) ?_
                case hy3215_0_4 => (intro w hSw; (try dsimp only at hSw); go_simp; try (with_reducible rfl))
                (try simp only [Act.put, List.getElem_toArray, List.getElem_cons_zero, List.getElem_cons_succ, List.setIfInBounds_toArray, List.set_cons_zero, List.set_cons_succ])
                refine wpAnyH_take (i := 5) (v := ?v3215_0_5) rfl (by kernel_rfl) (by kernel_rfl) (by kernel_rfl) (fun _ _ _ h => h) (Or.inl ⟨by rfl, ?hy3215_0_5⟩) (by assumption) ?_
                case hy3215_0_5 => (intro w hSw; (try dsimp only at hSw); go_simp; try (with_reducible rfl))
                (try simp only [Act.put, List.getElem_toArray, List.getElem_cons_zero, List.getElem_cons_succ, List.setIfInBounds_toArray, List.set_cons_zero, List.set_cons_succ])
                refine wpAnyH_take (i := 6) (v := ?v3215_0_6) rfl (by kernel_rfl) (by kernel_rfl) (by kernel_rfl) (fun _ _ _ h => h) (Or.inl ⟨by rfl, ?hy3215_0_6⟩) (by assumption) ?_
                case hy3215_0_6 => (intro w hSw; (try dsimp only at hSw); go_simp; try (with_reducible rfl))
                (try simp only [Act.put, List.getElem_toArray, List.getElem_cons_zero, List.getElem_cons_succ, List.setIfInBounds_toArray, List.set_cons_zero, List.set_cons_succ])
                refine wpAnyH_take (i := 7) (v := ?v3215_0_7) rfl (by kernel_rfl) (by kernel_rfl) (by kernel_rfl) (fun _ _ _ h => h) (Or.inl ⟨by rfl, ?hy3215_0_7⟩) (by assumption) ?_
                case hy3215_0_7 => (intro w hSw; (try dsimp only at hSw); go_simp; try (with_reducible rfl))
                (try simp only [Act.put, List.getElem_toArray, List.getElem_cons_zero, List.getElem_cons_succ, List.setIfInBounds_toArray, List.set_cons_zero, List.set_cons_succ])
                refine wpAnyH_take (i := 8) (v := ?v3215_0_8) rfl (by kernel_rfl) (by kernel_rfl) (by kernel_rfl) (fun _ _ _ h => h) (Or.inl ⟨by rfl, ?hy3215_0_8⟩) (by assumption) ?_
                case hy3215_0_8 => (intro w hSw; (try dsimp only at hSw); go_simp; try (with_reducible rfl))
                (try simp only [Act.put, List.getElem_toArray, List.getElem_cons_zero, List.getElem_cons_succ, List.setIfInBounds_toArray, List.set_cons_zero, List.set_cons_succ])
                refine wpAnyH_take (i := 9) (v := ?v3215_0_9) rfl (by kernel_rfl) (by kernel_rfl) (by kernel_rfl) (fun _ _ _ h => h) (Or.inl ⟨by rfl, ?hy3215_0_9⟩) (by assumption) ?_
                case hy3215_0_9 => (intro w hSw; (try dsimp only at hSw); go_simp; try (with_reducible rfl))
                (try simp only [Act.put, List.getElem_toArray, List.getElem_cons_zero, List.getElem_cons_succ, List.setIfInBounds_toArray, List.set_cons_zero, List.set_cons_succ])
                refine wpAnyH_take (i := 10) (v := ?v3215_0_10) rfl (by kernel_rfl) (by kernel_rfl) (by kernel_rfl) (fun _ _ _ h => h) (Or.inl ⟨by rfl, ?hy3215_0_10⟩) (by assumption) ?_
                case hy3215_0_10 => (intro w hSw; (try dsimp only at hSw); go_simp; try (with_reducible rfl))
                (try simp only [Act.put, List.getElem_toArray, List.getElem_cons_zero, List.getElem_cons_succ, List.setIfInBounds_toArray, List.set_cons_zero, List.set_cons_succ])
                refine wpAnyH_ready (rs := [11]) (by kernel_rfl) (by simp) (AllReadyH.cons rfl (fun K hK => ?_) AllReadyH.nil)
                go_simp
                (refine (HP.out).mono ?_; rintro e Y2 ⟨rfl, v2, hg2, hc2, hf2⟩; have KP := Lib.hid (And.intro hg2 (And.intro hc2 hf2)); clear hg2 hc2 hf2)
                (try go_wp2_with fail)
                refine hK.out _ _ ?_ (fun hHeld => ?_)
                · exact KS.out _ ((HBg.out.drew).chg KP.out.2.1 HGM.out)
                clear hK K
                (try simp only [Act.put, List.getElem_toArray, List.getElem_cons_zero, List.getElem_cons_succ, List.setIfInBounds_toArray, List.set_cons_zero, List.set_cons_succ])
                refine wpAnyH_done (by kernel_rfl) ?_ _
                go_wp2
                have HBY := Lib.hid (HBg.out.drew.chg KP.out.2.1 HGM.out)
                have HO : Hid (Y2.drew.ownsRow w.heap.size 35 3 u11 qs.length (flsCells qs) ∧ True) := ⟨ownsRow_chg HMO.out.2.1 (((Chg.refl [cb] wr).drew).trans KP.out.2.1).drew HUM.out, trivial⟩
                have hwsz2 : w.heap.size ≤ Y2.heap.size := by have := KP.out.2.1.size; simp at this; omega
                refine wp_region_held_drew (S := (fun w' : World => w'.cell? ⟨g, j, none⟩ = some (.int .u8 x) ∧ w'.cell? ⟨g, j + 1, none⟩ = some (.int .u8 y))) (by kernel_rfl) ?_ (fun hHeld => ?_)
                · exact KS.out _ HBY.out.drew
                refine wpAnyH_take (i := 0) (v := ?v3216_0_0) rfl (by kernel_rfl) (by kernel_rfl) (by kernel_rfl) (fun _ _ _ h => h) (Or.inl ⟨by rfl, ?hy3216_0_0⟩) (by assumption) ?_
                case hy3216_0_0 => (intro w hSw; (try dsimp only at hSw); go_simp; try (with_reducible rfl))
                (try simp only [Act.put, List.getElem_toArray, List.getElem_cons_zero, List.setIfInBounds_toArray, List.set_cons_zero, List.set_cons_succ])
                refine wpAnyH_take (i := 1) (v := ?v3216_0_1) rfl (by kernel_rfl) (by kernel_rfl) (by kernel_rfl) (fun _ _ _ h => h) (Or.inl ⟨by rfl, ?hy3216_0_1⟩) (by assumption) ?_
                case hy3216_0_1 => (intro w hSw; (try dsimp only at hSw); go_simp; try (with_reducible rfl))
                (try simp only [Act.put, List.getElem_toArray, List.getElem_cons_zero, List.getElem_cons_succ, List.setIfInBounds_toArray, List.set_cons_zero, List.set_cons_succ])
                refine wpAnyH_take (i := 2) (v := ?v3216_0_2) rfl (by kernel_rfl) (by kernel_rfl) (by kernel_rfl) (fun _ _ _ h => h) (Or.inl ⟨by rfl, ?hy3216_0_2⟩) (by assumption) ?_
                case hy3216_0_2 => (intro w hSw; (try dsimp only at hSw); go_simp; try (with_reducible rfl))
                (try simp only [Act.put, List.getElem_toArray, List.getElem_cons_zero, List.getElem_cons_succ, List.setIfInBounds_toArray, List.set_cons_zero, List.set_cons_succ])
                refine wpAnyH_take (i := 3) (v := ?v3216_0_3) rfl (by kernel_rfl) (by kernel_rfl) (by kernel_rfl) (fun _ _ _ h => h) (Or.inl ⟨by rfl, ?hy3216_0_3⟩) (by assumption) ?_
                case hy3216_0_3 => (intro w hSw; (try dsimp only at hSw); go_simp; try (with_reducible rfl))
                (try simp only [Act.put, List.getElem_toArray, List.getElem_cons_zero, List.getElem_cons_succ, List.setIfInBounds_toArray, List.set_cons_zero, List.set_cons_succ])
                refine wpAnyH_take (i := 4) (v := ?v3216_0_4) rfl (by kernel_rfl) (by kernel_rfl) (by kernel_rfl) (fun _ _ _ h => h) (Or.inl ⟨by rfl, ?hy3216_0_4⟩) (by assumption) ?_
                case hy3216_0_4 => (intro w hSw; (try dsimp only at hSw); go_simp; try (with_reducible rfl))
                (try simp only [Act.put, List.getElem_toArray, List.getElem_cons_zero, List.getElem_cons_succ, List.setIfInBounds_toArray, List.set_cons_zero, List.set_cons_succ])
                refine wpAnyH_take (i := 5) (v := ?v3216_0_5) rfl (by kernel_rfl) (by kernel_rfl) (by kernel_rfl) (fun _ _ _ h => h) (Or.inl ⟨by rfl, ?hy3216_0_5⟩) (by assumption) ?_
                case hy3216_0_5 => (intro w hSw; (try dsimp only at hSw); go_simp; try (with_reducible rfl))
                (try simp only [Act.put, List.getElem_toArray, List.getElem_cons_zero, List.getElem_cons_succ, List.setIfInBounds_toArray, List.set_cons_zero, List.set_cons_succ])
                refine wpAnyH_take (i := 6) (v := ?v3216_0_6) rfl (by kernel_rfl) (by kernel_rfl) (by kernel_rfl) (fun _ _ _ h => h) (Or.inl ⟨by rfl, ?hy3216_0_6⟩) (by assumption) ?_
                case hy3216_0_6 => (intro w hSw; (try dsimp only at hSw); go_simp; try (with_reducible rfl))
                (try simp only [Act.put, List.getElem_toArray, List.getElem_cons_zero, List.getElem_cons_succ, List.setIfInBounds_toArray, List.set_cons_zero, List.set_cons_succ])
                refine wpAnyH_take (i := 7) (v := ?v3216_0_7) rfl (by kernel_rfl) (by kernel_rfl) (by kernel_rfl) (fun _ _ _ h => h) (Or.inl ⟨by rfl, ?hy3216_0_7⟩) (by assumption) ?_
                case hy3216_0_7 => (intro w hSw; (try dsimp only at hSw); go_simp; try (with_reducible rfl))
                (try simp only [Act.put, List.getElem_toArray, List.getElem_cons_zero, List.getElem_cons_succ, List.setIfInBounds_toArray, List.set_cons_zero, List.set_cons_succ])
                refine wpAnyH_take (i := 8) (v := ?v3216_0_8) rfl (by kernel_rfl) (by kernel_rfl) (by kernel_rfl) (fun _ _ _ h => h) (Or.inl ⟨by rfl, ?hy3216_0_8⟩) (by assumption) ?_
                case hy3216_0_8 => (intro w hSw; (try dsimp only at hSw); go_simp; try (with_reducible rfl))
                (try simp only [Act.put, List.getElem_toArray, List.getElem_cons_zero, List.getElem_cons_succ, List.setIfInBounds_toArray, List.set_cons_zero, List.set_cons_succ])
                refine wpAnyH_take (i := 9) (v := ?v3216_0_9) rfl (by kernel_rfl) (by kernel_rfl) (by kernel_rfl) (fun _ _ _ h => h) (Or.inl ⟨by rfl, ?hy3216_0_9⟩) (by assumption) ?_
                case hy3216_0_9 => (intro w hSw; (try dsimp only at hSw); go_simp; try (with_reducible rfl))
                (try simp only [Act.put, List.getElem_toArray, List.getElem_cons_zero, List.getElem_cons_succ, List.setIfInBounds_toArray, List.set_cons_zero, List.set_cons_succ])
                refine wpAnyH_take (i := 10) (v := ?v3216_0_10) rfl (by kernel_rfl) (by kernel_rfl) (by kernel_rfl) (fun _ _ _ h => h) (Or.inl ⟨by rfl, ?hy3216_0_10⟩) (by assumption) ?_
                case hy3216_0_10 => (intro w hSw; (try dsimp only at hSw); go_simp; try (with_reducible rfl))
                (try simp only [Act.put, List.getElem_toArray, List.getElem_cons_zero, List.getElem_cons_succ, List.setIfInBounds_toArray, List.set_cons_zero, List.set_cons_succ])
                refine wpAnyH_take (i := 11) (v := ?v3216_0_11) rfl (by kernel_rfl) (by kernel_rfl) (by kernel_rfl) (fun _ _ _ h => h) (Or.inl ⟨by rfl, ?hy3216_0_11⟩) (by assumption) ?_
                case hy3216_0_11 => (intro w hSw; (try dsimp only at hSw); go_simp; try (with_reducible rfl))
                (try simp only [Act.put, List.getElem_toArray, List.getElem_cons_zero, List.getElem_cons_succ, List.setIfInBounds_toArray, List.set_cons_zero, List.set_cons_succ])
                refine wpAnyH_ready (rs := [12]) (by kernel_rfl) (by simp) (AllReadyH.cons rfl (fun K hK => ?_) AllReadyH.nil)
                go_simp
                refine hK.out _ _ ?_ (fun hHeld => ?_)
                · exact KS.out _ (HBY.out.drew.alloc _)
                clear hK K
                (try simp only [Act.put, List.getElem_toArray, List.getElem_cons_zero, List.getElem_cons_succ, List.setIfInBounds_toArray, List.set_cons_zero, List.set_cons_succ])
                refine wpAnyH_ready (rs := [13]) (by kernel_rfl) (by simp) (AllReadyH.cons rfl (fun K hK => ?_) AllReadyH.nil)
                (refine step_append_lies _ (by rfl) _ _ _ (by rfl) w.heap.size 35 i0 _ 3 16 Try.underlying22 II.out.1 II.out.2.1 II.out.2.2.1 II.out.2.2.2 rfl (by decide) u11 qs.length _ (by rfl) (HO.out.1.alloc _) ⟨Y2.heap.size, 0, none⟩ 1 1 (flCells ⟨x, y, m⟩) (by rfl) rfl (cells_new Y2.drew (flCells ⟨x, y, m⟩) _) (flCells_one _) (by decide) (le_maxLen (by omega)) (by omega) (by simp; omega) (Y2.heap.size + 1) (by simp) ?_)
                intro g2 cap2 W2 hown2 hgrow hor hlt2
                have HF := Lib.hid (And.intro hown2 (And.intro hgrow (And.intro hor hlt2)))
                clear hown2 hgrow hor hlt2
                refine hK.out _ _ ?_ (fun hHeld => ?_)
                · exact KS.out _ ((HBY.out.drew.alloc _).grownRow (HO.out.1.alloc _) HF.out.2.1 (by decide))
                clear hK K
                (try simp only [Act.put, List.getElem_toArray, List.getElem_cons_zero, List.getElem_cons_succ, List.setIfInBounds_toArray, List.set_cons_zero, List.set_cons_succ])
                refine wpAnyH_take (i := 14) (v := ?v3216_0_14) rfl (by kernel_rfl) (by kernel_rfl) (by kernel_rfl) (fun _ _ _ h => h) (Or.inl ⟨by rfl, ?hy3216_0_14⟩) (by assumption) ?_
                case hy3216_0_14 => (intro w hSw; (try dsimp only at hSw); go_simp; try (with_reducible rfl))
                (try simp only [Act.put, List.getElem_toArray, List.getElem_cons_zero, List.getElem_cons_succ, List.setIfInBounds_toArray, List.set_cons_zero, List.set_cons_succ])
                refine wpAnyH_done (by kernel_rfl) ?_ _
                go_wp2
                have HFIN : Hid (IsM W2 cb v2 (pushAll D (along (lx.take (j + 2)) m)) ∧ W2.ownsRow w.heap.size 35 3 (.slice (some ⟨g2, 0, none⟩) (qs.length + 1) cap2) (ps ++ along (lx.take (j + 2)) m).length (flsCells (ps ++ along (lx.take (j + 2)) m)) ∧ Chg [] w W2 ∧ (∀ g, v2.ownBlock = some g → (Value.slice (some ⟨g2, 0, none⟩) (qs.length + 1) cap2).ownBlock ≠ some g) ∧ Blk W2 g 33 cs) := by
                  have hch3 : Chg u11.ownBlock.toList Y2 W2 := (((Chg.refl _ Y2).drew).alloc (.cells #[.int .u8 x, .int .u8 y, .int .i64 m] 35)).grown HF.out.2.1 (fun k hk => .inl (by simp [hk]))
                  have hv2 := KP.out.1.lt HN2.out
                  refine ⟨?_, ?_, ?_, ?_, (HBY.out.drew.alloc _).grownRow (HO.out.1.alloc _) HF.out.2.1 (by decide)⟩
                  · rw [HMO.out.2.2.2.2]
                    refine KP.out.1.chg hch3 (fun hm => ?_) (fun g' hg' hm => ?_)
                    · simp at hm
                      exact HUM.out cb hm (by simp)
                    · simp at hm
                      have h1 := (HBS.out g' hm).2
                      have h2 := KP.out.2.2 g' hg'
                      omega
                  · rw [HMO.out.2.2.2.1, List.length_append, flsCells_append]
                    exact HF.out.1
                  · have h1 : Chg [] w Y2 := (HMO.out.2.2.1.drew).fresh KP.out.2.1 (by simp; omega)
                    refine h1.fresh hch3 (fun k hk => .inr ?_)
                    simp at hk
                    exact (HBS.out k hk).1
                  · intro g' hg' he
                    have e1 : g2 = g' := by simpa [Value.ownBlock] using he
                    subst e1
                    rcases HF.out.2.2.1 with h | h
                    · have h1 := (HBS.out g2 h).2
                      have h2 := KP.out.2.2 g2 hg'
                      omega
                    · have := hv2 g2 hg'
                      omega
                go_roundw
                case rel =>
                  first
                    | exact ⟨j + 1, v2, by omega, by go_num, HFIN.out⟩
                    | ((repeat apply Exists.intro); exact ⟨⟨j + 1, v2, by omega, by go_num, HFIN.out⟩, rfl⟩)
                case measure => simp [intOf]; omega
              · have hjk : j + 1 = lx.length := by omega
                have hge : (lx.length : Int) ≤ (j : Int) + 1 := by omega
                have htk : lx.take (j + 1) = lx := by rw [hjk]; exact List.take_of_length_le (Nat.le_refl _)
                have hI := HI.out
                rw [htk] at hI
                have HFIN : Hid (RR7 w wr C s t want cb u11 (k + 1) (pushAll D (along lx m)) (ps ++ along lx m) (got + m) vm2) := ⟨HST.out, hI.1, hI.2.1, hI.2.2.1, hI.2.2.2.1⟩
                clear HI hI htk hjk hjl hj hs1 HZ0
                go_wp2
                go_roundg (gk - 1)
                case measure => omega
                case rel =>
                  first
                    | exact ⟨k + 1, _, _, got + m, vm2, by rw [show want - (got + m) = want - got - m from by omega], HFIN, by omega⟩
                    | ((repeat apply Exists.intro); exact ⟨⟨k + 1, _, _, got + m, vm2, by rw [show want - (got + m) = want - got - m from by omega], HFIN, by omega⟩, rfl⟩)
    · have hgw : got = want := by omega
      subst hgw
      have hr := HK.out.rs.full
      have RQ : Hid (RouteR C s t got w (.returned (.tuple #[u11, .int .i64 got])) wr) := ⟨u11, by rw [hr], by rw [hr]; exact HK.out.own, HK.out.ch⟩
      have e0 : got - got = 0 := by omega
      rw [e0]
      clear hr hlt HK e0
      go_wp2
      go_ret2
      exact RQ.out

theorem rroute {w : World} {mb : Nat} {v : Value} {C : Caps} (h : IsM w mb v C) (s t : Nat) {want : Int} (hlo : -9223372036854775808 ≤ want) (hhi : want ≤ 9223372036854775807) :
    Calls Try.prog 32 #[.pointer (some ⟨mb, 0, none⟩), .int .u8 s, .int .u8 t, .int .i64 want] w (RouteR C s t want w) := by
  by_cases hw : 0 < want
  · exact rroute_pos h hw hhi
  · exact rroute_low h (by omega) hlo

theorem most_62 {C : Caps} (hC : CapOk 4398046511104 C) (s t : Nat) : (route s t (4611686018427387904 : Int).toNat C 4611686018427387904).2.1 = mostF C s t := by
  unfold mostF
  by_cases h : s ∈ P16 ∧ t ∈ P16 ∧ s ≠ t
  · obtain ⟨_, a2, a3⟩ := most_facts (B := 4398046511104) (by decide) (by decide) hC h.1 h.2.1 h.2.2 (k := 9223372036854775807) (w := 9223372036854775807) (by omega) (by omega)
    obtain ⟨_, b2, b3⟩ := most_facts (B := 4398046511104) (by decide) (by decide) hC h.1 h.2.1 h.2.2 (k := (4611686018427387904 : Int).toNat) (w := 4611686018427387904) (by omega) (by omega)
    exact most_unique b2 b3 a2 a3
  · have h0 : short C s t = [] := short_off (by
      by_cases h1 : s ∈ P16
      · by_cases h2 : t ∈ P16
        · exact .inr (.inr (Classical.byContradiction fun h3 => h ⟨h1, h2, h3⟩))
        · exact .inr (.inl h2)
      · exact .inl h1)
    rw [route_none _ _ _ _ h0, route_none _ _ _ _ h0]
theorem rmost {w : World} {mb : Nat} {v : Value} {C : Caps} (h : IsM w mb v C) (s t : Nat) :
    Calls Try.prog 33 #[.pointer (some ⟨mb, 0, none⟩), .int .u8 s, .int .u8 t] w fun e w' => e = .returned (.int .i64 (mostF C s t)) ∧ Chg [] w w' := by
  have HR := Lib.hid (rroute h s t (want := 4611686018427387904) (by omega) (by omega))
  have HE := Lib.hid (most_62 h.good s t)
  clear h
  go_enter Try.func33, Try.ntmps33
  go_wp2_with (go_at_call 32; refine HR.out.mono ?_; rintro e w' ⟨u, rfl, _, hc⟩; rw [HE.out]; have HC := Lib.hid hc; clear hc)
  go_ret
  exact ⟨rfl, HC.out⟩
end Go.Proofs.Ytfpdkeokdojejaa
