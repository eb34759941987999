/-
  cmp.Compare, cmp.Or; the order of a ledger's lines.
-/
import Derived.Test.YtofnaigkfhfhoaaGro
import Derived.Test.YtofnaigkfhfhoaaPlLed
import Derived.Deep.RegionHeld3
import Derived.Deep.DrawnRows
import Derived.OrdersHeld
import Derived.LoopTactic
namespace Go.Proofs.Ytofnaigkfhfhoaa
open Go.RowKit Pl
attribute [local go_sem ↓] Go.wp_at_zero Go.wp_at_succ

theorem nanParty (a : Int) (w : World) : Calls Try.prog 119 #[.int .u8 a] w fun e w' => e = .returned (.bool false) ∧ w = w' := by
  go_enter Try.func119, Try.ntmps119
  go_wp2
  go_ret
  exact ⟨rfl, rfl⟩
theorem cmpParty (a b : Nat) (w : World) : Calls Try.prog 78 #[.int .u8 a, .int .u8 b] w fun e w' => e = .returned (.int .i64 (cmpN a b)) ∧ w = w' := by
  unfold cmpN
  by_cases h1 : a < b
  · have h1' : decide (a < b) = true := decide_eq_true h1
    rw [if_pos h1]
    clear h1
    go_enter Try.func78, Try.ntmps78
    go_wp2_with (go_at_call 119; refine (nanParty _ _).mono ?_; rintro e w' ⟨rfl, rfl⟩)
    go_ret
    exact ⟨rfl, rfl⟩
  · have h1' : decide (a < b) = false := decide_eq_false h1
    rw [if_neg h1]
    clear h1
    by_cases h2 : b < a
    · have h2' : decide (b < a) = true := decide_eq_true h2
      rw [if_pos h2]
      clear h2
      go_enter Try.func78, Try.ntmps78
      go_wp2_with (go_at_call 119; refine (nanParty _ _).mono ?_; rintro e w' ⟨rfl, rfl⟩)
      go_ret
      exact ⟨rfl, rfl⟩
    · have h2' : decide (b < a) = false := decide_eq_false h2
      rw [if_neg h2]
      clear h2
      go_enter Try.func78, Try.ntmps78
      go_wp2_with (go_at_call 119; refine (nanParty _ _).mono ?_; rintro e w' ⟨rfl, rfl⟩)
      go_ret
      exact ⟨rfl, rfl⟩

theorem nanCurr (a : Int) (w : World) : Calls Try.prog 167 #[.int .u8 a] w fun e w' => e = .returned (.bool false) ∧ w = w' := by
  go_enter Try.func167, Try.ntmps167
  go_wp2
  go_ret
  exact ⟨rfl, rfl⟩
theorem cmpCurr (a b : Nat) (w : World) : Calls Try.prog 125 #[.int .u8 a, .int .u8 b] w fun e w' => e = .returned (.int .i64 (cmpN a b)) ∧ w = w' := by
  unfold cmpN
  by_cases h1 : a < b
  · have h1' : decide (a < b) = true := decide_eq_true h1
    rw [if_pos h1]
    clear h1
    go_enter Try.func125, Try.ntmps125
    go_wp2_with (go_at_call 167; refine (nanCurr _ _).mono ?_; rintro e w' ⟨rfl, rfl⟩)
    go_ret
    exact ⟨rfl, rfl⟩
  · have h1' : decide (a < b) = false := decide_eq_false h1
    rw [if_neg h1]
    clear h1
    by_cases h2 : b < a
    · have h2' : decide (b < a) = true := decide_eq_true h2
      rw [if_pos h2]
      clear h2
      go_enter Try.func125, Try.ntmps125
      go_wp2_with (go_at_call 167; refine (nanCurr _ _).mono ?_; rintro e w' ⟨rfl, rfl⟩)
      go_ret
      exact ⟨rfl, rfl⟩
    · have h2' : decide (b < a) = false := decide_eq_false h2
      rw [if_neg h2]
      clear h2
      go_enter Try.func125, Try.ntmps125
      go_wp2_with (go_at_call 167; refine (nanCurr _ _).mono ?_; rintro e w' ⟨rfl, rfl⟩)
      go_ret
      exact ⟨rfl, rfl⟩

theorem ret_i64 {a b : Int} (h : a = b) : Ending.returned (.int .i64 a) = .returned (.int .i64 b) := by rw [h]

/-- The first that is not nought. -/
def firstNZ : List Int → Int
  | [] => 0
  | x :: l => if x = 0 then firstNZ l else x
theorem firstNZ_drop {l : List Int} {k : Nat} (h : k < l.length) : firstNZ (l.drop k) = if l[k] = 0 then firstNZ (l.drop (k + 1)) else l[k] := by
  rw [List.drop_eq_getElem_cons h, firstNZ]
theorem cmpOr {w : World} {g cap : Nat} {l : List Int} (hm : l.length ≤ 1000000) (hc : ∀ k (h : k < l.length), w.cell? ⟨g, k, none⟩ = some (.int .i64 l[k])) :
    Calls Try.prog 77 #[.slice (some ⟨g, 0, none⟩) l.length cap] w fun e w' => e = .returned (.int .i64 (firstNZ l)) ∧ w = w' := by
  have HC := Lib.hid hc
  clear hc
  go_enter Try.func77, Try.ntmps77
  go_wp2
  go_loop [5, 8] (fun _ i => ∃ k : Nat, k ≤ l.length ∧ i = .int .i64 k ∧ Hid (firstNZ l = firstNZ (l.drop k))) (fun _ i => l.length - (intOf i).toNat)
  case atStart => exact ⟨0, by omega, rfl, Lib.hid rfl⟩
  case round =>
    obtain ⟨k, hk, rfl, HF⟩ := hrel
    by_cases hlt : k < l.length
    · have hcl := HC.out k hlt
      have HD := Lib.hid (firstNZ_drop hlt)
      generalize l[k] = x at hcl HD
      by_cases hx : x = 0
      · have hb : (x != 0) = false := by simp [hx]
        have HE : Hid (firstNZ l = firstNZ (l.drop (k + 1))) := Lib.hid (by rw [HF.out, HD.out, if_pos hx])
        clear HD HF
        go_wp2
        go_round
        case rel => exact ⟨k + 1, by omega, by go_num, HE⟩
        case measure => simp [intOf]; omega
      · have hb : (x != 0) = true := by simp [hx]
        have HE : Hid (firstNZ l = x) := Lib.hid (by rw [HF.out, HD.out, if_neg hx])
        clear HD HF
        go_wp2
        go_ret
        exact ⟨ret_i64 HE.out.symm, rfl⟩
    · obtain rfl : k = l.length := by omega
      have HE : Hid (firstNZ l = 0) := Lib.hid (by rw [HF.out, List.drop_length]; rfl)
      clear HF
      go_wp2
      go_ret
      exact ⟨ret_i64 HE.out.symm, rfl⟩

/-- A line's cells; lines' cells. -/
def lnCells (x : Ln) : List Value := [.int .u8 x.cr, .int .u8 x.db, .int .u8 x.cu, .int .i64 x.lim, .int .i64 x.deb]
theorem cfL_nz (x y : Ln) : firstNZ [cmpN x.cu y.cu, cmpN x.cr y.cr, cmpN x.db y.db] = cfL x y := by
  unfold firstNZ firstNZ firstNZ firstNZ cfL
  by_cases h1 : cmpN x.cu y.cu = 0
  · by_cases h2 : cmpN x.cr y.cr = 0
    · by_cases h3 : cmpN x.db y.db = 0
      · simp [h1, h2, h3]
      · simp [h1, h2, h3]
    · simp [h1, h2]
  · simp [h1]

set_option maxRecDepth 100000 in
set_option maxHeartbeats 2000000 in
theorem lorder (x y : Ln) (w : World) : Calls Try.prog 84 #[.agg (lnCells x).toArray, .agg (lnCells y).toArray] w fun e w' => e = .returned (.int .i64 (cfL x y)) ∧ Gro w w' := by
  obtain ⟨c, d, u, l, n⟩ := x
  obtain ⟨c', d', u', l', n'⟩ := y
  have HX := Blk.new w 62 #[.int .u8 c, .int .u8 d, .int .u8 u, .int .i64 l, .int .i64 n]
  have HX2 := HX.alloc (.cells #[.int .u8 c', .int .u8 d', .int .u8 u', .int .i64 l', .int .i64 n'] 62)
  have HY := Blk.new (w.alloc (.cells #[.int .u8 c, .int .u8 d, .int .u8 u, .int .i64 l, .int .i64 n] 62)) 62 #[.int .u8 c', .int .u8 d', .int .u8 u', .int .i64 l', .int .i64 n']
  have HG : Hid (Gro w ((w.alloc (.cells #[.int .u8 c, .int .u8 d, .int .u8 u, .int .i64 l, .int .i64 n] 62)).alloc (.cells #[.int .u8 c', .int .u8 d', .int .u8 u', .int .i64 l', .int .i64 n'] 62))) := Lib.hid (((Gro.refl w).alloc _).alloc _)
  have HF := Lib.hid (cfL_nz ⟨c, d, u, l, n⟩ ⟨c', d', u', l', n'⟩)
  have HS : (w.alloc (.cells #[.int .u8 c, .int .u8 d, .int .u8 u, .int .i64 l, .int .i64 n] 62)).heap.size = w.heap.size + 1 := World.size_alloc _ _
  rw [HS] at HY
  clear HX HS
  obtain ⟨xb, hxb⟩ : ∃ xb, xb = w.heap.size := ⟨_, rfl⟩
  obtain ⟨W0, hW0⟩ : ∃ W0, W0 = (w.alloc (.cells #[.int .u8 c, .int .u8 d, .int .u8 u, .int .i64 l, .int .i64 n] 62)).alloc (.cells #[.int .u8 c', .int .u8 d', .int .u8 u', .int .i64 l', .int .i64 n'] 62) := ⟨_, rfl⟩
  rw [← hW0, ← hxb] at HX2 HY
  rw [← hW0] at HG
  have KS : Hid (∀ W, Chg [] W0 W → W.cell? ⟨xb, 0, none⟩ = some (.int .u8 c) ∧ W.cell? ⟨xb, 1, none⟩ = some (.int .u8 d) ∧ W.cell? ⟨xb, 2, none⟩ = some (.int .u8 u) ∧ W.cell? ⟨xb + 1, 0, none⟩ = some (.int .u8 c') ∧ W.cell? ⟨xb + 1, 1, none⟩ = some (.int .u8 d') ∧ W.cell? ⟨xb + 1, 2, none⟩ = some (.int .u8 u')) := Lib.hid fun W k =>
    ⟨(HX2.chg k (by simp)).cell 0, (HX2.chg k (by simp)).cell 1, (HX2.chg k (by simp)).cell 2, (HY.chg k (by simp)).cell 0, (HY.chg k (by simp)).cell 1, (HY.chg k (by simp)).cell 2⟩
  clear HX2 HY
  have KO : Hid (∀ W t, Blk W W0.heap.size t #[.int .i64 (cmpN u u'), .int .i64 (cmpN c c'), .int .i64 (cmpN d d')] → Calls Try.prog 77 #[.slice (some ⟨W0.heap.size, 0, none⟩) 3 3] W fun e w' => e = .returned (.int .i64 (cfL ⟨c, d, u, l, n⟩ ⟨c', d', u', l', n'⟩)) ∧ W = w') := Lib.hid fun W t hb => by
    have := cmpOr (w := W) (g := W0.heap.size) (cap := 3) (l := [cmpN u u', cmpN c c', cmpN d d']) (by simp) (fun k hk => by
      rw [hb.cell]
      match k, hk with
      | 0, _ => rfl
      | 1, _ => rfl
      | 2, _ => rfl)
    rw [HF.out] at this
    exact this
  clear HF
  unfold lnCells
  go_enter Try.func84, Try.ntmps84
  go_wp2_with fail
  rw [← hW0, ← hxb]
  clear hW0 hxb
  refine wp_region_held_drew (S := (fun w' : World => w'.cell? ⟨xb, 0, none⟩ = some (.int .u8 c) ∧ w'.cell? ⟨xb, 1, none⟩ = some (.int .u8 d) ∧ w'.cell? ⟨xb, 2, none⟩ = some (.int .u8 u) ∧ w'.cell? ⟨xb + 1, 0, none⟩ = some (.int .u8 c') ∧ w'.cell? ⟨xb + 1, 1, none⟩ = some (.int .u8 d') ∧ w'.cell? ⟨xb + 1, 2, none⟩ = some (.int .u8 u'))) (by kernel_rfl) ?_ (fun hHeld => ?_)
  · exact KS.out _ (Chg.refl _ _).drew
  refine wpAnyH_take (i := 0) (v := ?vo1_0_0) rfl (by kernel_rfl) (by kernel_rfl) (by kernel_rfl) (fun _ _ _ h => h) (Or.inl ⟨by rfl, ?hyo1_0_0⟩) (by assumption) ?_
  case hyo1_0_0 => (intro w hSw; (try dsimp only at hSw); go_simp; try (with_reducible rfl))
  (try simp only [Act.put, List.getElem_toArray, List.getElem_cons_zero, List.setIfInBounds_toArray, List.set_cons_zero, List.set_cons_succ])
  refine wpAnyH_take (i := 1) (v := ?vo1_0_1) rfl (by kernel_rfl) (by kernel_rfl) (by kernel_rfl) (fun _ _ _ h => h) (Or.inl ⟨by rfl, ?hyo1_0_1⟩) (by assumption) ?_
  case hyo1_0_1 => (intro w hSw; (try dsimp only at hSw); go_simp; try (with_reducible rfl))
  (try simp only [Act.put, List.getElem_toArray, List.getElem_cons_zero, List.getElem_cons_succ, List.setIfInBounds_toArray, List.set_cons_zero, List.set_cons_succ])
  refine wpAnyH_take (i := 2) (v := ?vo1_0_2) rfl (by kernel_rfl) (by kernel_rfl) (by kernel_rfl) (fun _ _ _ h => h) (Or.inl ⟨by rfl, ?hyo1_0_2⟩) (by assumption) ?_
  case hyo1_0_2 => (intro w hSw; (try dsimp only at hSw); go_simp; try (with_reducible rfl))
  (try simp only [Act.put, List.getElem_toArray, List.getElem_cons_zero, List.getElem_cons_succ, List.setIfInBounds_toArray, List.set_cons_zero, List.set_cons_succ])
  refine wpAnyH_take (i := 3) (v := ?vo1_0_3) rfl (by kernel_rfl) (by kernel_rfl) (by kernel_rfl) (fun _ _ _ h => h) (Or.inl ⟨by rfl, ?hyo1_0_3⟩) (by assumption) ?_
  case hyo1_0_3 => (intro w hSw; (try dsimp only at hSw); go_simp; try (with_reducible rfl))
  (try simp only [Act.put, List.getElem_toArray, List.getElem_cons_zero, List.getElem_cons_succ, List.setIfInBounds_toArray, List.set_cons_zero, List.set_cons_succ])
  refine wpAnyH_take (i := 5) (v := ?vo1_0_5) rfl (by kernel_rfl) (by kernel_rfl) (by kernel_rfl) (fun _ _ _ h => h) (Or.inl ⟨by rfl, ?hyo1_0_5⟩) (by assumption) ?_
  case hyo1_0_5 => (intro w hSw; (try dsimp only at hSw); go_simp; try (with_reducible rfl))
  (try simp only [Act.put, List.getElem_toArray, List.getElem_cons_zero, List.getElem_cons_succ, List.setIfInBounds_toArray, List.set_cons_zero, List.set_cons_succ])
  refine wpAnyH_take (i := 6) (v := ?vo1_0_6) rfl (by kernel_rfl) (by kernel_rfl) (by kernel_rfl) (fun _ _ _ h => h) (Or.inl ⟨by rfl, ?hyo1_0_6⟩) (by assumption) ?_
  case hyo1_0_6 => (intro w hSw; (try dsimp only at hSw); go_simp; try (with_reducible rfl))
  (try simp only [Act.put, List.getElem_toArray, List.getElem_cons_zero, List.getElem_cons_succ, List.setIfInBounds_toArray, List.set_cons_zero, List.set_cons_succ])
  refine wpAnyH_take (i := 7) (v := ?vo1_0_7) rfl (by kernel_rfl) (by kernel_rfl) (by kernel_rfl) (fun _ _ _ h => h) (Or.inl ⟨by rfl, ?hyo1_0_7⟩) (by assumption) ?_
  case hyo1_0_7 => (intro w hSw; (try dsimp only at hSw); go_simp; try (with_reducible rfl))
  (try simp only [Act.put, List.getElem_toArray, List.getElem_cons_zero, List.getElem_cons_succ, List.setIfInBounds_toArray, List.set_cons_zero, List.set_cons_succ])
  refine wpAnyH_take (i := 8) (v := ?vo1_0_8) rfl (by kernel_rfl) (by kernel_rfl) (by kernel_rfl) (fun _ _ _ h => h) (Or.inl ⟨by rfl, ?hyo1_0_8⟩) (by assumption) ?_
  case hyo1_0_8 => (intro w hSw; (try dsimp only at hSw); go_simp; try (with_reducible rfl))
  (try simp only [Act.put, List.getElem_toArray, List.getElem_cons_zero, List.getElem_cons_succ, List.setIfInBounds_toArray, List.set_cons_zero, List.set_cons_succ])
  refine wpAnyH_take (i := 10) (v := ?vo1_0_10) rfl (by kernel_rfl) (by kernel_rfl) (by kernel_rfl) (fun _ _ _ h => h) (Or.inl ⟨by rfl, ?hyo1_0_10⟩) (by assumption) ?_
  case hyo1_0_10 => (intro w hSw; (try dsimp only at hSw); go_simp; try (with_reducible rfl))
  (try simp only [Act.put, List.getElem_toArray, List.getElem_cons_zero, List.getElem_cons_succ, List.setIfInBounds_toArray, List.set_cons_zero, List.set_cons_succ])
  refine wpAnyH_take (i := 11) (v := ?vo1_0_11) rfl (by kernel_rfl) (by kernel_rfl) (by kernel_rfl) (fun _ _ _ h => h) (Or.inl ⟨by rfl, ?hyo1_0_11⟩) (by assumption) ?_
  case hyo1_0_11 => (intro w hSw; (try dsimp only at hSw); go_simp; try (with_reducible rfl))
  (try simp only [Act.put, List.getElem_toArray, List.getElem_cons_zero, List.getElem_cons_succ, List.setIfInBounds_toArray, List.set_cons_zero, List.set_cons_succ])
  refine wpAnyH_take (i := 12) (v := ?vo1_0_12) rfl (by kernel_rfl) (by kernel_rfl) (by kernel_rfl) (fun _ _ _ h => h) (Or.inl ⟨by rfl, ?hyo1_0_12⟩) (by assumption) ?_
  case hyo1_0_12 => (intro w hSw; (try dsimp only at hSw); go_simp; try (with_reducible rfl))
  (try simp only [Act.put, List.getElem_toArray, List.getElem_cons_zero, List.getElem_cons_succ, List.setIfInBounds_toArray, List.set_cons_zero, List.set_cons_succ])
  refine wpAnyH_take (i := 13) (v := ?vo1_0_13) rfl (by kernel_rfl) (by kernel_rfl) (by kernel_rfl) (fun _ _ _ h => h) (Or.inl ⟨by rfl, ?hyo1_0_13⟩) (by assumption) ?_
  case hyo1_0_13 => (intro w hSw; (try dsimp only at hSw); go_simp; try (with_reducible rfl))
  (try simp only [Act.put, List.getElem_toArray, List.getElem_cons_zero, List.getElem_cons_succ, List.setIfInBounds_toArray, List.set_cons_zero, List.set_cons_succ])
  refine wpAnyH_ready (rs := [4]) (by kernel_rfl) (by simp) (AllReadyH.cons rfl (fun K hK => ?_) AllReadyH.nil)
  go_simp
  (refine (cmpCurr _ _ _).mono ?_; rintro e w' ⟨rfl, rfl⟩)
  (try go_wp2_with fail)
  refine hK.out _ _ ?_ (fun hHeld => ?_)
  · exact hHeld
  clear hK K
  (try simp only [Act.put, List.getElem_toArray, List.getElem_cons_zero, List.getElem_cons_succ, List.setIfInBounds_toArray, List.set_cons_zero, List.set_cons_succ])
  refine wpAnyH_ready (rs := [9]) (by kernel_rfl) (by simp) (AllReadyH.cons rfl (fun K hK => ?_) AllReadyH.nil)
  go_simp
  (refine (cmpParty _ _ _).mono ?_; rintro e w' ⟨rfl, rfl⟩)
  (try go_wp2_with fail)
  refine hK.out _ _ ?_ (fun hHeld => ?_)
  · exact hHeld
  clear hK K
  (try simp only [Act.put, List.getElem_toArray, List.getElem_cons_zero, List.getElem_cons_succ, List.setIfInBounds_toArray, List.set_cons_zero, List.set_cons_succ])
  refine wpAnyH_ready (rs := [14]) (by kernel_rfl) (by simp) (AllReadyH.cons rfl (fun K hK => ?_) AllReadyH.nil)
  go_simp
  (refine (cmpParty _ _ _).mono ?_; rintro e w' ⟨rfl, rfl⟩)
  (try go_wp2_with fail)
  refine hK.out _ _ ?_ (fun hHeld => ?_)
  · exact hHeld
  clear hK K
  (try simp only [Act.put, List.getElem_toArray, List.getElem_cons_zero, List.getElem_cons_succ, List.setIfInBounds_toArray, List.set_cons_zero, List.set_cons_succ])
  refine wpAnyH_ready (rs := [15]) (by kernel_rfl) (by simp) (AllReadyH.cons rfl (fun K hK => ?_) AllReadyH.nil)
  go_simp
  refine hK.out _ _ ?_ (fun hHeld => ?_)
  · exact KS.out _ ((Chg.refl _ _).drew.alloc _)
  clear hK K
  (try simp only [Act.put, List.getElem_toArray, List.getElem_cons_zero, List.getElem_cons_succ, List.setIfInBounds_toArray, List.set_cons_zero, List.set_cons_succ])
  refine wpAnyH_ready (rs := [16]) (by kernel_rfl) (by simp) (AllReadyH.cons rfl (fun K hK => ?_) AllReadyH.nil)
  go_simp
  (refine (KO.out _ _ (Blk.new _ _ _).drew).mono ?_; rintro e w' ⟨rfl, rfl⟩)
  (try go_wp2_with fail)
  refine hK.out _ _ ?_ (fun hHeld => ?_)
  · exact KS.out _ ((Chg.refl _ _).drew.alloc _)
  clear hK K
  (try simp only [Act.put, List.getElem_toArray, List.getElem_cons_zero, List.getElem_cons_succ, List.setIfInBounds_toArray, List.set_cons_zero, List.set_cons_succ])
  refine wpAnyH_take (i := 17) (v := ?vo1_0_17) rfl (by kernel_rfl) (by kernel_rfl) (by kernel_rfl) (fun _ _ _ h => h) (Or.inl ⟨by rfl, ?hyo1_0_17⟩) (by assumption) ?_
  case hyo1_0_17 => (intro w hSw; (try dsimp only at hSw); go_simp; try (with_reducible rfl))
  (try simp only [Act.put, List.getElem_toArray, List.getElem_cons_zero, List.getElem_cons_succ, List.setIfInBounds_toArray, List.set_cons_zero, List.set_cons_succ])
  refine wpAnyH_done (by kernel_rfl) ?_ _
  go_wp2
  go_ret
  exact ⟨rfl, (HG.out.alloc _).drew⟩
end Go.Proofs.Ytofnaigkfhfhoaa
