/-
  The package flows: least (how much a way bears).
-/
import Derived.Test.YtofnaigkfhfhoaaShort
namespace Go.Proofs.Ytofnaigkfhfhoaa
open Go.RowKit Pl
attribute [local go_sem ↓] Go.wp_at_zero Go.wp_at_succ

set_option maxRecDepth 100000 in
set_option maxHeartbeats 1000000 in
theorem fleast {w : World} {v : Value} {C : Caps} {g cap : Nat} {l : List Nat} {want : Int} (hv : CapV w v C) (hc : ∀ k (h : k < l.length), w.cell? ⟨g, k, none⟩ = some (.int .u8 l[k])) (hl : 1 ≤ l.length) (hm : l.length ≤ 1000) :
    Calls Try.prog 113 #[v, .slice (some ⟨g, 0, none⟩) l.length cap, .int .i64 want] w fun e w' => e = .returned (.int .i64 (least C l want)) ∧ Chg [] w w' := by
  have CAP : Hid (∀ W, Chg [] w W → ∀ (p q : Int) (a b : Nat), p = a → q = b → Calls Try.prog 107 #[v, .int .u8 p, .int .u8 q] W fun e w' => e = .returned (.int .i64 (C a b)) ∧ W = w') := fun W hW p q a b hp hq => gcapV (hv.chg0 hW) hp hq
  have HCL := Lib.hid hc
  have hsub : (l.length : Int) - 1 ≤ 1000 := by omega
  generalize hR : least C l want = R
  have HR : Hid (least C (l.drop 0) want = R) := hR
  clear hv hc hR
  go_enter Try.func113, Try.ntmps113
  go_wp2
  go_loopw [2, 11] (fun a i ws => ∃ (k : Nat) (x : Int), k + 1 ≤ l.length ∧ a = .int .i64 x ∧ i = .int .i64 k ∧ Hid (least C (l.drop k) x = R) ∧ Chg [] w ws) (fun _ i _ => l.length - (intOf i).toNat)
  case atStart => exact ⟨0, want, by omega, rfl, rfl, HR, Chg.refl _ _⟩
  case round =>
    obtain ⟨k, m, hk, rfl, rfl, hx, hchg⟩ := hrel
    clear HR
    by_cases hlt : k + 1 < l.length
    · have q1 := HCL.out k (by omega)
      have q2 := HCL.out (k + 1) hlt
      have hd : l.drop k = l[k] :: l[k + 1] :: l.drop (k + 2) := by
        rw [List.drop_eq_getElem_cons (by omega), List.drop_eq_getElem_cons hlt]
      have hd2 : l.drop (k + 1) = l[k + 1] :: l.drop (k + 2) := List.drop_eq_getElem_cons hlt
      generalize l[k] = x at q1 hd
      generalize l[k + 1] = y at q2 hd hd2
      have hgl := block_lt_of_cell q1
      have c1 := (hchg.cell (p := ⟨g, k, none⟩) hgl (by simp)).trans q1
      have c2 := (hchg.cell (p := ⟨g, k + 1, none⟩) hgl (by simp)).trans q2
      have HX : Hid (least C (l.drop (k + 1)) (min m (C x y)) = R) := by
        have := hx.out
        rw [hd, least] at this
        rw [hd2]; exact this
      have HC := Lib.hid hchg
      have hk1 : (k : Int) < (l.length : Int) - 1 := by omega
      have hk2 : (0 : Int) ≤ (k : Int) + 1 := by omega
      have hk3 : (k : Int) + 1 < (l.length : Int) := by omega
      have hk4 : (k : Int) < (l.length : Int) := by omega
      have hk5 : (0 : Int) ≤ (k : Int) := by omega
      have hwr : IntKind.i64.wrap ((k : Int) + 1) = (k : Int) + 1 := IntWalk.i64_in _ ⟨by omega, by omega⟩
      clear q1 q2 hd hd2 hgl hchg hx
      go_wp2
      refine wp_region_held_drew (S := (fun w' : World => w'.cell? ⟨g, k, none⟩ = some (.int .u8 x) ∧ w'.cell? ⟨g, k + 1, none⟩ = some (.int .u8 y))) (by kernel_rfl) ?_ (fun hHeld => ?_)
      · exact ⟨c1, c2⟩
      refine wpAnyH_take (i := 0) (v := ?v484_0) rfl (by kernel_rfl) (by kernel_rfl) (by kernel_rfl) (fun _ _ _ h => h) (Or.inl ⟨by rfl, ?hy484_0⟩) (by assumption) ?_
      case hy484_0 =>  (intro w hSw; (try dsimp only at hSw); go_simp; try (with_reducible rfl))
      (try simp only [Act.put, List.getElem_toArray, List.getElem_cons_zero, List.setIfInBounds_toArray, List.set_cons_zero, List.set_cons_succ])
      refine wpAnyH_take (i := 1) (v := ?v484_1) rfl (by kernel_rfl) (by kernel_rfl) (by kernel_rfl) (fun _ _ _ h => h) (Or.inl ⟨by rfl, ?hy484_1⟩) (by assumption) ?_
      case hy484_1 =>  (intro w hSw; (try dsimp only at hSw); go_simp; try (with_reducible rfl))
      (try simp only [Act.put, List.getElem_toArray, List.getElem_cons_zero, List.getElem_cons_succ, List.setIfInBounds_toArray, List.set_cons_zero, List.set_cons_succ])
      refine wpAnyH_take (i := 2) (v := ?v484_2) rfl (by kernel_rfl) (by kernel_rfl) (by kernel_rfl) (fun _ _ _ h => h) (Or.inl ⟨by rfl, ?hy484_2⟩) (by assumption) ?_
      case hy484_2 =>  (intro w hSw; (try dsimp only at hSw); go_simp; try (with_reducible rfl))
      (try simp only [Act.put, List.getElem_toArray, List.getElem_cons_zero, List.getElem_cons_succ, List.setIfInBounds_toArray, List.set_cons_zero, List.set_cons_succ])
      refine wpAnyH_take (i := 3) (v := ?v484_3) rfl (by kernel_rfl) (by kernel_rfl) (by kernel_rfl) (fun _ _ _ h => h) (Or.inl ⟨by rfl, ?hy484_3⟩) (by assumption) ?_
      case hy484_3 =>  (intro w hSw; (try dsimp only at hSw); go_simp; try (with_reducible rfl))
      (try simp only [Act.put, List.getElem_toArray, List.getElem_cons_zero, List.getElem_cons_succ, List.setIfInBounds_toArray, List.set_cons_zero, List.set_cons_succ])
      refine wpAnyH_take (i := 4) (v := ?v484_4) rfl (by kernel_rfl) (by kernel_rfl) (by kernel_rfl) (fun _ _ _ h => h) (Or.inl ⟨by rfl, ?hy484_4⟩) (by assumption) ?_
      case hy484_4 =>  (intro w hSw; (try dsimp only at hSw); go_simp; try (with_reducible rfl))
      (try simp only [Act.put, List.getElem_toArray, List.getElem_cons_zero, List.getElem_cons_succ, List.setIfInBounds_toArray, List.set_cons_zero, List.set_cons_succ])
      refine wpAnyH_take (i := 5) (v := ?v484_5) rfl (by kernel_rfl) (by kernel_rfl) (by kernel_rfl) (fun _ _ _ h => h) (Or.inl ⟨by rfl, ?hy484_5⟩) (by assumption) ?_
      case hy484_5 =>  (intro w hSw; (try dsimp only at hSw); go_simp; try (with_reducible rfl))
      (try simp only [Act.put, List.getElem_toArray, List.getElem_cons_zero, List.getElem_cons_succ, List.setIfInBounds_toArray, List.set_cons_zero, List.set_cons_succ])
      refine wpAnyH_take (i := 6) (v := ?v484_6) rfl (by kernel_rfl) (by kernel_rfl) (by kernel_rfl) (fun _ _ _ h => h) (Or.inl ⟨by rfl, ?hy484_6⟩) (by assumption) ?_
      case hy484_6 =>  (intro w hSw; (try dsimp only at hSw); go_simp; try (with_reducible rfl))
      (try simp only [Act.put, List.getElem_toArray, List.getElem_cons_zero, List.getElem_cons_succ, List.setIfInBounds_toArray, List.set_cons_zero, List.set_cons_succ])
      refine wpAnyH_take (i := 7) (v := ?v484_7) rfl (by kernel_rfl) (by kernel_rfl) (by kernel_rfl) (fun _ _ _ h => h) (Or.inl ⟨by rfl, ?hy484_7⟩) (by assumption) ?_
      case hy484_7 =>  (intro w hSw; (try dsimp only at hSw); go_simp; try (with_reducible rfl))
      (try simp only [Act.put, List.getElem_toArray, List.getElem_cons_zero, List.getElem_cons_succ, List.setIfInBounds_toArray, List.set_cons_zero, List.set_cons_succ])
      refine wpAnyH_take (i := 8) (v := ?v484_8) rfl (by kernel_rfl) (by kernel_rfl) (by kernel_rfl) (fun _ _ _ h => h) (Or.inl ⟨by rfl, ?hy484_8⟩) (by assumption) ?_
      case hy484_8 =>  (intro w hSw; (try dsimp only at hSw); go_simp; try (with_reducible rfl))
      (try simp only [Act.put, List.getElem_toArray, List.getElem_cons_zero, List.getElem_cons_succ, List.setIfInBounds_toArray, List.set_cons_zero, List.set_cons_succ])
      refine wpAnyH_take (i := 9) (v := ?v484_9) rfl (by kernel_rfl) (by kernel_rfl) (by kernel_rfl) (fun _ _ _ h => h) (Or.inl ⟨by rfl, ?hy484_9⟩) (by assumption) ?_
      case hy484_9 =>  (intro w hSw; (try dsimp only at hSw); go_simp; try (with_reducible rfl))
      (try simp only [Act.put, List.getElem_toArray, List.getElem_cons_zero, List.getElem_cons_succ, List.setIfInBounds_toArray, List.set_cons_zero, List.set_cons_succ])
      refine wpAnyH_take (i := 10) (v := ?v484_10) rfl (by kernel_rfl) (by kernel_rfl) (by kernel_rfl) (fun _ _ _ h => h) (Or.inl ⟨by rfl, ?hy484_10⟩) (by assumption) ?_
      case hy484_10 =>  (intro w hSw; (try dsimp only at hSw); go_simp; try (with_reducible rfl))
      (try simp only [Act.put, List.getElem_toArray, List.getElem_cons_zero, List.getElem_cons_succ, List.setIfInBounds_toArray, List.set_cons_zero, List.set_cons_succ])
      refine wpAnyH_ready (rs := [11]) (by kernel_rfl) (by simp) (AllReadyH.cons rfl (fun K hK => ?_) AllReadyH.nil)
      go_simp
      (refine (CAP.out _ HC.out.drew _ _ x y rfl rfl).mono ?_; rintro e w' ⟨rfl, rfl⟩)
      (try go_wp2_with fail)
      refine hK.out _ _ ?_ (fun hHeld => ?_)
      · exact ⟨c1, c2⟩
      clear hK K
      (try simp only [Act.put, List.getElem_toArray, List.getElem_cons_zero, List.getElem_cons_succ, List.setIfInBounds_toArray, List.set_cons_zero, List.set_cons_succ])
      refine wpAnyH_take (i := 12) (v := ?v484_12) rfl (by kernel_rfl) (by kernel_rfl) (by kernel_rfl) (fun _ _ _ h => h) (Or.inl ⟨by rfl, ?hy484_12⟩) (by assumption) ?_
      case hy484_12 =>  (intro w hSw; (try dsimp only at hSw); go_simp; try (with_reducible rfl))
      (try simp only [Act.put, List.getElem_toArray, List.getElem_cons_zero, List.getElem_cons_succ, List.setIfInBounds_toArray, List.set_cons_zero, List.set_cons_succ])
      refine wpAnyH_take (i := 13) (v := ?v484_13) rfl (by kernel_rfl) (by kernel_rfl) (by kernel_rfl) (fun _ _ _ h => h) (Or.inl ⟨by rfl, ?hy484_13⟩) (by assumption) ?_
      case hy484_13 =>  (intro w hSw; (try dsimp only at hSw); go_simp; try (with_reducible rfl))
      (try simp only [Act.put, List.getElem_toArray, List.getElem_cons_zero, List.getElem_cons_succ, List.setIfInBounds_toArray, List.set_cons_zero, List.set_cons_succ])
      refine wpAnyH_done (by kernel_rfl) ?_ _
      go_wp2
      go_roundw
      case rel =>
        have hmin : (if C x y < m then C x y else m) = min m (C x y) := by split <;> omega
        first
          | exact ⟨k + 1, _, by omega, rfl, by go_num, by rw [hmin]; exact HX, HC.out.drew⟩
          | ((repeat apply Exists.intro); exact ⟨⟨k + 1, _, by omega, rfl, by go_num, by rw [hmin]; exact HX, HC.out.drew⟩, rfl⟩)
      case measure => simp [intOf]; omega
    · have hkl : k + 1 = l.length := by omega
      have hd : l.drop k = [l[k]] := by rw [List.drop_eq_getElem_cons (by omega), List.drop_eq_nil_of_le (by omega)]
      have e : m = R := by have := hx.out; rw [hd] at this; simpa [least] using this
      subst e
      have hk1 : (l.length : Int) - 1 ≤ (k : Int) := by omega
      have HC := Lib.hid hchg
      clear hx hd hchg hkl
      go_wp2
      go_ret
      exact ⟨rfl, HC.out⟩
end Go.Proofs.Ytofnaigkfhfhoaa
