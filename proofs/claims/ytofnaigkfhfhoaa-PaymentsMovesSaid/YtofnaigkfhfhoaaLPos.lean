/-
  The package ledgers: Position, Total.
-/
import Derived.Test.YtofnaigkfhfhoaaLLines
import Derived.Test.YtofnaigkfhfhoaaPlPos
namespace Go.Proofs.Ytofnaigkfhfhoaa
open Go.RowKit Go.Maps Pl

/-- Five cells that are a line. -/
def IsLn (w : World) (g o : Nat) (x : Ln) : Prop :=
  w.cell? ⟨g, o, none⟩ = some (.int .u8 x.cr) ∧ w.cell? ⟨g, o + 1, none⟩ = some (.int .u8 x.db) ∧ w.cell? ⟨g, o + 2, none⟩ = some (.int .u8 x.cu) ∧ w.cell? ⟨g, o + 3, none⟩ = some (.int .i64 x.lim) ∧ w.cell? ⟨g, o + 4, none⟩ = some (.int .i64 x.deb)
theorem rd_open {w : World} {v : Value} {l : List Ln} (h : RdLn w v l) : (l = [] ∧ ∃ ao cap, v = .slice ao 0 cap ∧ (ao = none → cap = 0)) ∨
    ∃ g off cap, v = .slice (some ⟨g, off, none⟩) l.length cap ∧ l.length ≤ cap ∧ ∀ W, Chg [] w W → ∀ i (h : i < l.length), IsLn W g (off + i * 5) l[i] := by
  rcases h with h | ⟨g, off, cap, rfl, hn, hc⟩
  · exact .inl h
  · refine .inr ⟨g, off, cap, rfl, hn, fun W k i hi => ?_⟩
    have e : ∀ j u, (lnCells l[i])[j]? = some u → W.cell? ⟨g, off + i * 5 + j, none⟩ = some u := fun j u hu => by
      have h1 := hc i hi j u hu
      exact (k.cell (p := ⟨g, off + i * 5 + j, none⟩) (block_lt_of_cell h1) (by simp)).trans h1
    exact ⟨e 0 _ rfl, e 1 _ rfl, e 2 _ rfl, e 3 _ rfl, e 4 _ rfl⟩

theorem sumL_snoc (g : Ln → Int) (l : List Ln) (x : Ln) : sumL g (l ++ [x]) = sumL g l + g x := by
  induction l with
  | nil => simp [sumL]
  | cons y l ih => simp only [List.cons_append, sumL, ih]; omega
theorem sumL_take (g : Ln → Int) (l : List Ln) {k : Nat} (h : k < l.length) : sumL g (l.take (k + 1)) = sumL g (l.take k) + g l[k] := by
  rw [List.take_succ_eq_append_getElem h, sumL_snoc]
theorem sumL_bound (g : Ln → Int) {B : Int} : ∀ (l : List Ln), (∀ x ∈ l, -B ≤ g x ∧ g x ≤ B) → -(B * l.length) ≤ sumL g l ∧ sumL g l ≤ B * l.length
  | [], _ => by simp [sumL]
  | x :: l, h => by
    have h1 := h x (by simp)
    have h2 := sumL_bound g l (fun y hy => h y (by simp [hy]))
    have e : B * ((x :: l).length : Int) = B * l.length + B := by rw [List.length_cons]; push_cast; rw [Int.mul_add, Int.mul_one]
    rw [e]
    simp only [sumL]
    omega
theorem posF_bd {S : Nat → Bool} {L : List Ln} (h : GoodL S L) (p v : Nat) : ∀ x ∈ L, -1099511627776 ≤ posF p v x ∧ posF p v x ≤ 1099511627776 := by
  intro x hx
  have := h.owed x hx
  unfold posF
  split
  · split
    · omega
    · split <;> omega
  · omega
theorem totF_bd {S : Nat → Bool} {L : List Ln} (h : GoodL S L) (v : Nat) : ∀ x ∈ L, -1099511627776 ≤ totF v x ∧ totF v x ≤ 1099511627776 := by
  intro x hx
  have := h.owed x hx
  unfold totF
  split <;> omega
theorem sum_take_bd {S : Nat → Bool} {L : List Ln} (h : GoodL S L) (g : Ln → Int) (hg : ∀ x ∈ L, -1099511627776 ≤ g x ∧ g x ≤ 1099511627776) (k : Nat) : -70368744177664 ≤ sumL g (L.take k) ∧ sumL g (L.take k) ≤ 70368744177664 := by
  have h1 := sumL_bound g (B := 1099511627776) (L.take k) (fun x hx => hg x (List.mem_of_mem_take hx))
  have h2 : (L.take k).length ≤ 64 := by rw [List.length_take]; have := h.few; omega
  omega

set_option maxRecDepth 100000 in
set_option maxHeartbeats 4000000 in
theorem lposition {w : World} {lb mb : Nat} {S : Nat → Bool} {L : List Ln} (h : IsL w lb mb S L) (p c : Nat) :
    Calls Try.prog 36 #[.pointer (some ⟨lb, 0, none⟩), .int .u8 p, .int .u8 c] w fun e w' => e = .returned (.int .i64 (posOf L p c)) ∧ Chg [] w w' := by
  have HL := Lib.hid (llines h)
  have hfew := h.good.few
  have HB := Lib.hid (sum_take_bd h.good (posF p c) (posF_bd h.good p c))
  have HO := Lib.hid h.good.owed
  have HE : Hid (posOf L p c = sumL (posF p c) (L.take L.length)) := Lib.hid (by rw [List.take_length]; rfl)
  clear h
  go_enter Try.func36, Try.ntmps36
  go_wp2_with fail
  refine HL.out.mono ?_
  rintro e w1 ⟨⟨v, rfl, hown⟩, hc1⟩
  have HC := Lib.hid hc1
  rcases rd_open (RdK.of_own lnCells_len hown) with ⟨rfl, ao, cap, rfl, _⟩ | ⟨g, off, cap, rfl, hcap, hrd⟩
  · clear hown hc1 HL
    go_wp2
    refine wp_loop_rounds 1 ?_
    rw [rounds_succ]
    go_wp2
    go_ret
    exact ⟨by rw [HE.out]; rfl, HC.out⟩
  · have HR := Lib.hid hrd
    clear hown hc1 HL hrd
    go_wp2
    go_loopw [6, 8, 12] (fun s _ i wr => ∃ k : Nat, k ≤ L.length ∧ i = .int .i64 k ∧ s = .int .i64 (sumL (posF p c) (L.take k)) ∧ Hid (Chg [] w1 wr)) (fun _ _ i _ => L.length - (intOf i).toNat)
    case atStart => exact ⟨0, by omega, rfl, rfl, Lib.hid (Chg.refl _ _)⟩
    case round =>
      obtain ⟨k, hk, rfl, rfl, HK⟩ := hrel
      by_cases hlt : k < L.length
      · obtain ⟨r0, r1, r2, r3, r4⟩ := HR.out wr HK.out k hlt
        have hb := HB.out k
        have hb2 := HB.out (k + 1)
        have hsum := sumL_take (posF p c) L hlt
        have ho := HO.out L[k] (List.getElem_mem hlt)
        obtain ⟨s, hs⟩ : ∃ s, s = sumL (posF p c) (L.take k) := ⟨_, rfl⟩
        rw [← hs] at hb hsum ⊢
        rw [hsum] at hb2
        have HSUM := Lib.hid hsum
        clear hs hsum
        generalize L[k] = x at *
        obtain ⟨xc, xd, xu, xl, xn⟩ := x
        dsimp only at r0 r1 r2 r3 r4 ho
        by_cases h1 : xu = c
        · have t1 : ((xu : Int) != (c : Int)) = false := by simp [h1]
          by_cases h2 : xc = p
          · have t2 : ((xc : Int) == (p : Int)) = true := by simp [h2]
            simp only [posF, if_pos h1, if_pos h2] at hb2
            have HS2 : Hid (sumL (posF p c) (L.take (k + 1)) = s + xn) := Lib.hid (by rw [HSUM.out]; simp only [posF, if_pos h1, if_pos h2])
            clear HSUM h1 h2
            go_wp2
            go_roundw
            case rel => exact ⟨k + 1, by omega, by go_num, by rw [HS2.out], Lib.hid (HK.out.alloc _)⟩
            case measure => simp [intOf]; omega
          · have t2 : ((xc : Int) == (p : Int)) = false := by simp; omega
            by_cases h3 : xd = p
            · have t3 : ((xd : Int) == (p : Int)) = true := by simp [h3]
              simp only [posF, if_pos h1, if_neg h2, if_pos h3] at hb2
              have HS2 : Hid (sumL (posF p c) (L.take (k + 1)) = s - xn) := Lib.hid (by rw [HSUM.out]; simp only [posF, if_pos h1, if_neg h2, if_pos h3]; omega)
              clear HSUM h1 h2 h3
              go_wp2
              go_roundw
              case rel => exact ⟨k + 1, by omega, by go_num, by rw [HS2.out], Lib.hid (HK.out.alloc _)⟩
              case measure => simp [intOf]; omega
            · have t3 : ((xd : Int) == (p : Int)) = false := by simp; omega
              have HS2 : Hid (sumL (posF p c) (L.take (k + 1)) = s) := Lib.hid (by rw [HSUM.out]; simp only [posF, if_pos h1, if_neg h2, if_neg h3]; omega)
              clear HSUM h1 h2 h3 hb2
              go_wp2
              go_roundw
              case rel => exact ⟨k + 1, by omega, by go_num, by rw [HS2.out], Lib.hid (HK.out.alloc _)⟩
              case measure => simp [intOf]; omega
        · have t1 : ((xu : Int) != (c : Int)) = true := by simp; omega
          have HS2 : Hid (sumL (posF p c) (L.take (k + 1)) = s) := Lib.hid (by rw [HSUM.out]; simp only [posF, if_neg h1]; omega)
          clear HSUM h1 hb2
          go_wp2
          go_roundw
          case rel => exact ⟨k + 1, by omega, by go_num, by rw [HS2.out], Lib.hid (HK.out.alloc _)⟩
          case measure => simp [intOf]; omega
      · obtain rfl : k = L.length := by omega
        go_wp2
        go_ret
        exact ⟨ret_i64 HE.out.symm, HC.out.trans HK.out⟩
set_option maxRecDepth 100000 in
set_option maxHeartbeats 4000000 in
theorem ltotal {w : World} {lb mb : Nat} {S : Nat → Bool} {L : List Ln} (h : IsL w lb mb S L) (c : Nat) :
    Calls Try.prog 24 #[.pointer (some ⟨lb, 0, none⟩), .int .u8 c] w fun e w' => e = .returned (.int .i64 (totOf L c)) ∧ Chg [] w w' := by
  have HL := Lib.hid (llines h)
  have hfew := h.good.few
  have HB := Lib.hid (sum_take_bd h.good (totF c) (totF_bd h.good c))
  have HO := Lib.hid h.good.owed
  have HE : Hid (totOf L c = sumL (totF c) (L.take L.length)) := Lib.hid (by rw [List.take_length]; rfl)
  clear h
  go_enter Try.func24, Try.ntmps24
  go_wp2_with fail
  refine HL.out.mono ?_
  rintro e w1 ⟨⟨v, rfl, hown⟩, hc1⟩
  have HC := Lib.hid hc1
  rcases rd_open (RdK.of_own lnCells_len hown) with ⟨rfl, ao, cap, rfl, _⟩ | ⟨g, off, cap, rfl, hcap, hrd⟩
  · clear hown hc1 HL
    go_wp2
    refine wp_loop_rounds 1 ?_
    rw [rounds_succ]
    go_wp2
    go_ret
    exact ⟨by rw [HE.out]; rfl, HC.out⟩
  · have HR := Lib.hid hrd
    clear hown hc1 HL hrd
    go_wp2
    go_loopw [4, 6, 10] (fun s _ i wr => ∃ k : Nat, k ≤ L.length ∧ i = .int .i64 k ∧ s = .int .i64 (sumL (totF c) (L.take k)) ∧ Hid (Chg [] w1 wr)) (fun _ _ i _ => L.length - (intOf i).toNat)
    case atStart => exact ⟨0, by omega, rfl, rfl, Lib.hid (Chg.refl _ _)⟩
    case round =>
      obtain ⟨k, hk, rfl, rfl, HK⟩ := hrel
      by_cases hlt : k < L.length
      · obtain ⟨r0, r1, r2, r3, r4⟩ := HR.out wr HK.out k hlt
        have hb := HB.out k
        have hb2 := HB.out (k + 1)
        have hsum := sumL_take (totF c) L hlt
        have ho := HO.out L[k] (List.getElem_mem hlt)
        obtain ⟨s, hs⟩ : ∃ s, s = sumL (totF c) (L.take k) := ⟨_, rfl⟩
        rw [← hs] at hb hsum ⊢
        rw [hsum] at hb2
        have HSUM := Lib.hid hsum
        clear hs hsum
        generalize L[k] = x at *
        obtain ⟨xc, xd, xu, xl, xn⟩ := x
        dsimp only at r0 r1 r2 r3 r4 ho
        by_cases h1 : xu = c
        · have t1 : ((xu : Int) == (c : Int)) = true := by simp [h1]
          simp only [totF, if_pos h1] at hb2
          have HS2 : Hid (sumL (totF c) (L.take (k + 1)) = s + xn) := Lib.hid (by rw [HSUM.out]; simp only [totF, if_pos h1])
          clear HSUM h1
          go_wp2
          go_roundw
          case rel => exact ⟨k + 1, by omega, by go_num, by rw [HS2.out], Lib.hid (HK.out.alloc _)⟩
          case measure => simp [intOf]; omega
        · have t1 : ((xu : Int) == (c : Int)) = false := by simp; omega
          have HS2 : Hid (sumL (totF c) (L.take (k + 1)) = s) := Lib.hid (by rw [HSUM.out]; simp only [totF, if_neg h1]; omega)
          clear HSUM h1 hb2
          go_wp2
          go_roundw
          case rel => exact ⟨k + 1, by omega, by go_num, by rw [HS2.out], Lib.hid (HK.out.alloc _)⟩
          case measure => simp [intOf]; omega
      · obtain rfl : k = L.length := by omega
        go_wp2
        go_ret
        exact ⟨ret_i64 HE.out.symm, HC.out.trans HK.out⟩
end Go.Proofs.Ytofnaigkfhfhoaa
