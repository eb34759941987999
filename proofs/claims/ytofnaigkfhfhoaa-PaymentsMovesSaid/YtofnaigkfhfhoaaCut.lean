/-
  The law's Cut: does a set of parties let so much out at most?
  The law's Reached: who is reached from a party, as bits.
-/
import Derived.Test.YtofnaigkfhfhoaaHops
import Derived.Laws.BitsLemmas
import Derived.Test.YtofnaigkfhfhoaaPlFlow2
namespace Go.Proofs.Ytofnaigkfhfhoaa
open Go.RowKit Pl

/-- The first j cells of a's row that leave the set. -/
def outR (C : Caps) (S : Nat → Bool) (a j : Nat) : Int := Pl.sum (List.range' 1 j) fun b => if S a && !S b then C a b else 0
def outT (C : Caps) (S : Nat → Bool) (k : Nat) : Int := Pl.sum (List.range' 1 k) fun a => outR C S a 16
theorem sum_snoc (l : List Nat) (x : Nat) (f : Nat → Int) : Pl.sum (l ++ [x]) f = Pl.sum l f + f x := by
  induction l with
  | nil => simp
  | cons a l ih => simp only [List.cons_append, Pl.sum_cons, ih]; omega
theorem outR_succ (C : Caps) (S : Nat → Bool) (a j : Nat) : outR C S a (j + 1) = outR C S a j + (if S a && !S (j + 1) then C a (j + 1) else 0) := by
  unfold outR
  rw [List.range'_concat, sum_snoc]
  simp [Nat.add_comm]
theorem outT_succ (C : Caps) (S : Nat → Bool) (k : Nat) : outT C S (k + 1) = outT C S k + outR C S (k + 1) 16 := by
  unfold outT
  rw [List.range'_concat, sum_snoc]
  simp [Nat.add_comm]
theorem outT_16 (C : Caps) (S : Nat → Bool) : outT C S 16 = cut C S := rfl
theorem outR_bd {C : Caps} {B : Int} (hB : 0 ≤ B) (h : CapOk B C) (S : Nat → Bool) (a : Nat) : ∀ j : Nat, 0 ≤ outR C S a j ∧ outR C S a j ≤ j * B
  | 0 => by simp [outR]
  | j + 1 => by
    have ih := outR_bd hB h S a j
    rw [outR_succ]
    have h1 := h.nonneg a (j + 1)
    have h2 := h.le a (j + 1)
    have e : ((j + 1 : Nat) : Int) * B = j * B + B := by rw [Int.natCast_succ, Int.add_mul, Int.one_mul]
    rw [e]
    split <;> omega
theorem outT_bd {C : Caps} {B : Int} (hB : 0 ≤ B) (h : CapOk B C) (S : Nat → Bool) : ∀ k : Nat, 0 ≤ outT C S k ∧ outT C S k ≤ k * (16 * B)
  | 0 => by simp [outT]
  | k + 1 => by
    have ih := outT_bd hB h S k
    have hr := outR_bd hB h S (k + 1) 16
    rw [outT_succ]
    have e : ((k + 1 : Nat) : Int) * (16 * B) = k * (16 * B) + 16 * B := by rw [Int.natCast_succ, Int.add_mul, Int.one_mul]
    rw [e]
    have e2 : ((16 : Nat) : Int) * B = 16 * B := rfl
    rw [e2] at hr
    omega

theorem wraps_u32 (n : Int) (h₀ : 0 ≤ n) (h₁ : n < 2 ^ 32) : IntKind.u32.wrap n = n := by rw [IntKind.wrap_u32]; omega
theorem tb_val (m i : Nat) (hm : m < 4294967296) : bits .and .u32 ((m : Int) / 2 ^ i) 1 = if m.testBit i then 1 else 0 := by
  have e : ((m : Int) / 2 ^ i) = ((m / 2 ^ i : Nat) : Int) := by rw [Int.natCast_ediv]; simp
  have hlt : m / 2 ^ i < 2 ^ 32 := Nat.lt_of_le_of_lt (Nat.div_le_self _ _) hm
  have h := (bits_nat .u32 32 (by decide) wraps_u32 (m / 2 ^ i) 1 hlt (by decide)).1
  rw [e]
  refine Eq.trans h ?_
  rw [Nat.and_one_is_mod, Nat.testBit_eq_decide_div_mod_eq]
  by_cases h1 : m / 2 ^ i % 2 = 1
  · simp [h1]
  · have : m / 2 ^ i % 2 = 0 := by omega
    simp [this]
theorem tb_one {m i : Nat} (hm : m < 4294967296) (h : m.testBit i = true) : bits .and .u32 ((m : Int) / 2 ^ i) 1 = 1 := by rw [tb_val m i hm, h]; rfl
theorem tb_zero {m i : Nat} (hm : m < 4294967296) (h : m.testBit i = false) : bits .and .u32 ((m : Int) / 2 ^ i) 1 = 0 := by rw [tb_val m i hm, h]; rfl

set_option maxRecDepth 100000 in
set_option maxHeartbeats 1000000 in
theorem fcut {w : World} {v : Value} {C : Caps} (hv : CapV w v C) (m : Nat) (hm : m < 4294967296) (most : Int) :
    Calls Try.prog 67 #[v, .int .u32 m, .int .i64 most] w fun e w' => e = .returned (.bool (decide (cut C (fun p => m.testBit p) ≤ most))) ∧ w = w' := by
  have CAP : Hid (∀ (p q : Int) (a b : Nat), p = a → q = b → Calls Try.prog 107 #[v, .int .u8 p, .int .u8 q] w fun e w' => e = .returned (.int .i64 (C a b)) ∧ w = w') := fun p q a b hp hq => gcapV hv hp hq
  have HB : Hid (∀ (S : Nat → Bool), (∀ k, 0 ≤ outT C S k ∧ outT C S k ≤ k * (16 * 4398046511104)) ∧ (∀ a k, 0 ≤ outR C S a k ∧ outR C S a k ≤ k * 4398046511104) ∧ ∀ a b, 0 ≤ C a b ∧ C a b ≤ 4398046511104) :=
    fun S => ⟨outT_bd (by decide) hv.ok S, fun a => outR_bd (by decide) hv.ok S a, fun a b => ⟨hv.ok.nonneg a b, hv.ok.le a b⟩⟩
  have HT1 : Hid (∀ i, m.testBit i = true → bits .and .u32 ((m : Int) / 2 ^ i) 1 = 1) := fun i h => tb_one hm h
  have HT0 : Hid (∀ i, m.testBit i = false → bits .and .u32 ((m : Int) / 2 ^ i) 1 = 0) := fun i h => tb_zero hm h
  clear hv hm
  obtain ⟨S, hS⟩ : ∃ S : Nat → Bool, S = fun p => m.testBit p := ⟨_, rfl⟩
  rw [← hS]
  have HS : Hid (∀ p, m.testBit p = S p) := fun p => by rw [hS]
  clear hS
  go_enter Try.func67, Try.ntmps67
  go_wp2
  go_loop [7, 8] (fun n a => ∃ k : Nat, k ≤ 16 ∧ a = .int .u8 ((k : Int) + 1) ∧ n = .int .i64 (outT C S k)) (fun _ a => (18 - intOf a).toNat)
  case atStart => exact ⟨0, by omega, rfl, rfl⟩
  case round =>
    obtain ⟨k, hk, rfl, rfl⟩ := hrel
    by_cases hlt : k < 16
    · have hk1 : ((k : Int) + 1) < 17 := by omega
      go_wp2
      obtain ⟨N, hN⟩ : ∃ N, N = outT C S k := ⟨_, rfl⟩
      have hNb := (HB.out S).1 k
      rw [← hN] at hNb ⊢
      have HN := Lib.hid hN
      clear hN
      go_loop [7, 9] (fun n b => ∃ j : Nat, j ≤ 16 ∧ b = .int .u8 ((j : Int) + 1) ∧ n = .int .i64 (N + outR C S (k + 1) j)) (fun _ b => (18 - intOf b).toNat)
      case atStart => exact ⟨0, by omega, rfl, by simp [outR]⟩
      case round =>
        obtain ⟨j, hj, rfl, rfl⟩ := hrel
        by_cases hjl : j < 16
        · have hj1 : ((j : Int) + 1) < 17 := by omega
          have hrs := outR_succ C S (k + 1) j
          have hRb := (HB.out S).2.1 (k + 1) j
          have hCb := (HB.out S).2.2 (k + 1) (j + 1)
          generalize outR C S (k + 1) j = R at *
          cases hSa : S (k + 1) with
          | false =>
            have t1 := HT0.out (k + 1) ((HS.out _).trans hSa)
            have e : N + outR C S (k + 1) (j + 1) = N + R := by rw [hrs, hSa]; simp
            have HE := Lib.hid e
            clear hrs hSa e
            go_wp2
            go_round
            case rel => exact ⟨j + 1, by omega, by go_num, by rw [HE.out]⟩
            case measure => simp [intOf]; omega
          | true =>
            have t1 := HT1.out (k + 1) ((HS.out _).trans hSa)
            cases hSb : S (j + 1) with
            | true =>
              have t2 := HT1.out (j + 1) ((HS.out _).trans hSb)
              have e : N + outR C S (k + 1) (j + 1) = N + R := by rw [hrs, hSa, hSb]; simp
              have HE := Lib.hid e
              clear hrs hSa hSb e
              go_wp2
              go_round
              case rel => exact ⟨j + 1, by omega, by go_num, by rw [HE.out]⟩
              case measure => simp [intOf]; omega
            | false =>
              have t2 := HT0.out (j + 1) ((HS.out _).trans hSb)
              have e : N + outR C S (k + 1) (j + 1) = N + R + C (k + 1) (j + 1) := by rw [hrs, hSa, hSb]; simp; omega
              have HE := Lib.hid e
              clear hrs hSa hSb e
              go_wp2_with (go_at_call 107; refine (CAP.out _ _ (k + 1) (j + 1) (by go_num) (by go_num)).mono ?_; rintro e w' ⟨rfl, rfl⟩)
              go_round
              case rel => exact ⟨j + 1, by omega, by go_num, by rw [HE.out]⟩
              case measure => simp [intOf]; omega
        · have hj1 : ¬ ((j : Int) + 1) < 17 := by omega
          obtain rfl : j = 16 := by omega
          have e : N + outR C S (k + 1) 16 = outT C S (k + 1) := by rw [outT_succ, HN.out]
          have HE := Lib.hid e
          clear e
          go_wp2
          go_round
          case rel => exact ⟨k + 1, by omega, by go_num, by rw [← HE.out]⟩
          case measure => simp [intOf]; omega
    · have hk1 : ¬ ((k : Int) + 1) < 17 := by omega
      obtain rfl : k = 16 := by omega
      rw [outT_16]
      go_wp2
      go_ret
      exact ⟨rfl, rfl⟩
end Go.Proofs.Ytofnaigkfhfhoaa
namespace Go.Proofs.Ytofnaigkfhfhoaa
open Go.RowKit Pl

theorem pow_mod32 {b : Nat} (hb : b ≤ 16) : ((2 : Int) ^ b % 4294967296) = ((2 ^ b : Nat) : Int) := by
  have h : (2 ^ b : Nat) ≤ 2 ^ 16 := Nat.pow_le_pow_right (by decide) hb
  have e : ((2 : Int) ^ b) = ((2 ^ b : Nat) : Int) := by simp
  rw [e]
  generalize (2 ^ b : Nat) = q at *
  omega
theorem tb_or32 {m b : Nat} (hm : m < 131072) (hb : b ≤ 16) : bits .or .u32 (m : Int) ((2 : Int) ^ b % 4294967296) = ((m ||| 2 ^ b : Nat) : Int) := by
  rw [pow_mod32 hb]
  exact (bits_nat .u32 32 (by decide) wraps_u32 m (2 ^ b) (by omega) (Nat.pow_lt_pow_right (by decide) (by omega))).2

set_option maxRecDepth 100000 in
set_option maxHeartbeats 1000000 in
theorem freached {w : World} {v : Value} {C : Caps} (hv : CapV w v C) {s : Nat} (hs : s ∈ P16) :
    Calls Try.prog 65 #[v, .int .u8 s] w fun e w' => e = .returned (.int .u32 (reached C s)) ∧ w = w' := by
  have CAP : Hid (∀ (p q : Int) (a b : Nat), p = a → q = b → Calls Try.prog 107 #[v, .int .u8 p, .int .u8 q] w fun e w' => e = .returned (.int .i64 (C a b)) ∧ w = w') := fun p q a b hp hq => gcapV hv hp hq
  have hs16 := mem_P16.1 hs
  have H0 : Hid ((2 : Int) ^ (s % 32) % 4294967296 = ((2 ^ s : Nat) : Int)) := by
    rw [Nat.mod_eq_of_lt (show s < 32 by omega)]
    exact pow_mod32 hs16.2
  have HLT : Hid (∀ n, reachN C n (2 ^ s) < 131072) := fun n => reachN_lt (Nat.pow_lt_pow_right (n := 17) (by decide) (by omega))
  have HT1 : Hid (∀ m i : Nat, m < 131072 → m.testBit i = true → bits .and .u32 ((m : Int) / 2 ^ i) 1 = 1) := fun m i hm h => tb_one (by omega) h
  have HT0 : Hid (∀ m i : Nat, m < 131072 → m.testBit i = false → bits .and .u32 ((m : Int) / 2 ^ i) 1 = 0) := fun m i hm h => tb_zero (by omega) h
  have HR : Hid (reached C s = reachN C 16 (2 ^ s)) := by
    show reached C s = _
    unfold reached; rw [Nat.mod_eq_of_lt (by omega)]
  generalize reached C s = R at *
  clear hv
  go_enter Try.func65, Try.ntmps65
  go_wp2
  go_loop [5, 6] (fun m n => ∃ (k : Nat) (x : Nat), k ≤ 16 ∧ n = .int .i64 k ∧ m = .int .u32 x ∧ x < 131072 ∧ Hid (x = reachN C k (2 ^ s))) (fun _ n => (18 - intOf n).toNat)
  case atStart => exact ⟨0, 2 ^ s, by omega, rfl, by rw [H0.out], HLT.out 0, rfl⟩
  case round =>
    obtain ⟨k, x, hk, rfl, rfl, hx, HX⟩ := hrel
    by_cases hlt : k < 16
    · go_wp2
      go_loop [5, 7] (fun m a => ∃ (i : Nat) (y : Nat), i ≤ 16 ∧ a = .int .u8 ((i : Int) + 1) ∧ m = .int .u32 y ∧ y < 131072 ∧ Hid (y = reachT C i x)) (fun _ a => (18 - intOf a).toNat)
      case atStart => exact ⟨0, x, by omega, rfl, rfl, hx, rfl⟩
      case round =>
        obtain ⟨i, y, hi, rfl, rfl, hy, HY⟩ := hrel
        by_cases hil : i < 16
        · have hi1 : ((i : Int) + 1) < 17 := by omega
          go_wp2
          go_loop [5, 8] (fun m b => ∃ (j : Nat) (z : Nat), j ≤ 16 ∧ b = .int .u8 ((j : Int) + 1) ∧ m = .int .u32 z ∧ z < 131072 ∧ Hid (z = reachR C (i + 1) j y)) (fun _ b => (18 - intOf b).toNat)
          case atStart => exact ⟨0, y, by omega, rfl, rfl, hy, rfl⟩
          case round =>
            obtain ⟨j, z, hj, rfl, rfl, hz, HZ⟩ := hrel
            by_cases hjl : j < 16
            · have hj1 : ((j : Int) + 1) < 17 := by omega
              cases hSa : z.testBit (i + 1) with
              | false =>
                have t1 := HT0.out z (i + 1) hz hSa
                have HZ2 : Hid (z = reachR C (i + 1) (j + 1) y) := by
                  show z = _
                  rw [reachR_succ, ← HZ.out, reachS, hSa]; simp
                clear hSa
                go_wp2
                go_round
                case rel => exact ⟨j + 1, z, by omega, by go_num, rfl, hz, HZ2⟩
                case measure => simp [intOf]; omega
              | true =>
                have t1 := HT1.out z (i + 1) hz hSa
                by_cases hc : 0 < C (i + 1) (j + 1)
                · have HZ2 : Hid ((z ||| 2 ^ (j + 1)) = reachR C (i + 1) (j + 1) y) := by
                    show _ = _
                    rw [reachR_succ, ← HZ.out, reachS, hSa, decide_eq_true hc]; rfl
                  have hz2 : (z ||| 2 ^ (j + 1)) < 131072 := Nat.or_lt_two_pow (n := 17) hz (Nat.pow_lt_pow_right (by decide) (by omega))
                  have hor := tb_or32 (b := j + 1) hz (by omega)
                  clear hSa
                  go_wp2_with (go_at_call 107; refine (CAP.out _ _ (i + 1) (j + 1) (by go_num) (by go_num)).mono ?_; rintro e w' ⟨rfl, rfl⟩)
                  go_round
                  case rel => exact ⟨j + 1, _, by omega, by go_num, rfl, hz2, HZ2⟩
                  case measure => simp [intOf]; omega
                · have HZ2 : Hid (z = reachR C (i + 1) (j + 1) y) := by
                    show z = _
                    rw [reachR_succ, ← HZ.out, reachS, hSa, decide_eq_false hc]; simp
                  clear hSa
                  go_wp2_with (go_at_call 107; refine (CAP.out _ _ (i + 1) (j + 1) (by go_num) (by go_num)).mono ?_; rintro e w' ⟨rfl, rfl⟩)
                  go_round
                  case rel => exact ⟨j + 1, z, by omega, by go_num, rfl, hz, HZ2⟩
                  case measure => simp [intOf]; omega
            · have hj1 : ¬ ((j : Int) + 1) < 17 := by omega
              obtain rfl : j = 16 := by omega
              have HY2 : Hid (z = reachT C (i + 1) x) := by
                show z = _
                rw [reachT_succ, ← HY.out, HZ.out]
              go_wp2
              go_round
              case rel => exact ⟨i + 1, z, by omega, by go_num, rfl, hz, HY2⟩
              case measure => simp [intOf]; omega
        · have hi1 : ¬ ((i : Int) + 1) < 17 := by omega
          obtain rfl : i = 16 := by omega
          have HX2 : Hid (y = reachN C (k + 1) (2 ^ s)) := by
            show y = _
            rw [HY.out, HX.out]; rfl
          go_wp2
          go_round
          case rel => exact ⟨k + 1, y, by omega, by go_num, rfl, hy, HX2⟩
          case measure => simp [intOf]; omega
    · obtain rfl : k = 16 := by omega
      have HF : Hid (x = R) := HX.out.trans HR.out.symm
      go_wp2
      go_ret
      exact ⟨by rw [HF.out]; rfl, rfl⟩
end Go.Proofs.Ytofnaigkfhfhoaa
