/-
  The law's Reached: who is reached from a party, as bits.
-/
import Derived.Test.YtfpdkeokdojejaaCut
import Derived.Test.YtfpdkeokdojejaaPlReach
namespace Go.Proofs.Ytfpdkeokdojejaa
open Go.RowKit Pl

theorem pow_mod32 {b : Nat} (hb : b ≤ 16) : ((2 : Int) ^ b % 4294967296) = ((2 ^ b : Nat) : Int) := by
  have h : (2 ^ b : Nat) ≤ 2 ^ 16 := Nat.pow_le_pow_right (by decide) hb
  have e : ((2 : Int) ^ b) = ((2 ^ b : Nat) : Int) := by simp
  rw [e]
  generalize (2 ^ b : Nat) = q at *
  omega
theorem tb_or32 {m b : Nat} (hm : m < 131072) (hb : b ≤ 16) : bits .or .u32 (m : Int) ((2 : Int) ^ b % 4294967296) = ((m ||| 2 ^ b : Nat) : Int) := by
  rw [pow_mod32 hb]
  exact (bits_nat .u32 32 (by decide) wraps_u32 m (2 ^ b) (by omega) (Nat.pow_lt_pow_right (by decide) (by omega))).2

set_option maxRecDepth 100000 in
set_option maxHeartbeats 1000000 in
theorem freached {w : World} {v : Value} {C : Caps} (hv : CapV w v C) {s : Nat} (hs : s ∈ P16) :
    Calls Try.prog 30 #[v, .int .u8 s] w fun e w' => e = .returned (.int .u32 (reached C s)) ∧ w = w' := by
  have CAP : Hid (∀ (p q : Int) (a b : Nat), p = a → q = b → Calls Try.prog 19 #[v, .int .u8 p, .int .u8 q] w fun e w' => e = .returned (.int .i64 (C a b)) ∧ w = w') := fun p q a b hp hq => gcapV hv hp hq
  have hs16 := mem_P16.1 hs
  have H0 : Hid ((2 : Int) ^ (s % 32) % 4294967296 = ((2 ^ s : Nat) : Int)) := by
    rw [Nat.mod_eq_of_lt (show s < 32 by omega)]
    exact pow_mod32 hs16.2
  have HLT : Hid (∀ n, reachN C n (2 ^ s) < 131072) := fun n => reachN_lt (Nat.pow_lt_pow_right (n := 17) (by decide) (by omega))
  have HT1 : Hid (∀ m i : Nat, m < 131072 → m.testBit i = true → bits .and .u32 ((m : Int) / 2 ^ i) 1 = 1) := fun m i hm h => tb_one (by omega) h
  have HT0 : Hid (∀ m i : Nat, m < 131072 → m.testBit i = false → bits .and .u32 ((m : Int) / 2 ^ i) 1 = 0) := fun m i hm h => tb_zero (by omega) h
  have HR : Hid (reached C s = reachN C 16 (2 ^ s)) := by
    show reached C s = _
    unfold reached; rw [Nat.mod_eq_of_lt (by omega)]
  generalize reached C s = R at *
  clear hv
  go_enter Try.func30, Try.ntmps30
  go_wp2
  go_loop [5, 6] (fun m n => ∃ (k : Nat) (x : Nat), k ≤ 16 ∧ n = .int .i64 k ∧ m = .int .u32 x ∧ x < 131072 ∧ Hid (x = reachN C k (2 ^ s))) (fun _ n => (18 - intOf n).toNat)
  case atStart => exact ⟨0, 2 ^ s, by omega, rfl, by rw [H0.out], HLT.out 0, rfl⟩
  case round =>
    obtain ⟨k, x, hk, rfl, rfl, hx, HX⟩ := hrel
    by_cases hlt : k < 16
    · go_wp2
      go_loop [5, 7] (fun m a => ∃ (i : Nat) (y : Nat), i ≤ 16 ∧ a = .int .u8 ((i : Int) + 1) ∧ m = .int .u32 y ∧ y < 131072 ∧ Hid (y = reachT C i x)) (fun _ a => (18 - intOf a).toNat)
      case atStart => exact ⟨0, x, by omega, rfl, rfl, hx, rfl⟩
      case round =>
        obtain ⟨i, y, hi, rfl, rfl, hy, HY⟩ := hrel
        by_cases hil : i < 16
        · have hi1 : ((i : Int) + 1) < 17 := by omega
          go_wp2
          go_loop [5, 8] (fun m b => ∃ (j : Nat) (z : Nat), j ≤ 16 ∧ b = .int .u8 ((j : Int) + 1) ∧ m = .int .u32 z ∧ z < 131072 ∧ Hid (z = reachR C (i + 1) j y)) (fun _ b => (18 - intOf b).toNat)
          case atStart => exact ⟨0, y, by omega, rfl, rfl, hy, rfl⟩
          case round =>
            obtain ⟨j, z, hj, rfl, rfl, hz, HZ⟩ := hrel
            by_cases hjl : j < 16
            · have hj1 : ((j : Int) + 1) < 17 := by omega
              cases hSa : z.testBit (i + 1) with
              | false =>
                have t1 := HT0.out z (i + 1) hz hSa
                have HZ2 : Hid (z = reachR C (i + 1) (j + 1) y) := by
                  show z = _
                  rw [reachR_succ, ← HZ.out, reachS, hSa]; simp
                clear hSa
                go_wp2
                go_round
                case rel => exact ⟨j + 1, z, by omega, by go_num, rfl, hz, HZ2⟩
                case measure => simp [intOf]; omega
              | true =>
                have t1 := HT1.out z (i + 1) hz hSa
                by_cases hc : 0 < C (i + 1) (j + 1)
                · have HZ2 : Hid ((z ||| 2 ^ (j + 1)) = reachR C (i + 1) (j + 1) y) := by
                    show _ = _
                    rw [reachR_succ, ← HZ.out, reachS, hSa, decide_eq_true hc]; rfl
                  have hz2 : (z ||| 2 ^ (j + 1)) < 131072 := Nat.or_lt_two_pow (n := 17) hz (Nat.pow_lt_pow_right (by decide) (by omega))
                  have hor := tb_or32 (b := j + 1) hz (by omega)
                  clear hSa
                  go_wp2_with (go_at_call 19; refine (CAP.out _ _ (i + 1) (j + 1) (by go_num) (by go_num)).mono ?_; rintro e w' ⟨rfl, rfl⟩)
                  go_round
                  case rel => exact ⟨j + 1, _, by omega, by go_num, rfl, hz2, HZ2⟩
                  case measure => simp [intOf]; omega
                · have HZ2 : Hid (z = reachR C (i + 1) (j + 1) y) := by
                    show z = _
                    rw [reachR_succ, ← HZ.out, reachS, hSa, decide_eq_false hc]; simp
                  clear hSa
                  go_wp2_with (go_at_call 19; refine (CAP.out _ _ (i + 1) (j + 1) (by go_num) (by go_num)).mono ?_; rintro e w' ⟨rfl, rfl⟩)
                  go_round
                  case rel => exact ⟨j + 1, z, by omega, by go_num, rfl, hz, HZ2⟩
                  case measure => simp [intOf]; omega
            · have hj1 : ¬ ((j : Int) + 1) < 17 := by omega
              obtain rfl : j = 16 := by omega
              have HY2 : Hid (z = reachT C (i + 1) x) := by
                show z = _
                rw [reachT_succ, ← HY.out, HZ.out]
              go_wp2
              go_round
              case rel => exact ⟨i + 1, z, by omega, by go_num, rfl, hz, HY2⟩
              case measure => simp [intOf]; omega
        · have hi1 : ¬ ((i : Int) + 1) < 17 := by omega
          obtain rfl : i = 16 := by omega
          have HX2 : Hid (y = reachN C (k + 1) (2 ^ s)) := by
            show y = _
            rw [HY.out, HX.out]; rfl
          go_wp2
          go_round
          case rel => exact ⟨k + 1, y, by omega, by go_num, rfl, hy, HX2⟩
          case measure => simp [intOf]; omega
    · obtain rfl : k = 16 := by omega
      have HF : Hid (x = R) := HX.out.trans HR.out.symm
      go_wp2
      go_ret
      exact ⟨by rw [HF.out]; rfl, rfl⟩
end Go.Proofs.Ytfpdkeokdojejaa
