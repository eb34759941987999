/-
  Bits of a number of 32 bits, one struck and one set.
-/
import Derived.Test.YtfpdkeokdojejaaReached
namespace Go.Proofs.Ytfpdkeokdojejaa
open Go.RowKit Pl

theorem bits_strike {m t : Nat} (_ : m < 4294967296) (ht : t ≤ 16) : ∃ x : Nat, x < 4294967296 ∧ bits .andNot .u32 (m : Int) ((2 : Int) ^ t % 4294967296) = (x : Int) ∧ x.testBit t = false := by
  rw [pow_mod32 ht]
  refine ⟨(BitVec.ofNat 32 m &&& ~~~ BitVec.ofNat 32 (2 ^ t)).toNat, (BitVec.ofNat 32 m &&& ~~~ BitVec.ofNat 32 (2 ^ t)).isLt, ?_, ?_⟩
  · simp only [bits, BitVec.ofInt_natCast]
    exact wraps_u32 _ (Int.natCast_nonneg _) (by exact_mod_cast (BitVec.ofNat 32 m &&& ~~~ BitVec.ofNat 32 (2 ^ t)).isLt)
  · rw [BitVec.testBit_toNat, BitVec.getLsbD_and, BitVec.getLsbD_not, BitVec.getLsbD_ofNat, BitVec.getLsbD_ofNat, Nat.testBit_two_pow]
    simp

theorem bits_in {m s t : Nat} (hm : m < 4294967296) (hs : s ≤ 16) (ht : t ≤ 16) (hne : s ≠ t) : ∃ r : Nat, r < 4294967296 ∧
    bits .or .u32 (bits .andNot .u32 (m : Int) ((2 : Int) ^ t % 4294967296)) ((2 : Int) ^ s % 4294967296) = (r : Int) ∧ r.testBit s = true ∧ r.testBit t = false := by
  obtain ⟨x, hx, e, hb⟩ := bits_strike hm ht
  refine ⟨x ||| 2 ^ s, Nat.or_lt_two_pow (n := 32) hx (Nat.pow_lt_pow_right (by decide) (by omega)), ?_, ?_, ?_⟩
  · rw [e, pow_mod32 hs]
    exact (bits_nat .u32 32 (by decide) wraps_u32 x (2 ^ s) hx (Nat.pow_lt_pow_right (by decide) (by omega))).2
  · rw [tb_or]; simp
  · rw [tb_or, hb]; simp [hne]
end Go.Proofs.Ytfpdkeokdojejaa
