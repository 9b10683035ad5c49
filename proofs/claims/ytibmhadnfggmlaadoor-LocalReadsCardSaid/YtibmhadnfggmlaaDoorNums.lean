/- Bits of small numbers, in Nat. -/
import Derived.Test.YtibmhadnfggmlaaDoorBase
namespace Go.Proofs.YtibmhadnfggmlaaDoor
open Go.RowKit

theorem ofInt_nat (n a : Nat) (h : a < 2 ^ n) : (BitVec.ofInt n (a : Int)).toNat = a := by
  rw [BitVec.ofInt_natCast, BitVec.toNat_ofNat]; exact Nat.mod_eq_of_lt h
theorem wrap_u32_nat (a : Nat) (h : a < 4294967296) : IntKind.u32.wrap (a : Int) = (a : Int) := by rw [IntKind.wrap_u32]; omega
theorem wrap_u8_nat (a : Nat) (h : a < 256) : IntKind.u8.wrap (a : Int) = (a : Int) := by rw [IntKind.wrap_u8]; omega
theorem and_u32 (a b : Nat) (ha : a < 4294967296) (hb : b < 4294967296) : bits .and .u32 (a : Int) (b : Int) = ((a &&& b : Nat) : Int) := by
  show IntKind.u32.wrap ((BitVec.ofInt 32 (a : Int) &&& BitVec.ofInt 32 (b : Int)).toNat : Int) = _
  rw [BitVec.toNat_and, ofInt_nat 32 a ha, ofInt_nat 32 b hb]
  exact wrap_u32_nat _ (Nat.and_lt_two_pow a (n := 32) hb)
theorem xor_u32 (a b : Nat) (ha : a < 4294967296) (hb : b < 4294967296) : bits .xor .u32 (a : Int) (b : Int) = ((a ^^^ b : Nat) : Int) := by
  show IntKind.u32.wrap ((BitVec.ofInt 32 (a : Int) ^^^ BitVec.ofInt 32 (b : Int)).toNat : Int) = _
  rw [BitVec.toNat_xor, ofInt_nat 32 a ha, ofInt_nat 32 b hb]
  exact wrap_u32_nat _ (Nat.xor_lt_two_pow (n := 32) ha hb)
theorem or_u32 (a b : Nat) (ha : a < 4294967296) (hb : b < 4294967296) : bits .or .u32 (a : Int) (b : Int) = ((a ||| b : Nat) : Int) := by
  show IntKind.u32.wrap ((BitVec.ofInt 32 (a : Int) ||| BitVec.ofInt 32 (b : Int)).toNat : Int) = _
  rw [BitVec.toNat_or, ofInt_nat 32 a ha, ofInt_nat 32 b hb]
  exact wrap_u32_nat _ (Nat.or_lt_two_pow (n := 32) ha hb)
theorem xor_u8 (a b : Nat) (ha : a < 256) (hb : b < 256) : bits .xor .u8 (a : Int) (b : Int) = ((a ^^^ b : Nat) : Int) := by
  show IntKind.u8.wrap ((BitVec.ofInt 8 (a : Int) ^^^ BitVec.ofInt 8 (b : Int)).toNat : Int) = _
  rw [BitVec.toNat_xor, ofInt_nat 8 a ha, ofInt_nat 8 b hb]
  exact wrap_u8_nat _ (Nat.xor_lt_two_pow (n := 8) ha hb)
theorem mask_u32 (t f k : Nat) (ht : t < 4294967296) (hk : k ≤ 7) : bits .and .u32 ((t : Int) / 2 ^ f) ((2 ^ k - 1) % 4294967296) = ((t / 2 ^ f % 2 ^ k : Nat) : Int) := by
  have h1 : (1 : Nat) ≤ 2 ^ k := Nat.one_le_two_pow
  have h2 : (2 : Nat) ^ k ≤ 2 ^ 7 := Nat.pow_le_pow_right (by omega) hk
  have e1 : ((t : Int) / 2 ^ f) = ((t / 2 ^ f : Nat) : Int) := by simp
  have e2 : (((2 : Int) ^ k - 1) % 4294967296) = ((2 ^ k - 1 : Nat) : Int) := by
    have : ((2 : Int) ^ k) = ((2 ^ k : Nat) : Int) := by simp
    rw [this]; omega
  rw [e1, e2, and_u32 _ _ (Nat.lt_of_le_of_lt (Nat.div_le_self _ _) ht) (by omega), Nat.and_two_pow_sub_one_eq_mod]
theorem wrap64_nat (a : Nat) (h : a < 9223372036854775808) : wrap64 (a : Int) = (a : Int) := by unfold wrap64; omega
end Go.Proofs.YtibmhadnfggmlaaDoor
