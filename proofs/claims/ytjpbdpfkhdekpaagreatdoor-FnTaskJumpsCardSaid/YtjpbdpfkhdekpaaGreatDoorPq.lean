/- Plain laws of bits: and with a mask, or of numbers that lie apart, words. -/
import Derived.Test.YtjpbdpfkhdekpaaGreatDoorP0
import Derived.Test.YtjpbdpfkhdekpaaGreatDoorZ3
set_option linter.unusedVariables false
namespace Go.Proofs.YtjpbdpfkhdekpaaGreatDoor.X
theorem wrap64_nat {n : Nat} (h : n < 9223372036854775808) : IntKind.wrap .i64 (n : Int) = n := by
  have := w64_id (x := (n : Int)) (by omega) (by omega)
  exact this
theorem ofInt_nat {n : Nat} (h : n < 18446744073709551616) : (BitVec.ofInt 64 (n : Int)).toNat = n := by
  simp only [BitVec.ofInt_natCast, BitVec.toNat_ofNat]
  exact Nat.mod_eq_of_lt h
theorem and_nat {a b : Nat} (ha : a < 9223372036854775808) (hb : b < 9223372036854775808) : bitsI .and .i64 (a : Int) (b : Int) = ((a &&& b : Nat) : Int) := by
  show IntKind.wrap .i64 ((BitVec.ofInt 64 (a : Int) &&& BitVec.ofInt 64 (b : Int)).toNat : Int) = _
  rw [BitVec.toNat_and, ofInt_nat (by omega), ofInt_nat (by omega)]
  exact wrap64_nat (Nat.lt_of_le_of_lt Nat.and_le_left ha)
theorem or_nat {a b : Nat} (ha : a < 9223372036854775808) (hb : b < 9223372036854775808) : bitsI .or .i64 (a : Int) (b : Int) = ((a ||| b : Nat) : Int) := by
  show IntKind.wrap .i64 ((BitVec.ofInt 64 (a : Int) ||| BitVec.ofInt 64 (b : Int)).toNat : Int) = _
  rw [BitVec.toNat_or, ofInt_nat (by omega), ofInt_nat (by omega)]
  exact wrap64_nat (Nat.or_lt_two_pow (n := 63) ha hb)
theorem mask_nat {a k : Nat} (ha : a < 9223372036854775808) (hk : k ≤ 62) : bitsI .and .i64 (a : Int) (((2 ^ k : Nat) : Int) - 1) = ((a % 2 ^ k : Nat) : Int) := by
  have h1 : 2 ^ k ≤ 2 ^ 62 := Nat.pow_le_pow_right (by omega) hk
  have h2 : 0 < 2 ^ k := Nat.two_pow_pos k
  have h3 : (2 : Nat) ^ 62 = 4611686018427387904 := by decide
  rw [show (((2 ^ k : Nat) : Int) - 1) = ((2 ^ k - 1 : Nat) : Int) by omega, and_nat ha (by omega), Nat.and_two_pow_sub_one_eq_mod]
/-- Numbers that lie apart: their sum is their or. -/
theorem add_or {i x y : Nat} (h : y < 2 ^ i) : 2 ^ i * x + y = 2 ^ i * x ||| y := (Nat.two_pow_add_eq_or_of_lt h x)
theorem shl_nat {x k : Nat} (hk : k ≤ 62) (hx : x * 2 ^ k < 9223372036854775808) : shO .shl .i64 (x : Int) (k : Int) = some ((x * 2 ^ k : Nat) : Int) := by
  unfold shO
  rw [if_neg (by omega)]
  have hm : min ((k : Int).toNat) (IntKind.bits .i64) = k := by
    have : IntKind.bits .i64 = 64 := rfl
    rw [this]; omega
  simp only [hm]
  congr 1
  show w64 _ = _
  have : (x : Int) * 2 ^ k = ((x * 2 ^ k : Nat) : Int) := by simp
  rw [this]
  exact w64_id (by omega) (by omega)
theorem shr_nat {x k : Nat} (hk : k ≤ 62) : shO .shr .i64 (x : Int) (k : Int) = some ((x / 2 ^ k : Nat) : Int) := by
  unfold shO
  rw [if_neg (by omega)]
  have hm : min ((k : Int).toNat) (IntKind.bits .i64) = k := by
    have : IntKind.bits .i64 = 64 := rfl
    rw [this]; omega
  simp only [hm]
  congr 1
  rw [show ((2 : Int) ^ k) = ((2 ^ k : Nat) : Int) by simp, Int.fdiv_eq_ediv_of_nonneg _ (Int.natCast_nonneg _)]
  rfl
end Go.Proofs.YtjpbdpfkhdekpaaGreatDoor.X
