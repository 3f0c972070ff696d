/- Plain laws of bits: words stay words. -/
import Derived.Test.YtdohklfimhkicaaDoorPq
set_option linter.unusedVariables false
set_option maxRecDepth 100000
namespace Go.Proofs.YtdohklfimhkicaaDoor.X
theorem wrap_toInt (v : BitVec 64) : IntKind.wrap .i64 (v.toNat : Int) = v.toInt := by
  have h := v.isLt
  have e : IntKind.wrap .i64 (v.toNat : Int) = w64 (v.toNat : Int) := rfl
  rw [e, w64_eq, BitVec.toInt_eq_toNat_cond]
  generalize v.toNat = n at h ⊢
  have h64 : (2 : Nat) ^ 64 = 18446744073709551616 := rfl
  rw [h64] at h ⊢
  split <;> split <;> omega
/-- A word: 32 bits with a sign. -/
def Wd (x : Int) : Prop := -2147483648 ≤ x ∧ x ≤ 2147483647
theorem ofInt_toInt {x : Int} (h : Wd x) : (BitVec.ofInt 64 x).toInt = x := by
  obtain ⟨h1, h2⟩ := h
  rw [BitVec.toInt_ofInt]
  have h64 : (2 : Nat) ^ 64 = 18446744073709551616 := rfl
  rw [h64, Int.bmod_def]
  split <;> omega
theorem shr_cases {v : BitVec 64} (h : Wd v.toInt) : v.sshiftRight 31 = 0#64 ∨ v.sshiftRight 31 = BitVec.allOnes 64 := by
  obtain ⟨h1, h2⟩ := h
  have e : (v.sshiftRight 31).toInt = v.toInt / 2147483648 := by
    rw [BitVec.toInt_sshiftRight, Int.shiftRight_eq_div_pow]
    rfl
  rcases (by omega : v.toInt / 2147483648 = 0 ∨ v.toInt / 2147483648 = -1) with h | h
  · left
    apply BitVec.eq_of_toInt_eq
    rw [e, h]
    rfl
  · right
    apply BitVec.eq_of_toInt_eq
    rw [e, h]
    rfl
theorem wd_of_shr {v : BitVec 64} (h : v.sshiftRight 31 = 0#64 ∨ v.sshiftRight 31 = BitVec.allOnes 64) : Wd v.toInt := by
  have e : (v.sshiftRight 31).toInt = v.toInt / 2147483648 := by
    rw [BitVec.toInt_sshiftRight, Int.shiftRight_eq_div_pow]
    rfl
  unfold Wd
  rcases h with h | h
  · rw [h] at e
    have : (0#64).toInt = 0 := rfl
    omega
  · rw [h] at e
    have : (BitVec.allOnes 64).toInt = -1 := rfl
    omega
theorem wd_and {a b : Int} (ha : Wd a) (hb : Wd b) : Wd (bitsI .and .i64 a b) := by
  show Wd (IntKind.wrap .i64 ((BitVec.ofInt 64 a &&& BitVec.ofInt 64 b).toNat : Int))
  rw [wrap_toInt]
  have h1 := shr_cases (v := BitVec.ofInt 64 a) (by rw [ofInt_toInt ha]; exact ha)
  have h2 := shr_cases (v := BitVec.ofInt 64 b) (by rw [ofInt_toInt hb]; exact hb)
  refine wd_of_shr ?_
  rw [BitVec.sshiftRight_and_distrib]
  rcases h1 with h1 | h1 <;> rcases h2 with h2 | h2 <;> rw [h1, h2] <;> first | exact .inl rfl | exact .inr rfl
theorem wd_or {a b : Int} (ha : Wd a) (hb : Wd b) : Wd (bitsI .or .i64 a b) := by
  show Wd (IntKind.wrap .i64 ((BitVec.ofInt 64 a ||| BitVec.ofInt 64 b).toNat : Int))
  rw [wrap_toInt]
  have h1 := shr_cases (v := BitVec.ofInt 64 a) (by rw [ofInt_toInt ha]; exact ha)
  have h2 := shr_cases (v := BitVec.ofInt 64 b) (by rw [ofInt_toInt hb]; exact hb)
  refine wd_of_shr ?_
  rw [BitVec.sshiftRight_or_distrib]
  rcases h1 with h1 | h1 <;> rcases h2 with h2 | h2 <;> rw [h1, h2] <;> first | exact .inl rfl | exact .inr rfl
theorem wd_xor {a b : Int} (ha : Wd a) (hb : Wd b) : Wd (bitsI .xor .i64 a b) := by
  show Wd (IntKind.wrap .i64 ((BitVec.ofInt 64 a ^^^ BitVec.ofInt 64 b).toNat : Int))
  rw [wrap_toInt]
  have h1 := shr_cases (v := BitVec.ofInt 64 a) (by rw [ofInt_toInt ha]; exact ha)
  have h2 := shr_cases (v := BitVec.ofInt 64 b) (by rw [ofInt_toInt hb]; exact hb)
  refine wd_of_shr ?_
  rw [BitVec.sshiftRight_xor_distrib]
  rcases h1 with h1 | h1 <;> rcases h2 with h2 | h2 <;> rw [h1, h2] <;> first | exact .inl rfl | exact .inr rfl
/-- And with a mask, of any number. -/
theorem mask_int (y : Int) (k : Nat) (hk : k ≤ 62) : bitsI .and .i64 y (((2 ^ k : Nat) : Int) - 1) = y % ((2 ^ k : Nat) : Int) := by
  have hp := Nat.two_pow_pos k
  have hk2 : 2 ^ k ≤ 2 ^ 62 := Nat.pow_le_pow_right (by omega) hk
  have h62 : (2 : Nat) ^ 62 = 4611686018427387904 := rfl
  rw [h62] at hk2
  have hd : ((2 ^ k : Nat) : Int) ∣ 18446744073709551616 := by
    have h := Int.natCast_dvd_natCast.2 (Nat.pow_dvd_pow 2 (show k ≤ 64 by omega))
    rw [show ((2 ^ 64 : Nat) : Int) = 18446744073709551616 from rfl] at h
    exact h
  show IntKind.wrap .i64 ((BitVec.ofInt 64 y &&& BitVec.ofInt 64 _).toNat : Int) = _
  have e : (BitVec.ofInt 64 y &&& BitVec.ofInt 64 (((2 ^ k : Nat) : Int) - 1)).toNat = (y % 18446744073709551616).toNat % 2 ^ k := by
    rw [BitVec.toNat_and, show ((2 ^ k : Nat) : Int) - 1 = ((2 ^ k - 1 : Nat) : Int) by omega, ofInt_nat (by omega), BitVec.toNat_ofInt, Nat.and_two_pow_sub_one_eq_mod]
    rfl
  rw [e]
  have h1 : ((((y % 18446744073709551616).toNat % 2 ^ k : Nat)) : Int) = y % ((2 ^ k : Nat) : Int) := by
    rw [Int.natCast_emod, Int.toNat_of_nonneg (by omega), Int.emod_emod_of_dvd _ hd]
  have h2 : (y % 18446744073709551616).toNat % 2 ^ k < 2 ^ k := Nat.mod_lt _ hp
  rw [wrap64_nat (by omega), h1]
theorem and31 (y : Int) : bitsI .and .i64 y 31 = y % 32 := mask_int y 5 (by omega)
theorem and1 (y : Int) : bitsI .and .i64 y 1 = y % 2 := mask_int y 1 (by omega)
theorem and_not_bv (x m : BitVec 64) : x &&& ~~~m = x - (x &&& m) := by
  have h1 : (x &&& ~~~m) + (x &&& m) = x := by
    rw [BitVec.add_eq_or_of_and_eq_zero]
    · ext i hi
      simp only [BitVec.getElem_or, BitVec.getElem_and, BitVec.getElem_not]
      cases x[i] <;> cases m[i] <;> rfl
    · ext i hi
      simp only [BitVec.getElem_and, BitVec.getElem_not]
      cases x[i] <;> cases m[i] <;> simp
  conv => rhs; lhs; rw [← h1]
  rw [BitVec.add_sub_cancel]
theorem andNot1 {y : Int} (h : Wd y) : bitsI .andNot .i64 y 1 = y - y % 2 := by
  obtain ⟨h1, h2⟩ := h
  have e := and1 y
  have e' : (BitVec.ofInt 64 y &&& BitVec.ofInt 64 1).toInt = y % 2 := by
    rw [← e]
    exact (wrap_toInt _).symm
  show IntKind.wrap .i64 ((BitVec.ofInt 64 y &&& ~~~(BitVec.ofInt 64 1)).toNat : Int) = _
  rw [wrap_toInt, and_not_bv, BitVec.toInt_sub, e', ofInt_toInt ⟨h1, h2⟩]
  have h64 : (2 : Nat) ^ 64 = 18446744073709551616 := rfl
  rw [h64, Int.bmod_def]
  split <;> omega
theorem wd_shr {a : Int} (h : Wd a) (s : Nat) : Wd (a.fdiv (2 ^ s)) := by
  obtain ⟨h1, h2⟩ := h
  have hp : 0 < ((2 : Int) ^ s) := by
    rw [show ((2 : Int) ^ s) = ((2 ^ s : Nat) : Int) by simp]
    have := Nat.two_pow_pos s
    omega
  rw [Int.fdiv_eq_ediv_of_nonneg _ (by omega)]
  generalize (2 : Int) ^ s = p at hp
  refine ⟨?_, ?_⟩
  · rw [Int.le_ediv_iff_mul_le hp]
    have : (-2147483648) * p ≤ (-2147483648) * 1 := Int.mul_le_mul_of_nonpos_left (by omega) (by omega)
    omega
  · rcases Int.lt_or_le a 0 with h | h
    · have := Int.ediv_neg_of_neg_of_pos h hp
      omega
    · have := Int.ediv_le_self (b := p) h
      omega
theorem wd_rem {a b : Int} (h : Wd a) : Wd (a.tmod b) := by
  obtain ⟨h1, h2⟩ := h
  rcases Int.lt_or_le a 0 with h | h
  · have e := Int.neg_tmod (-a) b
    rw [Int.neg_neg] at e
    have k1 := Int.tmod_nonneg b (show 0 ≤ -a by omega)
    have k2 : (-a).tmod b ≤ -a := by
      have := Int.natAbs_tmod (-a) b
      have := Nat.mod_le (-a).natAbs b.natAbs
      omega
    unfold Wd
    omega
  · have k1 := Int.tmod_nonneg b h
    have k2 : a.tmod b ≤ a := by
      have := Int.natAbs_tmod a b
      have := Nat.mod_le a.natAbs b.natAbs
      omega
    unfold Wd
    omega
end Go.Proofs.YtdohklfimhkicaaDoor.X
