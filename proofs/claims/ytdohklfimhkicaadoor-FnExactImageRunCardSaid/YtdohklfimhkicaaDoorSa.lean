/- The decoding of words: the fields of each kind. -/
import Derived.Test.YtdohklfimhkicaaDoorS7
set_option linter.unusedVariables false
set_option maxRecDepth 100000
set_option maxHeartbeats 4000000
namespace Go.Proofs.YtdohklfimhkicaaDoor.N
open Go.Proofs.YtdohklfimhkicaaDoor.X
/-- A number of n bits, read with its sign. -/
def sx (v n : Nat) : Int := bif Nat.ble (2 ^ (n - 1)) v then (v : Int) - ((2 ^ n : Nat) : Int) else v
theorem sx_bd {v n : Nat} (hn : 1 ≤ n) (hv : v < 2 ^ n) : -((2 ^ (n - 1) : Nat) : Int) ≤ sx v n ∧ sx v n < ((2 ^ (n - 1) : Nat) : Int) := by
  unfold sx
  have h2 : 2 ^ n = 2 * 2 ^ (n - 1) := by rw [← Nat.pow_succ']; congr 1; omega
  rw [h2] at hv ⊢
  generalize 2 ^ (n - 1) = p at hv ⊢
  cases hb : Nat.ble p v with
  | true =>
    have := Nat.le_of_ble_eq_true hb
    simp only [cond_true]
    omega
  | false =>
    have : ¬ p ≤ v := fun h => by rw [Nat.ble_eq_true_of_le h] at hb; cases hb
    simp only [cond_false]
    omega
theorem sx_ev (m n : Nat) (hn : 1 ≤ n) : ∃ q : Int, sx (2 * m) n = 2 * q := by
  unfold sx
  rw [show 2 ^ n = 2 * 2 ^ (n - 1) by rw [← Nat.pow_succ']; congr 1; omega]
  generalize 2 ^ (n - 1) = p
  cases Nat.ble p (2 * m)
  · exact ⟨m, by simp only [cond_false]; omega⟩
  · exact ⟨m - p, by simp only [cond_true]; omega⟩
theorem ble_int (p v : Nat) : decide ((v : Int) ≥ (p : Int)) = Nat.ble p v := by
  rw [Bool.eq_iff_iff]
  simp only [decide_eq_true_eq, Nat.ble_eq]
  omega
theorem ssx_ok (v n : Nat) (h1 : 1 ≤ n) (h2 : n ≤ 31) (hv : v < 2 ^ n) : spec_SignExtend (v : Int) (n : Int) = some (sx v n) := by
  have hp : 2 ^ n ≤ 2 ^ 31 := Nat.pow_le_pow_right (by omega) h2
  have h3 : (2 : Nat) ^ 31 = 2147483648 := by decide
  rw [h3] at hp
  have q1 : spec_l1Power (w64 ((n : Int) - 1)) = some ((2 ^ (n - 1) : Nat) : Int) := by
    rw [w64_id (by omega) (by omega), show (n : Int) - 1 = ((n - 1 : Nat) : Int) by omega]
    exact pow_ok (n - 1) (by omega)
  have q2 := pow_ok n (by omega)
  have hb : Nat.ble (2 ^ (n - 1)) v = Nat.ble (2 ^ (n - 1)) v := rfl
  unfold spec_SignExtend sx spec_l6In
  generalize 2 ^ n = N at q2 hv hp ⊢
  generalize 2 ^ (n - 1) = M at q1 ⊢
  have e1 : (decide ((n : Int) ≥ 1) && decide ((n : Int) ≤ 32)) = true := by rw [decide_eq_true (by omega), decide_eq_true (by omega)]; rfl
  have e2 : (decide ((v : Int) ≥ 0) && decide ((v : Int) ≤ (w64 ((N : Int) - 1)))) = true := by rw [w64_id (by omega) (by omega), decide_eq_true (by omega), decide_eq_true (by omega)]; rfl
  refine bind_to (congrArg some e1) (bind_to (y := false) ?_ ?_)
  · refine sel_to rfl (bind_to q2 ?_)
    rw [e2]
    rfl
  · refine sel_to rfl (bind_to q1 ?_)
    rw [ble_int]
    cases Nat.ble M v
    · rfl
    · refine sel_tt rfl (bind_to q2 ?_)
      rw [w64_id (by omega) (by omega)]
      rfl
theorem isx_ok (v n : Nat) (h1 : 1 ≤ n) (h2 : n ≤ 31) (hv : v < 2 ^ n) : impl_SignExtend (v : Int) (n : Int) = some (sx v n) := by
  have hp : 2 ^ n ≤ 2 ^ 31 := Nat.pow_le_pow_right (by omega) h2
  have h3 : (2 : Nat) ^ 31 = 2147483648 := by decide
  rw [h3] at hp
  have hp' : 2 ^ (n - 1) ≤ 2 ^ n := Nat.pow_le_pow_right (by omega) (by omega)
  have q2 : shO .shl .i64 ((1 : Nat) : Int) (n : Int) = _ := shl_nat (x := 1) (k := n) (by omega) (by omega)
  have q1 : shO .shl .i64 ((1 : Nat) : Int) (w64 ((n : Int) - 1)) = some ((2 ^ (n - 1) : Nat) : Int) := by
    rw [w64_id (by omega) (by omega), show (n : Int) - 1 = ((n - 1 : Nat) : Int) by omega]
    have := shl_nat (x := 1) (k := n - 1) (by omega) (by omega)
    rw [Nat.one_mul] at this
    exact this
  rw [Nat.one_mul] at q2
  unfold impl_SignExtend sx
  generalize 2 ^ n = N at q2 hv hp ⊢
  generalize 2 ^ (n - 1) = M at q1 ⊢
  have e1 : (decide ((n : Int) < 1) || decide ((n : Int) > 32) || decide ((v : Int) < 0)) = false := by rw [decide_eq_false (by omega), decide_eq_false (by omega), decide_eq_false (by omega)]; rfl
  rw [e1]
  refine bind_to (y := false) ?_ ?_
  · refine sel_to rfl (bind_to q2 ?_)
    rw [decide_eq_false (by omega)]
  · refine sel_to rfl (bind_to q1 ?_)
    rw [ble_int]
    cases Nat.ble M v
    · rfl
    · refine sel_tt rfl (bind_to q2 ?_)
      rw [w64_id (by omega) (by omega)]
      rfl
/-- What a decoded instruction is. -/
def Good (i : Nat) (x : Instr) : Prop := x.Op = (i : Int) + 1 ∧ (0 ≤ x.Rd ∧ x.Rd ≤ 31) ∧ (0 ≤ x.Rs ∧ x.Rs ≤ 31) ∧ (0 ≤ x.Rt ∧ x.Rt ≤ 31) ∧ (-1048576 ≤ x.Imm ∧ x.Imm ≤ 1048575)
/-- The fields, read alike; a valid instruction; encoded alike. -/
def Flds (i : Nat) (u : Nat) : Prop := ∃ x, spec_l42Fields ((i : Int) + 1) (u : Int) = some x ∧ impl_decodeAs ((i : Int) + 1) (u : Int) = some x ∧ Good i x ∧ impl_InstrValid x = some true ∧ Enc x
theorem lt5 (x : Nat) : 0 ≤ ((x % 2 ^ 5 : Nat) : Int) ∧ ((x % 2 ^ 5 : Nat) : Int) ≤ 31 := by
  have : x % 2 ^ 5 < 2 ^ 5 := Nat.mod_lt _ (by decide)
  have h : (2 : Nat) ^ 5 = 32 := by decide
  omega
theorem reg_ok {x : Int} (h : 0 ≤ x ∧ x ≤ 31) : impl_isMachineReg x = some true := by
  unfold impl_isMachineReg
  rw [decide_eq_true (by omega), decide_eq_true (by omega)]
  rfl
theorem z31 : (0 : Int) ≤ 0 ∧ (0 : Int) ≤ 31 := by decide
theorem zim : (-1048576 : Int) ≤ 0 ∧ (0 : Int) ≤ 1048575 := by decide
theorem r0 : impl_isMachineReg 0 = some true := rfl
theorem flds_R (u i : Nat) (hu : u < 4294967296) (hi : i < 11) : Flds i u := by
  have s1 := sbits_ok u 7 5 hu (by omega) (by omega) (by omega)
  have s2 := sbits_ok u 15 5 hu (by omega) (by omega) (by omega)
  have s3 := sbits_ok u 20 5 hu (by omega) (by omega) (by omega)
  have b1 := ibits_ok u 7 5 hu (by omega) (by omega) (by omega)
  have b2 := ibits_ok u 15 5 hu (by omega) (by omega) (by omega)
  have b3 := ibits_ok u 20 5 hu (by omega) (by omega) (by omega)
  have l1 := lt5 (u / 2 ^ 7)
  have l2 := lt5 (u / 2 ^ 15)
  have l3 := lt5 (u / 2 ^ 20)
  generalize u / 2 ^ 7 % 2 ^ 5 = rd at s1 b1 l1
  generalize u / 2 ^ 15 % 2 ^ 5 = rs at s2 b2 l2
  generalize u / 2 ^ 20 % 2 ^ 5 = rt at s3 b3 l3
  refine ⟨⟨(i : Int) + 1, rd, rs, rt, 0⟩, ?_, ?_, ⟨rfl, l1, l2, l3, zim⟩, ?_, enc_R (by omega) l1 l2 l3⟩
  · unfold spec_l42Fields
    exact bind_to s1 (bind_to s2 (bind_to s3 (sel_tt (decide_eq_true (by omega)) rfl)))
  · unfold impl_decodeAs
    exact bind_to b1 (bind_to b2 (bind_to b3 (bind_to (fmt_R (by omega)) (sel_tt rfl rfl))))
  · unfold impl_InstrValid
    exact bind_to (reg_ok l1) (bind_to (reg_ok l2) (bind_to (reg_ok l3) (bind_to (fmt_R (by show 1 ≤ (i : Int) + 1 ∧ (i : Int) + 1 ≤ 11; omega)) (sel_tt rfl rfl))))
theorem flds_I (u i : Nat) (hu : u < 4294967296) (hi : 11 ≤ i) (hi2 : i < 15) : Flds i u := by
  have s1 := sbits_ok u 7 5 hu (by omega) (by omega) (by omega)
  have s2 := sbits_ok u 15 5 hu (by omega) (by omega) (by omega)
  have s3 := sbits_ok u 20 5 hu (by omega) (by omega) (by omega)
  have s4 := sbits_ok u 20 12 hu (by omega) (by omega) (by omega)
  have b1 := ibits_ok u 7 5 hu (by omega) (by omega) (by omega)
  have b2 := ibits_ok u 15 5 hu (by omega) (by omega) (by omega)
  have b3 := ibits_ok u 20 5 hu (by omega) (by omega) (by omega)
  have b4 := ibits_ok u 20 12 hu (by omega) (by omega) (by omega)
  have l1 := lt5 (u / 2 ^ 7)
  have l2 := lt5 (u / 2 ^ 15)
  have l4 : u / 2 ^ 20 % 2 ^ 12 < 2 ^ 12 := Nat.mod_lt _ (by decide)
  generalize u / 2 ^ 7 % 2 ^ 5 = rd at s1 b1 l1
  generalize u / 2 ^ 15 % 2 ^ 5 = rs at s2 b2 l2
  generalize u / 2 ^ 20 % 2 ^ 5 = rt at s3 b3
  generalize u / 2 ^ 20 % 2 ^ 12 = im at s4 b4 l4
  have x1 := ssx_ok im 12 (by omega) (by omega) l4
  have x2 := isx_ok im 12 (by omega) (by omega) l4
  have x3 := sx_bd (n := 12) (by omega) l4
  rw [show ((2 ^ (12 - 1) : Nat) : Int) = 2048 by decide] at x3
  generalize sx im 12 = m at x1 x2 x3
  refine ⟨⟨(i : Int) + 1, rd, rs, 0, m⟩, ?_, ?_, ⟨rfl, l1, l2, z31, ⟨by show -1048576 ≤ m; omega, by show m ≤ 1048575; omega⟩⟩, ?_, enc_I (by omega) l1 l2 (by omega)⟩
  · unfold spec_l42Fields
    exact bind_to s1 (bind_to s2 (bind_to s3 (sel_to (decide_eq_false (by omega)) (sel_tt (decide_eq_true (by omega)) (bind_to s4 (bind_to x1 rfl))))))
  · unfold impl_decodeAs
    exact bind_to b1 (bind_to b2 (bind_to b3 (bind_to (fmt_I (by omega)) (sel_to rfl (sel_tt rfl (bind_to b4 (bind_to x2 rfl)))))))
  · unfold impl_InstrValid
    refine bind_to (reg_ok l1) (bind_to (reg_ok l2) (bind_to r0 (bind_to (fmt_I (by show 12 ≤ (i : Int) + 1 ∧ (i : Int) + 1 ≤ 15; omega)) (sel_to rfl (sel_tt rfl ?_)))))
    simp only
    rw [decide_eq_true (by omega), decide_eq_true (by omega)]
    rfl
theorem flds_S (u : Nat) (hu : u < 4294967296) : Flds 15 u := by
  have s1 := sbits_ok u 7 5 hu (by omega) (by omega) (by omega)
  have s2 := sbits_ok u 15 5 hu (by omega) (by omega) (by omega)
  have s3 := sbits_ok u 20 5 hu (by omega) (by omega) (by omega)
  have s4 := sbits_ok u 25 7 hu (by omega) (by omega) (by omega)
  have b1 := ibits_ok u 7 5 hu (by omega) (by omega) (by omega)
  have b2 := ibits_ok u 15 5 hu (by omega) (by omega) (by omega)
  have b3 := ibits_ok u 20 5 hu (by omega) (by omega) (by omega)
  have b4 := ibits_ok u 25 7 hu (by omega) (by omega) (by omega)
  have l1 : u / 2 ^ 7 % 2 ^ 5 < 32 := Nat.mod_lt _ (by decide)
  have l2 := lt5 (u / 2 ^ 15)
  have l3 := lt5 (u / 2 ^ 20)
  have l4 : u / 2 ^ 25 % 2 ^ 7 < 128 := Nat.mod_lt _ (by decide)
  generalize u / 2 ^ 7 % 2 ^ 5 = rd at s1 b1 l1
  generalize u / 2 ^ 15 % 2 ^ 5 = rs at s2 b2 l2
  generalize u / 2 ^ 20 % 2 ^ 5 = rt at s3 b3 l3
  generalize u / 2 ^ 25 % 2 ^ 7 = hi at s4 b4 l4
  have l5 : hi * 32 + rd < 2 ^ 12 := by have : (2 : Nat) ^ 12 = 4096 := by decide
                                        omega
  have x1 := ssx_ok (hi * 32 + rd) 12 (by omega) (by omega) l5
  have x2 := isx_ok (hi * 32 + rd) 12 (by omega) (by omega) l5
  have x3 := sx_bd (n := 12) (by omega) l5
  rw [show ((2 ^ (12 - 1) : Nat) : Int) = 2048 by decide] at x3
  have e1 : w64 (w64 ((hi : Int) * 32) + (rd : Int)) = ((hi * 32 + rd : Nat) : Int) := by rw [w64_id (x := (hi : Int) * 32) (by omega) (by omega), w64_id (by omega) (by omega)]; omega
  have e2 : bitsI .or .i64 (w64 ((hi : Int) * 2 ^ (min 5 (IntKind.bits .i64)))) (rd : Int) = ((hi * 32 + rd : Nat) : Int) := by
    rw [show w64 ((hi : Int) * 2 ^ (min 5 (IntKind.bits .i64))) = ((hi * 2 ^ 5 : Nat) : Int) from shl_lit (k := 5) (by omega), or_n (by omega) (by omega)]
    have := add_or (i := 5) (x := hi) (y := rd) l1
    rw [Nat.mul_comm hi, ← this]
  rw [← e1] at x1
  rw [← e2] at x2
  generalize sx (hi * 32 + rd) 12 = m at x1 x2 x3
  refine ⟨⟨16, 0, rs, rt, m⟩, ?_, ?_, ⟨rfl, z31, l2, l3, ⟨by show -1048576 ≤ m; omega, by show m ≤ 1048575; omega⟩⟩, ?_, enc_S l2 l3 (by omega)⟩
  · unfold spec_l42Fields
    exact bind_to s1 (bind_to s2 (bind_to s3 (sel_to rfl (sel_to rfl (sel_tt rfl (bind_to s4 (bind_to x1 rfl)))))))
  · unfold impl_decodeAs
    exact bind_to b1 (bind_to b2 (bind_to b3 (bind_to (fmt_S' rfl) (sel_to rfl (sel_to rfl (sel_tt rfl (bind_to b4 (bind_to x2 rfl))))))))
  · unfold impl_InstrValid
    refine bind_to r0 (bind_to (reg_ok l2) (bind_to (reg_ok l3) (bind_to (fmt_S' rfl) (sel_to rfl (sel_to rfl (sel_tt rfl ?_))))))
    simp only
    rw [decide_eq_true (by omega), decide_eq_true (by omega)]
    rfl
end Go.Proofs.YtdohklfimhkicaaDoor.N
