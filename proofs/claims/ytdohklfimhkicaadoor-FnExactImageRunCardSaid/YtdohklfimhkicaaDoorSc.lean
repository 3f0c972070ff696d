/- The decoding of words: jumps and all. -/
import Derived.Test.YtdohklfimhkicaaDoorSa
import Derived.Test.YtdohklfimhkicaaDoorSb
set_option linter.unusedVariables false
set_option maxRecDepth 100000
set_option maxHeartbeats 4000000
namespace Go.Proofs.YtdohklfimhkicaaDoor.N
open Go.Proofs.YtdohklfimhkicaaDoor.X
theorem flds_U (u : Nat) (hu : u < 4294967296) : Flds 18 u := by
  have s1 := sbits_ok u 7 5 hu (by omega) (by omega) (by omega)
  have s2 := sbits_ok u 15 5 hu (by omega) (by omega) (by omega)
  have s3 := sbits_ok u 20 5 hu (by omega) (by omega) (by omega)
  have s4 := sbits_ok u 12 20 hu (by omega) (by omega) (by omega)
  have b1 := ibits_ok u 7 5 hu (by omega) (by omega) (by omega)
  have b2 := ibits_ok u 15 5 hu (by omega) (by omega) (by omega)
  have b3 := ibits_ok u 20 5 hu (by omega) (by omega) (by omega)
  have b4 := ibits_ok u 12 20 hu (by omega) (by omega) (by omega)
  have l1 := lt5 (u / 2 ^ 7)
  have l4 : u / 2 ^ 12 % 2 ^ 20 < 1048576 := Nat.mod_lt _ (by decide)
  generalize u / 2 ^ 7 % 2 ^ 5 = rd at s1 b1 l1
  generalize u / 2 ^ 15 % 2 ^ 5 = rs at s2 b2
  generalize u / 2 ^ 20 % 2 ^ 5 = rt at s3 b3
  generalize u / 2 ^ 12 % 2 ^ 20 = m at s4 b4 l4
  refine ⟨⟨19, rd, 0, 0, m⟩, ?_, ?_, ⟨rfl, l1, z31, z31, ⟨by show -1048576 ≤ (m : Int); omega, by show (m : Int) ≤ 1048575; omega⟩⟩, ?_, enc_U l1 (by omega)⟩
  · unfold spec_l42Fields
    exact bind_to s1 (bind_to s2 (bind_to s3 (sel_to rfl (sel_to rfl (sel_to rfl (sel_to rfl (sel_tt rfl (bind_to s4 rfl))))))))
  · unfold impl_decodeAs
    exact bind_to b1 (bind_to b2 (bind_to b3 (bind_to (fmt_U' rfl) (sel_to rfl (sel_to rfl (sel_to rfl (sel_to rfl (sel_tt rfl (bind_to b4 rfl)))))))))
  · unfold impl_InstrValid
    refine bind_to (reg_ok l1) (bind_to r0 (bind_to r0 (bind_to (fmt_U' rfl) (sel_to rfl (sel_to rfl (sel_to rfl (sel_to rfl (sel_tt rfl ?_))))))))
    simp only
    rw [decide_eq_true (by omega), decide_eq_true (by omega)]
    rfl
theorem flds_J (u : Nat) (hu : u < 4294967296) : Flds 19 u := by
  have s1 := sbits_ok u 7 5 hu (by omega) (by omega) (by omega)
  have s2 := sbits_ok u 15 5 hu (by omega) (by omega) (by omega)
  have s3 := sbits_ok u 20 5 hu (by omega) (by omega) (by omega)
  have s4 := sbits_ok u 31 1 hu (by omega) (by omega) (by omega)
  have s5 := sbits_ok u 12 8 hu (by omega) (by omega) (by omega)
  have s6 := sbits_ok u 20 1 hu (by omega) (by omega) (by omega)
  have s7 := sbits_ok u 21 10 hu (by omega) (by omega) (by omega)
  have b1 := ibits_ok u 7 5 hu (by omega) (by omega) (by omega)
  have b2 := ibits_ok u 15 5 hu (by omega) (by omega) (by omega)
  have b3 := ibits_ok u 20 5 hu (by omega) (by omega) (by omega)
  have b4 := ibits_ok u 31 1 hu (by omega) (by omega) (by omega)
  have b5 := ibits_ok u 12 8 hu (by omega) (by omega) (by omega)
  have b6 := ibits_ok u 20 1 hu (by omega) (by omega) (by omega)
  have b7 := ibits_ok u 21 10 hu (by omega) (by omega) (by omega)
  have l1 := lt5 (u / 2 ^ 7)
  have l4 : u / 2 ^ 31 % 2 ^ 1 < 2 := Nat.mod_lt _ (by decide)
  have l5 : u / 2 ^ 12 % 2 ^ 8 < 256 := Nat.mod_lt _ (by decide)
  have l6 : u / 2 ^ 20 % 2 ^ 1 < 2 := Nat.mod_lt _ (by decide)
  have l7 : u / 2 ^ 21 % 2 ^ 10 < 1024 := Nat.mod_lt _ (by decide)
  generalize u / 2 ^ 7 % 2 ^ 5 = rd at s1 b1 l1
  generalize u / 2 ^ 15 % 2 ^ 5 = rs at s2 b2
  generalize u / 2 ^ 20 % 2 ^ 5 = rt at s3 b3
  generalize u / 2 ^ 31 % 2 ^ 1 = v1 at s4 b4 l4
  generalize u / 2 ^ 12 % 2 ^ 8 = v2 at s5 b5 l5
  generalize u / 2 ^ 20 % 2 ^ 1 = v3 at s6 b6 l6
  generalize u / 2 ^ 21 % 2 ^ 10 = v4 at s7 b7 l7
  have l8 : v1 * 1048576 + v2 * 4096 + v3 * 2048 + v4 * 2 < 2 ^ 21 := by
    have : (2 : Nat) ^ 21 = 2097152 := rfl
    omega
  have x1 := ssx_ok _ 21 (by omega) (by omega) l8
  have x2 := isx_ok _ 21 (by omega) (by omega) l8
  have x3 := sx_bd (n := 21) (by omega) l8
  rw [show ((2 ^ (21 - 1) : Nat) : Int) = 1048576 from congrArg (fun n : Nat => (n : Int)) (show (2 ^ (21 - 1) : Nat) = 1048576 from rfl)] at x3
  have ev : ∃ q : Int, sx (v1 * 1048576 + v2 * 4096 + v3 * 2048 + v4 * 2) 21 = 2 * q := by
    rw [show v1 * 1048576 + v2 * 4096 + v3 * 2048 + v4 * 2 = 2 * (v1 * 524288 + v2 * 2048 + v3 * 1024 + v4) by omega]
    exact sx_ev _ 21 (by omega)
  have e1 : w64 (w64 (w64 (w64 ((v1 : Int) * 1048576) + w64 ((v2 : Int) * 4096)) + w64 ((v3 : Int) * 2048)) + w64 ((v4 : Int) * 2)) = ((v1 * 1048576 + v2 * 4096 + v3 * 2048 + v4 * 2 : Nat) : Int) := by
    rw [w64_id (x := (v1 : Int) * 1048576) (by omega) (by omega), w64_id (x := (v2 : Int) * 4096) (by omega) (by omega), w64_id (x := (v3 : Int) * 2048) (by omega) (by omega), w64_id (x := (v4 : Int) * 2) (by omega) (by omega), w64_id (x := (v1 : Int) * 1048576 + (v2 : Int) * 4096) (by omega) (by omega), w64_id (x := (v1 : Int) * 1048576 + (v2 : Int) * 4096 + (v3 : Int) * 2048) (by omega) (by omega), w64_id (by omega) (by omega)]
    omega
  have o1 : v3 * 2 ^ 11 ||| v4 * 2 ^ 1 = v3 * 2 ^ 11 + v4 * 2 ^ 1 := or_eq 11 (by omega)
  have o2 : v2 * 2 ^ 12 ||| (v3 * 2 ^ 11 + v4 * 2 ^ 1) = v2 * 2 ^ 12 + (v3 * 2 ^ 11 + v4 * 2 ^ 1) := or_eq 12 (by omega)
  have o3 : v1 * 2 ^ 20 ||| (v2 * 2 ^ 12 + (v3 * 2 ^ 11 + v4 * 2 ^ 1)) = v1 * 2 ^ 20 + (v2 * 2 ^ 12 + (v3 * 2 ^ 11 + v4 * 2 ^ 1)) := or_eq 20 (by omega)
  have z1 : v1 * 2 ^ 20 < 4294967296 := Nat.lt_of_le_of_lt (Nat.mul_le_mul_right _ (Nat.le_of_lt_succ l4)) (by decide)
  have z2 : v2 * 2 ^ 12 < 4294967296 := Nat.lt_of_le_of_lt (Nat.mul_le_mul_right _ (Nat.le_of_lt_succ l5)) (by decide)
  have z3 : v3 * 2 ^ 11 < 4294967296 := Nat.lt_of_le_of_lt (Nat.mul_le_mul_right _ (Nat.le_of_lt_succ l6)) (by decide)
  have z4 : v4 * 2 ^ 1 < 4294967296 := Nat.lt_of_le_of_lt (Nat.mul_le_mul_right _ (Nat.le_of_lt_succ l7)) (by decide)
  have e2 : bitsI .or .i64 (bitsI .or .i64 (bitsI .or .i64 (w64 ((v1 : Int) * 2 ^ (min 20 (IntKind.bits .i64)))) (w64 ((v2 : Int) * 2 ^ (min 12 (IntKind.bits .i64))))) (w64 ((v3 : Int) * 2 ^ (min 11 (IntKind.bits .i64))))) (w64 ((v4 : Int) * 2 ^ (min 1 (IntKind.bits .i64)))) = ((v1 * 1048576 + v2 * 4096 + v3 * 2048 + v4 * 2 : Nat) : Int) := by
    rw [show w64 ((v1 : Int) * 2 ^ (min 20 (IntKind.bits .i64))) = ((v1 * 2 ^ 20 : Nat) : Int) from shl_lit (k := 20) (Nat.lt_trans z1 (by decide)), show w64 ((v2 : Int) * 2 ^ (min 12 (IntKind.bits .i64))) = ((v2 * 2 ^ 12 : Nat) : Int) from shl_lit (k := 12) (Nat.lt_trans z2 (by decide)),
      show w64 ((v3 : Int) * 2 ^ (min 11 (IntKind.bits .i64))) = ((v3 * 2 ^ 11 : Nat) : Int) from shl_lit (k := 11) (Nat.lt_trans z3 (by decide)), show w64 ((v4 : Int) * 2 ^ (min 1 (IntKind.bits .i64))) = ((v4 * 2 ^ 1 : Nat) : Int) from shl_lit (k := 1) (Nat.lt_trans z4 (by decide)), or4 z1 z2 z3 z4,
      Nat.or_assoc, Nat.or_assoc, o1, o2, o3]
    simp only [Nat.reducePow]
    omega
  rw [← e1] at x1
  rw [← e2] at x2
  generalize sx (v1 * 1048576 + v2 * 4096 + v3 * 2048 + v4 * 2) 21 = m at x1 x2 x3 ev
  obtain ⟨q, rfl⟩ := ev
  refine ⟨⟨20, rd, 0, 0, 2 * q⟩, ?_, ?_, ⟨rfl, l1, z31, z31, ⟨by show -1048576 ≤ 2 * q; omega, by show 2 * q ≤ 1048575; omega⟩⟩, ?_, enc_J l1 (by omega)⟩
  · unfold spec_l42Fields
    exact bind_to s1 (bind_to s2 (bind_to s3 (sel_to rfl (sel_to rfl (sel_to rfl (sel_to rfl (sel_to rfl (sel_tt rfl (bind_to s4 (bind_to s5 (bind_to s6 (bind_to s7 (bind_to x1 rfl)))))))))))))
  · unfold impl_decodeAs
    exact bind_to b1 (bind_to b2 (bind_to b3 (bind_to (fmt_J' rfl) (sel_to rfl (sel_to rfl (sel_to rfl (sel_to rfl (sel_to rfl (sel_tt rfl (bind_to b4 (bind_to b5 (bind_to b6 (bind_to b7 (bind_to x2 rfl))))))))))))))
  · unfold impl_InstrValid
    refine bind_to (reg_ok l1) (bind_to r0 (bind_to r0 (bind_to (fmt_J' rfl) (sel_to rfl (sel_to rfl (sel_to rfl (sel_to rfl (sel_to rfl (sel_tt rfl ?_)))))))))
    simp only
    rw [decide_eq_true (by omega), decide_eq_true (by omega), Int.mul_comm, Int.mul_tmod_left]
    rfl
theorem flds_E (u : Nat) (hu : u < 4294967296) : Flds 20 u := by
  have s1 := sbits_ok u 7 5 hu (by omega) (by omega) (by omega)
  have s2 := sbits_ok u 15 5 hu (by omega) (by omega) (by omega)
  have s3 := sbits_ok u 20 5 hu (by omega) (by omega) (by omega)
  have b1 := ibits_ok u 7 5 hu (by omega) (by omega) (by omega)
  have b2 := ibits_ok u 15 5 hu (by omega) (by omega) (by omega)
  have b3 := ibits_ok u 20 5 hu (by omega) (by omega) (by omega)
  generalize u / 2 ^ 7 % 2 ^ 5 = rd at s1 b1
  generalize u / 2 ^ 15 % 2 ^ 5 = rs at s2 b2
  generalize u / 2 ^ 20 % 2 ^ 5 = rt at s3 b3
  refine ⟨⟨21, 0, 0, 0, 0⟩, ?_, ?_, ⟨rfl, z31, z31, z31, zim⟩, rfl, enc_E⟩
  · unfold spec_l42Fields
    exact bind_to s1 (bind_to s2 (bind_to s3 (sel_to rfl (sel_to rfl (sel_to rfl (sel_to rfl (sel_to rfl (sel_to rfl rfl))))))))
  · unfold impl_decodeAs
    exact bind_to b1 (bind_to b2 (bind_to b3 (bind_to (fmt_E' rfl) (sel_to rfl (sel_to rfl (sel_to rfl (sel_to rfl (sel_to rfl (sel_to rfl rfl)))))))))
theorem flds_ok (u i : Nat) (hu : u < 4294967296) (hi : i < 21) : Flds i u := by
  rcases (by omega : i < 11 ∨ (11 ≤ i ∧ i < 15) ∨ i = 15 ∨ (i = 16 ∨ i = 17) ∨ i = 18 ∨ i = 19 ∨ i = 20) with h | h | rfl | h | rfl | rfl | rfl
  · exact flds_R u i hu h
  · exact flds_I u i hu h.1 h.2
  · exact flds_S u hu
  · exact flds_B u i hu h
  · exact flds_U u hu
  · exact flds_J u hu
  · exact flds_E u hu
end Go.Proofs.YtdohklfimhkicaaDoor.N
