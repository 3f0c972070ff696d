/- The decoding of words: branches. -/
import Derived.Test.YtdohklfimhkicaaDoorSa
set_option linter.unusedVariables false
set_option maxRecDepth 100000
set_option maxHeartbeats 4000000
namespace Go.Proofs.YtdohklfimhkicaaDoor.N
open Go.Proofs.YtdohklfimhkicaaDoor.X
theorem or_eq (k : Nat) {x y : Nat} (h : y < 2 ^ k) : x * 2 ^ k ||| y = x * 2 ^ k + y := by
  rw [Nat.mul_comm x]
  exact (add_or h).symm
theorem flds_B (u i : Nat) (hu : u < 4294967296) (hi : i = 16 ∨ i = 17) : Flds i u := by
  have s1 := sbits_ok u 7 5 hu (by omega) (by omega) (by omega)
  have s2 := sbits_ok u 15 5 hu (by omega) (by omega) (by omega)
  have s3 := sbits_ok u 20 5 hu (by omega) (by omega) (by omega)
  have s4 := sbits_ok u 31 1 hu (by omega) (by omega) (by omega)
  have s5 := sbits_ok u 7 1 hu (by omega) (by omega) (by omega)
  have s6 := sbits_ok u 25 6 hu (by omega) (by omega) (by omega)
  have s7 := sbits_ok u 8 4 hu (by omega) (by omega) (by omega)
  have b1 := ibits_ok u 7 5 hu (by omega) (by omega) (by omega)
  have b2 := ibits_ok u 15 5 hu (by omega) (by omega) (by omega)
  have b3 := ibits_ok u 20 5 hu (by omega) (by omega) (by omega)
  have b4 := ibits_ok u 31 1 hu (by omega) (by omega) (by omega)
  have b5 := ibits_ok u 7 1 hu (by omega) (by omega) (by omega)
  have b6 := ibits_ok u 25 6 hu (by omega) (by omega) (by omega)
  have b7 := ibits_ok u 8 4 hu (by omega) (by omega) (by omega)
  have l2 := lt5 (u / 2 ^ 15)
  have l3 := lt5 (u / 2 ^ 20)
  have l4 : u / 2 ^ 31 % 2 ^ 1 < 2 := Nat.mod_lt _ (by decide)
  have l5 : u / 2 ^ 7 % 2 ^ 1 < 2 := Nat.mod_lt _ (by decide)
  have l6 : u / 2 ^ 25 % 2 ^ 6 < 64 := Nat.mod_lt _ (by decide)
  have l7 : u / 2 ^ 8 % 2 ^ 4 < 16 := Nat.mod_lt _ (by decide)
  generalize u / 2 ^ 7 % 2 ^ 5 = rd at s1 b1
  generalize u / 2 ^ 15 % 2 ^ 5 = rs at s2 b2 l2
  generalize u / 2 ^ 20 % 2 ^ 5 = rt at s3 b3 l3
  generalize u / 2 ^ 31 % 2 ^ 1 = v1 at s4 b4 l4
  generalize u / 2 ^ 7 % 2 ^ 1 = v2 at s5 b5 l5
  generalize u / 2 ^ 25 % 2 ^ 6 = v3 at s6 b6 l6
  generalize u / 2 ^ 8 % 2 ^ 4 = v4 at s7 b7 l7
  have l8 : v1 * 4096 + v2 * 2048 + v3 * 32 + v4 * 2 < 2 ^ 13 := by
    have : (2 : Nat) ^ 13 = 8192 := by decide
    omega
  have x1 := ssx_ok _ 13 (by omega) (by omega) l8
  have x2 := isx_ok _ 13 (by omega) (by omega) l8
  have x3 := sx_bd (n := 13) (by omega) l8
  rw [show ((2 ^ (13 - 1) : Nat) : Int) = 4096 by decide] at x3
  have ev : ∃ q : Int, sx (v1 * 4096 + v2 * 2048 + v3 * 32 + v4 * 2) 13 = 2 * q := by
    rw [show v1 * 4096 + v2 * 2048 + v3 * 32 + v4 * 2 = 2 * (v1 * 2048 + v2 * 1024 + v3 * 16 + v4) by omega]
    exact sx_ev _ 13 (by omega)
  have e1 : w64 (w64 (w64 (w64 ((v1 : Int) * 4096) + w64 ((v2 : Int) * 2048)) + w64 ((v3 : Int) * 32)) + w64 ((v4 : Int) * 2)) = ((v1 * 4096 + v2 * 2048 + v3 * 32 + v4 * 2 : Nat) : Int) := by
    rw [w64_id (x := (v1 : Int) * 4096) (by omega) (by omega), w64_id (x := (v2 : Int) * 2048) (by omega) (by omega), w64_id (x := (v3 : Int) * 32) (by omega) (by omega), w64_id (x := (v4 : Int) * 2) (by omega) (by omega), w64_id (x := (v1 : Int) * 4096 + (v2 : Int) * 2048) (by omega) (by omega), w64_id (x := (v1 : Int) * 4096 + (v2 : Int) * 2048 + (v3 : Int) * 32) (by omega) (by omega), w64_id (by omega) (by omega)]
    omega
  have o1 : v3 * 2 ^ 5 ||| v4 * 2 ^ 1 = v3 * 2 ^ 5 + v4 * 2 ^ 1 := or_eq 5 (by omega)
  have o2 : v2 * 2 ^ 11 ||| (v3 * 2 ^ 5 + v4 * 2 ^ 1) = v2 * 2 ^ 11 + (v3 * 2 ^ 5 + v4 * 2 ^ 1) := or_eq 11 (by omega)
  have o3 : v1 * 2 ^ 12 ||| (v2 * 2 ^ 11 + (v3 * 2 ^ 5 + v4 * 2 ^ 1)) = v1 * 2 ^ 12 + (v2 * 2 ^ 11 + (v3 * 2 ^ 5 + v4 * 2 ^ 1)) := or_eq 12 (by omega)
  have e2 : bitsI .or .i64 (bitsI .or .i64 (bitsI .or .i64 (w64 ((v1 : Int) * 2 ^ (min 12 (IntKind.bits .i64)))) (w64 ((v2 : Int) * 2 ^ (min 11 (IntKind.bits .i64))))) (w64 ((v3 : Int) * 2 ^ (min 5 (IntKind.bits .i64))))) (w64 ((v4 : Int) * 2 ^ (min 1 (IntKind.bits .i64)))) = ((v1 * 4096 + v2 * 2048 + v3 * 32 + v4 * 2 : Nat) : Int) := by
    rw [show w64 ((v1 : Int) * 2 ^ (min 12 (IntKind.bits .i64))) = ((v1 * 2 ^ 12 : Nat) : Int) from shl_lit (k := 12) (by omega), show w64 ((v2 : Int) * 2 ^ (min 11 (IntKind.bits .i64))) = ((v2 * 2 ^ 11 : Nat) : Int) from shl_lit (k := 11) (by omega),
      show w64 ((v3 : Int) * 2 ^ (min 5 (IntKind.bits .i64))) = ((v3 * 2 ^ 5 : Nat) : Int) from shl_lit (k := 5) (by omega), show w64 ((v4 : Int) * 2 ^ (min 1 (IntKind.bits .i64))) = ((v4 * 2 ^ 1 : Nat) : Int) from shl_lit (k := 1) (by omega), or4 (by omega) (by omega) (by omega) (by omega),
      Nat.or_assoc, Nat.or_assoc, o1, o2, o3]
    omega
  rw [← e1] at x1
  rw [← e2] at x2
  generalize sx (v1 * 4096 + v2 * 2048 + v3 * 32 + v4 * 2) 13 = m at x1 x2 x3 ev
  obtain ⟨q, rfl⟩ := ev
  have hk : (i : Int) + 1 = 17 ∨ (i : Int) + 1 = 18 := by omega
  refine ⟨⟨(i : Int) + 1, 0, rs, rt, 2 * q⟩, ?_, ?_, ⟨rfl, z31, l2, l3, ⟨by show -1048576 ≤ 2 * q; omega, by show 2 * q ≤ 1048575; omega⟩⟩, ?_, enc_B hk l2 l3 (by omega)⟩
  · unfold spec_l42Fields
    refine bind_to s1 (bind_to s2 (bind_to s3 (sel_to (decide_eq_false (by omega)) (sel_to (decide_eq_false (by omega)) (sel_to ?_ (sel_tt ?_ (bind_to s4 (bind_to s5 (bind_to s6 (bind_to s7 (bind_to x1 rfl)))))))))))
    · rcases hi with rfl | rfl <;> rfl
    · rcases hi with rfl | rfl <;> rfl
  · unfold impl_decodeAs
    exact bind_to b1 (bind_to b2 (bind_to b3 (bind_to (fmt_B hk) (sel_to rfl (sel_to rfl (sel_to rfl (sel_tt rfl (bind_to b4 (bind_to b5 (bind_to b6 (bind_to b7 (bind_to x2 rfl))))))))))))
  · unfold impl_InstrValid
    refine bind_to r0 (bind_to (reg_ok l2) (bind_to (reg_ok l3) (bind_to (fmt_B hk) (sel_to rfl (sel_to rfl (sel_to rfl (sel_tt rfl ?_)))))))
    simp only
    rw [decide_eq_true (by omega), decide_eq_true (by omega), Int.mul_comm, Int.mul_tmod_left]
    rfl
end Go.Proofs.YtdohklfimhkicaaDoor.N
