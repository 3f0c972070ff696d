/- The encoding of instructions: reference and program encode alike. -/
import Derived.Test.YtdohklfimhkicaaDoorS3
set_option linter.unusedVariables false
set_option linter.unusedSimpArgs false
set_option maxRecDepth 100000
set_option maxHeartbeats 4000000
namespace Go.Proofs.YtdohklfimhkicaaDoor.N
open Go.Proofs.YtdohklfimhkicaaDoor.X
theorem enc_U {rd imm : Int} (hd : 0 ≤ rd ∧ rd ≤ 31) (hi : 0 ≤ imm ∧ imm ≤ 1048575) : Enc (Instr.mk 19 rd 0 0 imm) := by
  obtain ⟨d, rfl, hd2⟩ := nat_of hd.1 hd.2
  obtain ⟨m, rfl, hm2⟩ := nat_of hi.1 hi.2
  obtain ⟨x, f3, f7, opc, g1, g2, g3, g4, g5, g6, g7, g8, g9, g10, g11, g12, g13, g14, g15, _⟩ := tab 18 (by omega)
  obtain rfl := g15 rfl
  obtain ⟨u, u1, u2, u3, _⟩ := uns_ok (x := (m : Int)) (by omega) (by omega)
  obtain rfl : u = m := by omega
  have p1 := part_ok u 0 20 12 u1 (by omega) (by omega) (by omega) (by omega)
  rw [show u / 2 ^ 0 % 2 ^ 20 = u by omega] at p1
  refine ⟨u * 2 ^ 12 + d * 2 ^ 7 + 55, by omega, (fun k' hk h1 h2 => by simp only at hk; omega), ?_, fun hv => ?_⟩
  · unfold spec_l42Encode
    refine bind_to (y := false) rfl (sel_to rfl (sel_to rfl (sel_to rfl (sel_to rfl (bind_to (y := false) rfl (sel_to rfl (sel_tt rfl (bind_to (put_ok u 12 (by omega) (by omega)) (bind_to (put_ok d 7 (by omega) (by omega)) ?_)))))))))
    rw [w64_add (by omega)]
    exact congrArg some (w64_add (a := u * 2 ^ 12 + d * 2 ^ 7) (b := 55) (by omega))
  · rw [impl_head (r := none) hv]
    refine bind_to g1 (bind_to u3 (bind_to (y := 85) rfl ?_))
    refine sel_to rfl (sel_to rfl (sel_to rfl (sel_to rfl (sel_tt rfl ?_))))
    refine bind_to p1 ?_
    have z1 : u * 2 ^ 12 < 4294967296 := by omega
    have z2 : d * 2 ^ 7 < 4294967296 := by omega
    have z8 : 55 < 4294967296 := by omega
    rw [g4, sh7 (by omega), or_n z1 z2, or_n (or_lt z1 z2) z8, or_U (by omega)]
theorem enc_J {rd imm : Int} (hd : 0 ≤ rd ∧ rd ≤ 31) (hi : -1048576 ≤ imm ∧ imm ≤ 1048574) : Enc (Instr.mk 20 rd 0 0 imm) := by
  obtain ⟨d, rfl, hd2⟩ := nat_of hd.1 hd.2
  obtain ⟨x, f3, f7, opc, g1, g2, g3, g4, g5, g6, g7, g8, g9, g10, g11, g12, g13, g14, g15, g16, _⟩ := tab 19 (by omega)
  obtain rfl := g16 rfl
  obtain ⟨u, u1, u2, u3, _⟩ := uns_ok (x := imm) (by omega) (by omega)
  obtain ⟨m, m1, m2, m3⟩ := mod_ok (x := imm) (p := 2097152) (by omega) (by omega) (by omega)
  rw [show ((2097152 : Nat) : Int) = 2097152 from rfl] at m3
  have b1 := sbits_ok m 20 1 (by omega) (by omega) (by omega) (by omega)
  have b2 := sbits_ok m 1 10 (by omega) (by omega) (by omega) (by omega)
  have b3 := sbits_ok m 11 1 (by omega) (by omega) (by omega) (by omega)
  have b4 := sbits_ok m 12 8 (by omega) (by omega) (by omega) (by omega)
  have l1 : m / 2 ^ 20 % 2 ^ 1 < 2 := Nat.mod_lt _ (by decide)
  have l2 : m / 2 ^ 1 % 2 ^ 10 < 1024 := Nat.mod_lt _ (by decide)
  have l3 : m / 2 ^ 11 % 2 ^ 1 < 2 := Nat.mod_lt _ (by decide)
  have l4 : m / 2 ^ 12 % 2 ^ 8 < 256 := Nat.mod_lt _ (by decide)
  have p1 := part_ok u 20 1 31 u1 (by omega) (by omega) (by omega) (by omega)
  have p2 := part_ok u 1 10 21 u1 (by omega) (by omega) (by omega) (by omega)
  have p3 := part_ok u 11 1 20 u1 (by omega) (by omega) (by omega) (by omega)
  have p4 := part_ok u 12 8 12 u1 (by omega) (by omega) (by omega) (by omega)
  rw [imm_bits (x := imm) (m := m) (p := 2097152) u2 m2 (by decide) ⟨2048, rfl⟩] at p1 p2 p3 p4
  generalize m / 2 ^ 20 % 2 ^ 1 = v1 at b1 p1 l1
  generalize m / 2 ^ 1 % 2 ^ 10 = v2 at b2 p2 l2
  generalize m / 2 ^ 11 % 2 ^ 1 = v3 at b3 p3 l3
  generalize m / 2 ^ 12 % 2 ^ 8 = v4 at b4 p4 l4
  refine ⟨v1 * 2 ^ 31 + v2 * 2 ^ 21 + v3 * 2 ^ 20 + v4 * 2 ^ 12 + d * 2 ^ 7 + 111, by omega, (fun k' hk h1 h2 => by simp only at hk; omega), ?_, fun hv => ?_⟩
  · have hj : spec_l42Jump (Instr.mk 20 d 0 0 imm) = some ((v1 * 2 ^ 31 + v2 * 2 ^ 21 + v3 * 2 ^ 20 + v4 * 2 ^ 12 + d * 2 ^ 7 + 111 : Nat) : Int) := by
      unfold spec_l42Jump
      refine bind_to m3 (bind_to b1 (bind_to (put_ok v1 31 (by omega) (by omega)) (bind_to b2 (bind_to (put_ok v2 21 (by omega) (by omega)) (bind_to b3 (bind_to (put_ok v3 20 (by omega) (by omega)) (bind_to b4 (bind_to (put_ok v4 12 (by omega) (by omega)) (bind_to (put_ok d 7 (by omega) (by omega)) ?_)))))))))
      rw [w64_add (by omega), w64_add (by omega), w64_add (by omega), w64_add (by omega)]
      exact congrArg some (w64_add (a := v1 * 2 ^ 31 + v2 * 2 ^ 21 + v3 * 2 ^ 20 + v4 * 2 ^ 12 + d * 2 ^ 7) (b := 111) (by omega))
    unfold spec_l42Encode
    exact bind_to (y := false) rfl (sel_to rfl (sel_to rfl (sel_to rfl (sel_to rfl (bind_to (y := false) rfl (sel_to rfl (sel_to rfl (sel_tt rfl (bind_to hj rfl)))))))))
  · rw [impl_head (r := none) hv]
    refine bind_to g1 (bind_to u3 (bind_to (y := 74) rfl ?_))
    refine sel_to rfl (sel_to rfl (sel_to rfl (sel_to rfl (sel_to rfl (sel_tt rfl ?_)))))
    refine bind_to p1 (bind_to p2 (bind_to p3 (bind_to p4 ?_)))
    have d1 : d ≤ 31 := by omega
    have z1 : v1 * 2 ^ 31 < 4294967296 := Nat.lt_of_le_of_lt (Nat.mul_le_mul_right _ (Nat.le_of_lt_succ l1)) (by decide)
    have z2 : v2 * 2 ^ 21 < 4294967296 := Nat.lt_of_le_of_lt (Nat.mul_le_mul_right _ (Nat.le_of_lt_succ l2)) (by decide)
    have z3 : v3 * 2 ^ 20 < 4294967296 := Nat.lt_of_le_of_lt (Nat.mul_le_mul_right _ (Nat.le_of_lt_succ l3)) (by decide)
    have z4 : v4 * 2 ^ 12 < 4294967296 := Nat.lt_of_le_of_lt (Nat.mul_le_mul_right _ (Nat.le_of_lt_succ l4)) (by decide)
    have z5 : d * 2 ^ 7 < 4294967296 := Nat.lt_of_le_of_lt (Nat.mul_le_mul_right _ d1) (by decide)
    have z8 : 111 < 4294967296 := by decide
    rw [g4, sh7 (Nat.lt_succ_of_le d1), or_n z1 z2, or_n (or_lt z1 z2) z3, or_n (or_lt (or_lt z1 z2) z3) z4, or_n (or_lt (or_lt (or_lt z1 z2) z3) z4) z5, or_n (or_lt (or_lt (or_lt (or_lt z1 z2) z3) z4) z5) z8, or_J l2 l3 l4 (Nat.lt_succ_of_le d1)]
theorem enc_E : Enc (Instr.mk 21 0 0 0 0) := by
  obtain ⟨x, f3, f7, opc, g1, g2, g3, g4, g5, g6, g7, g8, g9, g10, g11, g12, g13, g14, g15, g16, g17⟩ := tab 20 (by omega)
  obtain rfl := g17 rfl
  obtain ⟨u, u1, u2, u3, _⟩ := uns_ok (x := 0) (by omega) (by omega)
  refine ⟨115, by omega, (fun k' hk h1 h2 => by simp only at hk; omega), ?_, fun hv => ?_⟩
  · unfold spec_l42Encode
    exact bind_to (y := false) rfl (sel_to rfl (sel_to rfl (sel_to rfl (sel_to rfl (bind_to (y := false) rfl (sel_to rfl (sel_to rfl (sel_to rfl (sel_tt rfl rfl)))))))))
  · rw [impl_head (r := none) hv]
    refine bind_to g1 (bind_to u3 (bind_to (y := 69) rfl ?_))
    refine sel_to rfl (sel_to rfl (sel_to rfl (sel_to rfl (sel_to rfl (sel_to rfl (?_))))))
    rw [g4]
end Go.Proofs.YtdohklfimhkicaaDoor.N
