/- The encoding of instructions: reference and program encode alike. -/
import Derived.Test.YtdohklfimhkicaaDoorS3
set_option linter.unusedVariables false
set_option linter.unusedSimpArgs false
set_option maxRecDepth 100000
set_option maxHeartbeats 4000000
namespace Go.Proofs.YtdohklfimhkicaaDoor.N
open Go.Proofs.YtdohklfimhkicaaDoor.X
theorem enc_S {rs rt imm : Int} (hs : 0 ≤ rs ∧ rs ≤ 31) (ht : 0 ≤ rt ∧ rt ≤ 31) (hi : -2048 ≤ imm ∧ imm ≤ 2047) : Enc (Instr.mk 16 0 rs rt imm) := by
  obtain ⟨s, rfl, hs2⟩ := nat_of hs.1 hs.2
  obtain ⟨t, rfl, ht2⟩ := nat_of ht.1 ht.2
  obtain ⟨x, f3, f7, opc, g1, g2, g3, g4, g5, g6, g7, g8, g9, g10, g11, g12, g13, _⟩ := tab 15 (by omega)
  obtain rfl := g13 rfl
  obtain ⟨u, u1, u2, u3, _⟩ := uns_ok (x := imm) (by omega) (by omega)
  obtain ⟨m, m1, m2, m3⟩ := mod_ok (x := imm) (p := 4096) (by omega) (by omega) (by omega)
  rw [show ((4096 : Nat) : Int) = 4096 from rfl] at m3
  have hm := mid_ok (op := ((15 : Nat) : Int) + 1) (rd := 0) (rs := s) (rt := t) (imm := imm) (k := 15) (srs := s) (f3 := f3) (opc := 35) rfl (by omega) rfl (by omega) g8 g5 g7
  have b1 := sbits_ok m 5 7 (by omega) (by omega) (by omega) (by omega)
  have b2 := sbits_ok m 0 5 (by omega) (by omega) (by omega) (by omega)
  have l1 : m / 2 ^ 5 % 2 ^ 7 < 128 := Nat.mod_lt _ (by decide)
  have l2 : m / 2 ^ 0 % 2 ^ 5 < 32 := Nat.mod_lt _ (by decide)
  have p1 := part_ok u 5 7 25 u1 (by omega) (by omega) (by omega) (by omega)
  have p2 := part_ok u 0 5 7 u1 (by omega) (by omega) (by omega) (by omega)
  rw [imm_bits (x := imm) (m := m) (p := 4096) u2 m2 (by decide) ⟨1048576, rfl⟩] at p1 p2
  generalize m / 2 ^ 5 % 2 ^ 7 = hi7 at b1 p1 l1
  generalize m / 2 ^ 0 % 2 ^ 5 = lo5 at b2 p2 l2
  refine ⟨hi7 * 2 ^ 25 + t * 2 ^ 20 + (s * 2 ^ 15 + f3 * 2 ^ 12 + 35) + lo5 * 2 ^ 7, by omega, (fun k' hk h1 h2 => by
    obtain rfl : k' = 15 := by simp only at hk; omega
    rw [g8]
    exact congrArg (fun n : Nat => some (n : Int)) (by simp only [Nat.reducePow]; omega)), ?_, fun hv => ?_⟩
  · unfold spec_l42Encode
    refine bind_to (y := false) rfl (sel_to rfl (sel_to rfl (sel_to rfl (sel_tt rfl ?_))))
    refine bind_to m3 (bind_to b1 (bind_to (put_ok hi7 25 (by omega) (by omega)) (bind_to (put_ok t 20 (by omega) (by omega)) (bind_to hm (bind_to b2 (bind_to (put_ok lo5 7 (by omega) (by omega)) ?_))))))
    rw [w64_add (by omega), w64_add (by omega), w64_add (by omega)]
  · rw [impl_head (r := none) hv]
    refine bind_to g1 (bind_to u3 (bind_to (y := 83) rfl ?_))
    refine sel_to rfl (sel_to rfl (sel_tt rfl ?_))
    refine bind_to p1 (bind_to p2 ?_)
    rw [g2, g4, sh20 (by omega), sh15 (by omega), sh12 g5, or4 (a := t * 2 ^ 20) (by omega) (by omega) (by omega) (by omega), or_n (by omega) (or_lt (or_lt (or_lt (by omega) (by omega)) (by omega)) (by omega)), or_n (or_lt (by omega) (or_lt (or_lt (or_lt (by omega) (by omega)) (by omega)) (by omega))) (by omega), or_S (by omega) l2 g5 (by omega)]
end Go.Proofs.YtdohklfimhkicaaDoor.N
