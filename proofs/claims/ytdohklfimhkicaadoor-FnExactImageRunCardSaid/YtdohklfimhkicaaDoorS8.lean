/- The encoding of instructions: reference and program encode alike. -/
import Derived.Test.YtdohklfimhkicaaDoorS3
set_option linter.unusedVariables false
set_option linter.unusedSimpArgs false
set_option maxRecDepth 100000
set_option maxHeartbeats 4000000
namespace Go.Proofs.YtdohklfimhkicaaDoor.N
open Go.Proofs.YtdohklfimhkicaaDoor.X
theorem enc_I {op rd rs imm : Int} (h : 12 ≤ op ∧ op ≤ 15) (hd : 0 ≤ rd ∧ rd ≤ 31) (hs : 0 ≤ rs ∧ rs ≤ 31) (hi : -2048 ≤ imm ∧ imm ≤ 2047) : Enc (Instr.mk op rd rs 0 imm) := by
  obtain ⟨d, rfl, hd2⟩ := nat_of hd.1 hd.2
  obtain ⟨s, rfl, hs2⟩ := nat_of hs.1 hs.2
  obtain ⟨k, rfl⟩ : ∃ k : Nat, op = (k : Int) + 1 := ⟨(op - 1).toNat, by omega⟩
  obtain ⟨x, f3, f7, opc, g1, g2, g3, g4, g5, g6, g7, g8, g9, g10, g11, g12, _⟩ := tab k (by omega)
  obtain ⟨u, u1, u2, u3, _⟩ := uns_ok (x := imm) (by omega) (by omega)
  obtain ⟨m, m1, m2, m3⟩ := mod_ok (x := imm) (p := 4096) (by omega) (by omega) (by omega)
  rw [show ((4096 : Nat) : Int) = 4096 from rfl] at m3
  have hm := mid_ok (op := (k : Int) + 1) (rd := d) (rs := s) (rt := 0) (imm := imm) (k := k) (srs := s) (f3 := f3) (opc := opc) rfl (by omega) rfl (by omega) g8 g5 g7
  have him : spec_l42Imm (Instr.mk ((k : Int) + 1) d s 0 imm) opc = some ((m * 2 ^ 20 + (s * 2 ^ 15 + f3 * 2 ^ 12 + opc) + d * 2 ^ 7 : Nat) : Int) := by
    unfold spec_l42Imm
    rw [hm]
    simp only
    rw [m3]
    simp only [Option.bind_some]
    rw [show (20 : Int) = ((20 : Nat) : Int) from rfl, show (7 : Int) = ((7 : Nat) : Int) from rfl, put_ok m 20 (by omega) (by omega), put_ok d 7 (by omega) (by omega)]
    simp only [Option.bind_some]
    rw [w64_add (by omega), w64_add (by omega)]
  refine ⟨m * 2 ^ 20 + (s * 2 ^ 15 + f3 * 2 ^ 12 + opc) + d * 2 ^ 7, by omega, (fun k' hk h1 h2 => by
    obtain rfl : k' = k := by simp only at hk; omega
    rw [g8]
    exact congrArg (fun n : Nat => some (n : Int)) (by simp only [Nat.reducePow]; omega)), ?_, fun hv => ?_⟩
  · unfold spec_l42Encode
    simp only
    rcases (by omega : k = 11 ∨ k = 12 ∨ k = 13 ∨ k = 14) with rfl | rfl | rfl | rfl
    · obtain rfl := g10 (by omega)
      exact bind_to (y := true) rfl (bind_to him rfl)
    · obtain rfl := g10 (by omega)
      exact bind_to (y := true) rfl (bind_to him rfl)
    · obtain rfl := g11 (by omega)
      exact bind_to (y := false) rfl (bind_to him rfl)
    · obtain rfl := g12 (by omega)
      exact bind_to (y := false) rfl (bind_to him rfl)
  · rw [impl_head (r := none) hv]
    have hp := part_ok u 0 12 20 u1 (by omega) (by omega) (by omega) (by omega)
    rw [imm_bits (x := imm) (m := m) (p := 4096) u2 m2 (by decide) ⟨1048576, rfl⟩] at hp
    have hp' : impl_InstrEncode_1 0 12 20 (u : Int) = some ((m * 2 ^ 20 : Nat) : Int) := by
      rw [show m * 2 ^ 20 = m / 2 ^ 0 % 2 ^ 12 * 2 ^ 20 by omega]
      exact hp
    have h0 : w64 (0 * 2 ^ (min 20 (IntKind.bits .i64))) = ((0 : Nat) : Int) := by decide
    simp only
    rw [show (k : Int) + 1 - 1 = k by omega, w64_id (x := (k : Int)) (by omega) (by omega)]
    refine bind_to g1 (bind_to u3 (bind_to (fmt_I (by omega)) ?_))
    refine sel_to rfl (sel_tt rfl ?_)
    refine bind_to hp' ?_
    rw [g2, g4, h0, sh15 (by omega), sh12 g5, sh7 (by omega), or4 (a := 0) (by omega) (by omega) (by omega) (by omega), or_n (by omega) (or_lt (or_lt (or_lt (by omega) (by omega)) (by omega)) (by omega)), or_n (or_lt (by omega) (or_lt (or_lt (or_lt (by omega) (by omega)) (by omega)) (by omega))) (by omega), or_I g7 (by omega) g5 (by omega)]
end Go.Proofs.YtdohklfimhkicaaDoor.N
