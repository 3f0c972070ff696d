/- The encoding of instructions: reference and program encode alike. -/
import Derived.Test.YtdohklfimhkicaaDoorS3
set_option linter.unusedVariables false
set_option linter.unusedSimpArgs false
set_option maxRecDepth 100000
set_option maxHeartbeats 4000000
namespace Go.Proofs.YtdohklfimhkicaaDoor.N
open Go.Proofs.YtdohklfimhkicaaDoor.X
theorem enc_B {op rs rt imm : Int} (h : op = 17 ∨ op = 18) (hs : 0 ≤ rs ∧ rs ≤ 31) (ht : 0 ≤ rt ∧ rt ≤ 31) (hi : -4096 ≤ imm ∧ imm ≤ 4094) : Enc (Instr.mk op 0 rs rt imm) := by
  obtain ⟨s, rfl, hs2⟩ := nat_of hs.1 hs.2
  obtain ⟨t, rfl, ht2⟩ := nat_of ht.1 ht.2
  obtain ⟨k, rfl⟩ : ∃ k : Nat, op = (k : Int) + 1 := ⟨(op - 1).toNat, by omega⟩
  obtain ⟨x, f3, f7, opc, g1, g2, g3, g4, g5, g6, g7, g8, g9, g10, g11, g12, g13, g14, _⟩ := tab k (by omega)
  obtain rfl := g14 (by omega)
  obtain ⟨u, u1, u2, u3, _⟩ := uns_ok (x := imm) (by omega) (by omega)
  obtain ⟨m, m1, m2, m3⟩ := mod_ok (x := imm) (p := 8192) (by omega) (by omega) (by omega)
  rw [show ((8192 : Nat) : Int) = 8192 from rfl] at m3
  have hm := mid_ok (op := (k : Int) + 1) (rd := 0) (rs := s) (rt := t) (imm := imm) (k := k) (srs := s) (f3 := f3) (opc := 99) rfl (by omega) rfl (by omega) g8 g5 g7
  have b1 := sbits_ok m 12 1 (by omega) (by omega) (by omega) (by omega)
  have b2 := sbits_ok m 5 6 (by omega) (by omega) (by omega) (by omega)
  have b3 := sbits_ok m 1 4 (by omega) (by omega) (by omega) (by omega)
  have b4 := sbits_ok m 11 1 (by omega) (by omega) (by omega) (by omega)
  have l1 : m / 2 ^ 12 % 2 ^ 1 < 2 := Nat.mod_lt _ (by decide)
  have l2 : m / 2 ^ 5 % 2 ^ 6 < 64 := Nat.mod_lt _ (by decide)
  have l3 : m / 2 ^ 1 % 2 ^ 4 < 16 := Nat.mod_lt _ (by decide)
  have l4 : m / 2 ^ 11 % 2 ^ 1 < 2 := Nat.mod_lt _ (by decide)
  have p1 := part_ok u 12 1 31 u1 (by omega) (by omega) (by omega) (by omega)
  have p2 := part_ok u 5 6 25 u1 (by omega) (by omega) (by omega) (by omega)
  have p3 := part_ok u 1 4 8 u1 (by omega) (by omega) (by omega) (by omega)
  have p4 := part_ok u 11 1 7 u1 (by omega) (by omega) (by omega) (by omega)
  rw [imm_bits (x := imm) (m := m) (p := 8192) u2 m2 (by decide) ⟨524288, rfl⟩] at p1 p2 p3 p4
  generalize m / 2 ^ 12 % 2 ^ 1 = v1 at b1 p1 l1
  generalize m / 2 ^ 5 % 2 ^ 6 = v2 at b2 p2 l2
  generalize m / 2 ^ 1 % 2 ^ 4 = v3 at b3 p3 l3
  generalize m / 2 ^ 11 % 2 ^ 1 = v4 at b4 p4 l4
  refine ⟨v1 * 2 ^ 31 + v2 * 2 ^ 25 + t * 2 ^ 20 + (s * 2 ^ 15 + f3 * 2 ^ 12 + 99) + v3 * 2 ^ 8 + v4 * 2 ^ 7, by omega, (fun k' hk h1 h2 => by
    obtain rfl : k' = k := by simp only at hk; omega
    rw [g8]
    exact congrArg (fun n : Nat => some (n : Int)) (by simp only [Nat.reducePow]; omega)), ?_, fun hv => ?_⟩
  · have hb : spec_l42Branch (Instr.mk ((k : Int) + 1) 0 s t imm) = some ((v1 * 2 ^ 31 + v2 * 2 ^ 25 + t * 2 ^ 20 + (s * 2 ^ 15 + f3 * 2 ^ 12 + 99) + v3 * 2 ^ 8 + v4 * 2 ^ 7 : Nat) : Int) := by
      unfold spec_l42Branch
      refine bind_to m3 (bind_to b1 (bind_to (put_ok v1 31 (by omega) (by omega)) (bind_to b2 (bind_to (put_ok v2 25 (by omega) (by omega)) (bind_to (put_ok t 20 (by omega) (by omega)) (bind_to hm (bind_to b3 (bind_to (put_ok v3 8 (by omega) (by omega)) (bind_to b4 (bind_to (put_ok v4 7 (by omega) (by omega)) ?_))))))))))
      rw [w64_add (by omega), w64_add (by omega), w64_add (by omega), w64_add (by omega), w64_add (by omega)]
    unfold spec_l42Encode
    simp only
    have c : ∀ n : Int, n ≤ 16 → (((k : Int) + 1) == n) = false := fun n hn => by simp; omega
    have hy : (sel (((k : Int) + 1) == 17) (some (((k : Int) + 1) == 17)) (some (((k : Int) + 1) == 18)) : Option Bool) = some true := by
      rcases (by omega : k = 16 ∨ k = 17) with rfl | rfl <;> rfl
    rw [c 12 (by omega), c 13 (by omega), c 14 (by omega), c 15 (by omega), c 16 (by omega), hy, hb]
    simp only [sel_f0, sel_t0, Option.bind_some]
  · rw [impl_head (r := none) hv]
    simp only
    rw [show (k : Int) + 1 - 1 = k by omega, w64_id (x := (k : Int)) (by omega) (by omega)]
    refine bind_to g1 (bind_to u3 (bind_to (fmt_B h) ?_))
    refine sel_to rfl (sel_to rfl (sel_to rfl (sel_tt rfl ?_)))
    refine bind_to p1 (bind_to p2 (bind_to p3 (bind_to p4 ?_)))
    have t1 : t ≤ 31 := by omega
    have s1 : s ≤ 31 := by omega
    have z1 : v1 * 2 ^ 31 < 4294967296 := Nat.lt_of_le_of_lt (Nat.mul_le_mul_right _ (Nat.le_of_lt_succ l1)) (by decide)
    have z2 : v2 * 2 ^ 25 < 4294967296 := Nat.lt_of_le_of_lt (Nat.mul_le_mul_right _ (Nat.le_of_lt_succ l2)) (by decide)
    have z3 : t * 2 ^ 20 < 4294967296 := Nat.lt_of_le_of_lt (Nat.mul_le_mul_right _ t1) (by decide)
    have z4 : s * 2 ^ 15 < 4294967296 := Nat.lt_of_le_of_lt (Nat.mul_le_mul_right _ s1) (by decide)
    have z5 : f3 * 2 ^ 12 < 4294967296 := Nat.lt_of_le_of_lt (Nat.mul_le_mul_right _ (Nat.le_of_lt_succ g5)) (by decide)
    have z6 : v3 * 2 ^ 8 < 4294967296 := Nat.lt_of_le_of_lt (Nat.mul_le_mul_right _ (Nat.le_of_lt_succ l3)) (by decide)
    have z7 : v4 * 2 ^ 7 < 4294967296 := Nat.lt_of_le_of_lt (Nat.mul_le_mul_right _ (Nat.le_of_lt_succ l4)) (by decide)
    have z8 : 99 < 4294967296 := by decide
    have zr := or_lt (or_lt (or_lt z3 z4) z5) z8
    rw [g2, g4, sh20 (Nat.lt_succ_of_le t1), sh15 (Nat.lt_succ_of_le s1), sh12 g5, or4 z3 z4 z5 z8, or_n z1 z2, or_n (or_lt z1 z2) zr, or_n (or_lt (or_lt z1 z2) zr) z6, or_n (or_lt (or_lt (or_lt z1 z2) zr) z6) z7, or_B (Nat.lt_succ_of_le t1) l2 g5 (Nat.lt_succ_of_le s1) l3 l4]
end Go.Proofs.YtdohklfimhkicaaDoor.N
