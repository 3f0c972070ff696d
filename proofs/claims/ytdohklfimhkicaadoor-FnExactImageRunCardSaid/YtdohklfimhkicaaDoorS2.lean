/- The encoding of instructions: reference and program encode alike. -/
import Derived.Test.YtdohklfimhkicaaDoorS1
set_option linter.unusedVariables false
set_option linter.unusedSimpArgs false
set_option maxRecDepth 100000
set_option maxHeartbeats 4000000
namespace Go.Proofs.YtdohklfimhkicaaDoor.N
open Go.Proofs.YtdohklfimhkicaaDoor.X
theorem tab (k : Nat) (h : k < 21) : ∃ (x : InstrRow) (f3 f7 opc : Nat), nth instrTable (k : Int) = some x ∧ x.funct3 = f3 ∧ x.funct7 = f7 ∧ x.opcode = opc ∧ f3 < 8 ∧ f7 < 128 ∧ opc < 128 ∧ nth [0, 0, 0, 4, 6, 7, 6, 4, 1, 5, 2, 0, 3, 2, 0, 2, 0, 1, 0, 0, 0] (k : Int) = some (f3 : Int) ∧
    (k < 11 → nth [0, 32, 1, 1, 1, 0, 0, 0, 0, 32, 0] (k : Int) = some (f7 : Int) ∧ opc = 51) ∧ (k = 11 ∨ k = 12 → opc = 19) ∧ (k = 13 → opc = 3) ∧ (k = 14 → opc = 103) ∧ (k = 15 → opc = 35) ∧ (k = 16 ∨ k = 17 → opc = 99) ∧ (k = 18 → opc = 55) ∧ (k = 19 → opc = 111) ∧ (k = 20 → opc = 115) := by
  have h' : k = 0 ∨ k = 1 ∨ k = 2 ∨ k = 3 ∨ k = 4 ∨ k = 5 ∨ k = 6 ∨ k = 7 ∨ k = 8 ∨ k = 9 ∨ k = 10 ∨ k = 11 ∨ k = 12 ∨ k = 13 ∨ k = 14 ∨ k = 15 ∨ k = 16 ∨ k = 17 ∨ k = 18 ∨ k = 19 ∨ k = 20 := by omega
  rcases h' with rfl | rfl | rfl | rfl | rfl | rfl | rfl | rfl | rfl | rfl | rfl | rfl | rfl | rfl | rfl | rfl | rfl | rfl | rfl | rfl | rfl
  · exact ⟨_, 0, 0, 51, rfl, rfl, rfl, rfl, by decide, by decide, by decide, rfl, fun h => ⟨rfl, rfl⟩, by decide, by decide, by decide, by decide, by decide, by decide, by decide, by decide⟩
  · exact ⟨_, 0, 32, 51, rfl, rfl, rfl, rfl, by decide, by decide, by decide, rfl, fun h => ⟨rfl, rfl⟩, by decide, by decide, by decide, by decide, by decide, by decide, by decide, by decide⟩
  · exact ⟨_, 0, 1, 51, rfl, rfl, rfl, rfl, by decide, by decide, by decide, rfl, fun h => ⟨rfl, rfl⟩, by decide, by decide, by decide, by decide, by decide, by decide, by decide, by decide⟩
  · exact ⟨_, 4, 1, 51, rfl, rfl, rfl, rfl, by decide, by decide, by decide, rfl, fun h => ⟨rfl, rfl⟩, by decide, by decide, by decide, by decide, by decide, by decide, by decide, by decide⟩
  · exact ⟨_, 6, 1, 51, rfl, rfl, rfl, rfl, by decide, by decide, by decide, rfl, fun h => ⟨rfl, rfl⟩, by decide, by decide, by decide, by decide, by decide, by decide, by decide, by decide⟩
  · exact ⟨_, 7, 0, 51, rfl, rfl, rfl, rfl, by decide, by decide, by decide, rfl, fun h => ⟨rfl, rfl⟩, by decide, by decide, by decide, by decide, by decide, by decide, by decide, by decide⟩
  · exact ⟨_, 6, 0, 51, rfl, rfl, rfl, rfl, by decide, by decide, by decide, rfl, fun h => ⟨rfl, rfl⟩, by decide, by decide, by decide, by decide, by decide, by decide, by decide, by decide⟩
  · exact ⟨_, 4, 0, 51, rfl, rfl, rfl, rfl, by decide, by decide, by decide, rfl, fun h => ⟨rfl, rfl⟩, by decide, by decide, by decide, by decide, by decide, by decide, by decide, by decide⟩
  · exact ⟨_, 1, 0, 51, rfl, rfl, rfl, rfl, by decide, by decide, by decide, rfl, fun h => ⟨rfl, rfl⟩, by decide, by decide, by decide, by decide, by decide, by decide, by decide, by decide⟩
  · exact ⟨_, 5, 32, 51, rfl, rfl, rfl, rfl, by decide, by decide, by decide, rfl, fun h => ⟨rfl, rfl⟩, by decide, by decide, by decide, by decide, by decide, by decide, by decide, by decide⟩
  · exact ⟨_, 2, 0, 51, rfl, rfl, rfl, rfl, by decide, by decide, by decide, rfl, fun h => ⟨rfl, rfl⟩, by decide, by decide, by decide, by decide, by decide, by decide, by decide, by decide⟩
  · exact ⟨_, 0, 0, 19, rfl, rfl, rfl, rfl, by decide, by decide, by decide, rfl, fun h => absurd h (by decide), by decide, by decide, by decide, by decide, by decide, by decide, by decide, by decide⟩
  · exact ⟨_, 3, 0, 19, rfl, rfl, rfl, rfl, by decide, by decide, by decide, rfl, fun h => absurd h (by decide), by decide, by decide, by decide, by decide, by decide, by decide, by decide, by decide⟩
  · exact ⟨_, 2, 0, 3, rfl, rfl, rfl, rfl, by decide, by decide, by decide, rfl, fun h => absurd h (by decide), by decide, by decide, by decide, by decide, by decide, by decide, by decide, by decide⟩
  · exact ⟨_, 0, 0, 103, rfl, rfl, rfl, rfl, by decide, by decide, by decide, rfl, fun h => absurd h (by decide), by decide, by decide, by decide, by decide, by decide, by decide, by decide, by decide⟩
  · exact ⟨_, 2, 0, 35, rfl, rfl, rfl, rfl, by decide, by decide, by decide, rfl, fun h => absurd h (by decide), by decide, by decide, by decide, by decide, by decide, by decide, by decide, by decide⟩
  · exact ⟨_, 0, 0, 99, rfl, rfl, rfl, rfl, by decide, by decide, by decide, rfl, fun h => absurd h (by decide), by decide, by decide, by decide, by decide, by decide, by decide, by decide, by decide⟩
  · exact ⟨_, 1, 0, 99, rfl, rfl, rfl, rfl, by decide, by decide, by decide, rfl, fun h => absurd h (by decide), by decide, by decide, by decide, by decide, by decide, by decide, by decide, by decide⟩
  · exact ⟨_, 0, 0, 55, rfl, rfl, rfl, rfl, by decide, by decide, by decide, rfl, fun h => absurd h (by decide), by decide, by decide, by decide, by decide, by decide, by decide, by decide, by decide⟩
  · exact ⟨_, 0, 0, 111, rfl, rfl, rfl, rfl, by decide, by decide, by decide, rfl, fun h => absurd h (by decide), by decide, by decide, by decide, by decide, by decide, by decide, by decide, by decide⟩
  · exact ⟨_, 0, 0, 115, rfl, rfl, rfl, rfl, by decide, by decide, by decide, rfl, fun h => absurd h (by decide), by decide, by decide, by decide, by decide, by decide, by decide, by decide, by decide⟩
theorem shl_lit {n k : Nat} (h : n * 2 ^ k < 9223372036854775808) : w64 ((n : Int) * 2 ^ k) = ((n * 2 ^ k : Nat) : Int) := by
  have : (n : Int) * 2 ^ k = ((n * 2 ^ k : Nat) : Int) := by simp
  rw [this]
  exact w64_id (by omega) (by omega)
theorem uns_ok {x : Int} (h1 : -2147483648 ≤ x) (h2 : x ≤ 2147483647) : ∃ u : Nat, u < 4294967296 ∧ (u : Int) = x % 4294967296 ∧ impl_Unsigned x = some (u : Int) ∧ spec_Unsigned x = some (u : Int) := by
  refine ⟨(x % 4294967296).toNat, by omega, by omega, ?_, ?_⟩
  · unfold impl_Unsigned impl_WordValid
    have e1 : (decide (x ≥ -2147483648) && decide (x ≤ 2147483647)) = true := by rw [decide_eq_true (by omega), decide_eq_true (by omega)]; rfl
    rw [e1]
    simp only [Option.bind_some, Bool.not_true, sel]
    have e2 : kwrap .u32 x = x % 4294967296 := by
      show IntKind.wrap .u32 x = _
      simp [IntKind.wrap, IntKind.signed, IntKind.bits]
    rw [e2, w64_id (by omega) (by omega)]
    congr 1
    omega
  · unfold spec_Unsigned spec_WordValid spec_l6In
    have e1 : (decide (x ≥ -2147483648) && decide (x ≤ 2147483647)) = true := by rw [decide_eq_true (by omega), decide_eq_true (by omega)]; rfl
    rw [e1]
    simp only [Option.bind_some, Bool.not_true]
    rw [sel_false rfl]
    by_cases h : x < 0
    · rw [sel_true (by simpa using h), w64_id (by omega) (by omega)]
      congr 1
      omega
    · rw [sel_false (by simpa using h)]
      congr 1
      omega
theorem mod_ok {x : Int} {p : Nat} (h1 : -(p : Int) ≤ x) (h2 : x < p) (h3 : p ≤ 4294967296) : ∃ m : Nat, m < p ∧ (m : Int) = x % p ∧ spec_l42Mod x p = some (m : Int) := by
  have hp : 0 < (p : Int) := by omega
  unfold spec_l42Mod
  by_cases h : x < 0
  · refine ⟨(x + p).toNat, by omega, ?_, ?_⟩
    · rw [Int.toNat_of_nonneg (by omega), ← Int.add_emod_right, Int.emod_eq_of_lt (by omega) (by omega)]
    · rw [sel_true (by simpa using h), w64_id (by omega) (by omega), Int.toNat_of_nonneg (by omega)]
  · refine ⟨x.toNat, by omega, ?_, ?_⟩
    · rw [Int.toNat_of_nonneg (by omega), Int.emod_eq_of_lt (by omega) (by omega)]
    · rw [sel_false (by simpa using h), Int.toNat_of_nonneg (by omega)]
theorem or_R {f7 rt rs f3 opc rd : Nat} (h1 : opc < 128) (h2 : rd < 32) (h3 : f3 < 8) (h4 : rs < 32) (h5 : rt < 32) :
    ((f7 * 2 ^ 25 ||| (rt * 2 ^ 20 ||| rs * 2 ^ 15 ||| f3 * 2 ^ 12 ||| opc)) ||| rd * 2 ^ 7) = f7 * 2 ^ 25 + rt * 2 ^ 20 + (rs * 2 ^ 15 + f3 * 2 ^ 12 + opc) + rd * 2 ^ 7 := by
  have e : f7 * 2 ^ 25 + rt * 2 ^ 20 + (rs * 2 ^ 15 + f3 * 2 ^ 12 + opc) + rd * 2 ^ 7 = 2 ^ 25 * f7 + (2 ^ 20 * rt + (2 ^ 15 * rs + (2 ^ 12 * f3 + (2 ^ 7 * rd + opc)))) := by omega
  rw [e, add_or (i := 25) (by omega), add_or (i := 20) (by omega), add_or (i := 15) (by omega), add_or (i := 12) (by omega), add_or (i := 7) (by omega)]
  simp only [Nat.mul_comm _ (2 ^ 25), Nat.mul_comm _ (2 ^ 20), Nat.mul_comm _ (2 ^ 15), Nat.mul_comm _ (2 ^ 12), Nat.mul_comm _ (2 ^ 7)]
  ac_rfl
end Go.Proofs.YtdohklfimhkicaaDoor.N
