/- The encoding of instructions: reference and program encode alike. -/
import Derived.Test.YtdohklfimhkicaaDoorQ4
import Derived.Test.YtdohklfimhkicaaDoorQ5
import Derived.Test.YtdohklfimhkicaaDoorQ6
import Derived.Test.YtdohklfimhkicaaDoorQ8
set_option linter.unusedVariables false
set_option linter.unusedSimpArgs false
set_option maxRecDepth 100000
set_option maxHeartbeats 4000000
namespace Go.Proofs.YtdohklfimhkicaaDoor.N
open Go.Proofs.YtdohklfimhkicaaDoor.X
/-- Reference and program encode alike. -/
theorem enc_ok (i : Instr) : ∃ r : Nat, ∃ b, r < 4294967296 ∧ spec_InstrEncode i = some ((r : Int), b) ∧ impl_InstrEncode i = some ((r : Int), b) ∧ (b = true → spec_l42Encode i = some (r : Int)) ∧ impl_InstrValid i = some b := by
  obtain ⟨b, v1, v2⟩ := valid_ok i
  cases b
  · refine ⟨0, false, by omega, ?_, ?_, fun h => (by cases h), v2⟩
    · unfold spec_InstrEncode; rw [v1]; rfl
    · unfold impl_InstrEncode; rw [v2]; rfl
  · have key : Enc i := by
      obtain ⟨op, rd, rs, rt, imm⟩ := i
      have v := v1
      unfold spec_InstrValid spec_l6In at v
      simp only [Option.bind_some, sel_and] at v
      rcases op_cases op with h | h | h | h | h | h | h | h
      · rw [sel_true (by simp; omega), regs_ok _ 1 1 1 (.inr rfl) (.inr rfl) (.inr rfl)] at v
        simp at v
        obtain rfl : imm = 0 := by omega
        exact enc_R h (by omega) (by omega) (by omega)
      · rw [sel_false (by simp; omega), sel_true (by simp; omega), regs_ok _ 1 1 0 (.inr rfl) (.inr rfl) (.inl rfl)] at v
        simp only [Option.bind_some, sel_and] at v
        simp at v
        obtain rfl : rt = 0 := by omega
        exact enc_I h (by omega) (by omega) (by omega)
      · rw [sel_false (by simp; omega), sel_false (by simp; omega), sel_true (by simp; omega), regs_ok _ 0 1 1 (.inl rfl) (.inr rfl) (.inr rfl)] at v
        simp only [Option.bind_some, sel_and] at v
        simp at v
        obtain rfl : rd = 0 := by omega
        subst h
        exact enc_S (by omega) (by omega) (by omega)
      · rw [sel_false (by simp; omega), sel_false (by simp; omega), sel_false (by simp; omega), sel_true (by simp; omega), regs_ok _ 0 1 1 (.inl rfl) (.inr rfl) (.inr rfl), even_ok] at v
        simp only [Option.bind_some, sel_and] at v
        simp at v
        obtain rfl : rd = 0 := by omega
        exact enc_B h (by omega) (by omega) (by omega)
      · rw [sel_false (by simp; omega), sel_false (by simp; omega), sel_false (by simp; omega), sel_false (by simp; omega), sel_true (by simp; omega), regs_ok _ 1 0 0 (.inr rfl) (.inl rfl) (.inl rfl)] at v
        simp only [Option.bind_some, sel_and] at v
        simp at v
        obtain rfl : rs = 0 := by omega
        obtain rfl : rt = 0 := by omega
        subst h
        exact enc_U (by omega) (by omega)
      · rw [sel_false (by simp; omega), sel_false (by simp; omega), sel_false (by simp; omega), sel_false (by simp; omega), sel_false (by simp; omega), sel_true (by simp; omega), regs_ok _ 1 0 0 (.inr rfl) (.inl rfl) (.inl rfl), even_ok] at v
        simp only [Option.bind_some, sel_and] at v
        simp at v
        obtain rfl : rs = 0 := by omega
        obtain rfl : rt = 0 := by omega
        subst h
        exact enc_J (by omega) (by omega)
      · rw [sel_false (by simp; omega), sel_false (by simp; omega), sel_false (by simp; omega), sel_false (by simp; omega), sel_false (by simp; omega), sel_false (by simp; omega), regs_ok _ 0 0 0 (.inl rfl) (.inl rfl) (.inl rfl)] at v
        simp only [Option.bind_some, sel_and] at v
        simp at v
        obtain rfl : rd = 0 := by omega
        obtain rfl : rs = 0 := by omega
        obtain rfl : rt = 0 := by omega
        obtain rfl : imm = 0 := by omega
        subst h
        exact enc_E
      · rw [sel_false (by simp; omega), sel_false (by simp; omega), sel_false (by simp; omega), sel_false (by simp; omega), sel_false (by simp; omega), sel_false (by simp; omega), regs_ok _ 0 0 0 (.inl rfl) (.inl rfl) (.inl rfl)] at v
        simp only [Option.bind_some, sel_and] at v
        simp at v
        omega
    obtain ⟨r, k1, k2, k3⟩ := key
    refine ⟨r, true, k1, ?_, k3 v2, fun _ => k2, v2⟩
    unfold spec_InstrEncode
    rw [v1]
    simp only [Option.bind_some]
    exact sel_to rfl (bind_to k2 rfl)
end Go.Proofs.YtdohklfimhkicaaDoor.N
