/- The runtime's instructions: both functions give one list. -/
import Derived.Test.YtodnendchboieaaDoorN
set_option linter.unusedVariables false
set_option maxRecDepth 100000
namespace Go.Proofs.YtodnendchboieaaDoor.N
open Go.Proofs.YtodnendchboieaaDoor.X
def rtList : List Instr := [⟨12, 5, 0, 0, 1⟩, ⟨17, 0, 17, 5, 32⟩, ⟨12, 5, 0, 0, 2⟩, ⟨17, 0, 17, 5, 92⟩, ⟨12, 5, 0, 0, 3⟩, ⟨17, 0, 17, 5, 168⟩, ⟨12, 5, 0, 0, 4⟩, ⟨17, 0, 17, 5, 148⟩, ⟨20, 0, 0, 0, 168⟩, ⟨12, 5, 0, 0, 5⟩, ⟨9, 6, 11, 5, 0⟩, ⟨1, 6, 6, 3, 0⟩, ⟨14, 7, 6, 0, 24⟩, ⟨14, 28, 6, 0, 16⟩, ⟨17, 0, 7, 28, 144⟩, ⟨14, 29, 6, 0, 20⟩, ⟨1, 29, 29, 7, 0⟩, ⟨5, 29, 29, 28, 0⟩, ⟨12, 5, 0, 0, 2⟩, ⟨9, 29, 29, 5, 0⟩, ⟨1, 29, 29, 6, 0⟩, ⟨16, 0, 29, 10, 32⟩, ⟨12, 7, 7, 0, 1⟩, ⟨16, 0, 6, 7, 24⟩, ⟨16, 0, 3, 0, 0⟩, ⟨15, 0, 1, 0, 0⟩, ⟨12, 5, 0, 0, 5⟩, ⟨9, 6, 11, 5, 0⟩, ⟨1, 6, 6, 3, 0⟩, ⟨14, 7, 6, 0, 24⟩, ⟨17, 0, 7, 0, 80⟩, ⟨14, 28, 6, 0, 16⟩, ⟨14, 29, 6, 0, 20⟩, ⟨12, 5, 0, 0, 2⟩, ⟨9, 30, 29, 5, 0⟩, ⟨1, 30, 30, 6, 0⟩, ⟨14, 10, 30, 0, 32⟩, ⟨12, 29, 29, 0, 1⟩, ⟨5, 29, 29, 28, 0⟩, ⟨16, 0, 6, 29, 20⟩, ⟨12, 7, 7, 0, -1⟩, ⟨16, 0, 6, 7, 24⟩, ⟨16, 0, 3, 0, 0⟩, ⟨15, 0, 1, 0, 0⟩, ⟨21, 0, 0, 0, 0⟩, ⟨16, 0, 3, 0, 0⟩, ⟨15, 0, 1, 0, 0⟩, ⟨12, 5, 1, 0, 0⟩, ⟨16, 0, 3, 0, 0⟩, ⟨20, 0, 0, 0, 20⟩, ⟨12, 5, 0, 0, 0⟩, ⟨14, 6, 3, 0, 0⟩, ⟨12, 6, 6, 0, 1⟩, ⟨16, 0, 3, 6, 0⟩, ⟨16, 0, 4, 5, 0⟩, ⟨16, 0, 4, 1, 4⟩, ⟨16, 0, 4, 2, 8⟩, ⟨16, 0, 4, 8, 12⟩, ⟨16, 0, 4, 9, 16⟩, ⟨16, 0, 4, 18, 20⟩, ⟨16, 0, 4, 19, 24⟩, ⟨16, 0, 4, 20, 28⟩, ⟨16, 0, 4, 21, 32⟩, ⟨16, 0, 4, 22, 36⟩, ⟨16, 0, 4, 23, 40⟩, ⟨16, 0, 4, 10, 44⟩, ⟨16, 0, 4, 11, 48⟩, ⟨16, 0, 4, 17, 52⟩, ⟨14, 6, 3, 0, 0⟩, ⟨14, 7, 3, 0, 4⟩, ⟨17, 0, 6, 7, 80⟩, ⟨12, 4, 4, 0, 64⟩, ⟨14, 5, 3, 0, 12⟩, ⟨18, 0, 4, 5, 8⟩, ⟨14, 4, 3, 0, 8⟩, ⟨14, 1, 4, 0, 4⟩, ⟨14, 2, 4, 0, 8⟩, ⟨14, 8, 4, 0, 12⟩, ⟨14, 9, 4, 0, 16⟩, ⟨14, 18, 4, 0, 20⟩, ⟨14, 19, 4, 0, 24⟩, ⟨14, 20, 4, 0, 28⟩, ⟨14, 21, 4, 0, 32⟩, ⟨14, 22, 4, 0, 36⟩, ⟨14, 23, 4, 0, 40⟩, ⟨14, 10, 4, 0, 44⟩, ⟨14, 11, 4, 0, 48⟩, ⟨14, 17, 4, 0, 52⟩, ⟨14, 5, 4, 0, 0⟩, ⟨15, 0, 5, 0, 0⟩, ⟨12, 17, 0, 0, 0⟩, ⟨21, 0, 0, 0, 0⟩]
def saveList : List Instr := [⟨16, 0, 4, 5, 0⟩, ⟨16, 0, 4, 1, 4⟩, ⟨16, 0, 4, 2, 8⟩, ⟨16, 0, 4, 8, 12⟩, ⟨16, 0, 4, 9, 16⟩, ⟨16, 0, 4, 18, 20⟩, ⟨16, 0, 4, 19, 24⟩, ⟨16, 0, 4, 20, 28⟩, ⟨16, 0, 4, 21, 32⟩, ⟨16, 0, 4, 22, 36⟩, ⟨16, 0, 4, 23, 40⟩, ⟨16, 0, 4, 10, 44⟩, ⟨16, 0, 4, 11, 48⟩, ⟨16, 0, 4, 17, 52⟩]
def loadList : List Instr := [⟨14, 6, 3, 0, 0⟩, ⟨14, 7, 3, 0, 4⟩, ⟨17, 0, 6, 7, 80⟩, ⟨12, 4, 4, 0, 64⟩, ⟨14, 5, 3, 0, 12⟩, ⟨18, 0, 4, 5, 8⟩, ⟨14, 4, 3, 0, 8⟩, ⟨14, 1, 4, 0, 4⟩, ⟨14, 2, 4, 0, 8⟩, ⟨14, 8, 4, 0, 12⟩, ⟨14, 9, 4, 0, 16⟩, ⟨14, 18, 4, 0, 20⟩, ⟨14, 19, 4, 0, 24⟩, ⟨14, 20, 4, 0, 28⟩, ⟨14, 21, 4, 0, 32⟩, ⟨14, 22, 4, 0, 36⟩, ⟨14, 23, 4, 0, 40⟩, ⟨14, 10, 4, 0, 44⟩, ⟨14, 11, 4, 0, 48⟩, ⟨14, 17, 4, 0, 52⟩, ⟨14, 5, 4, 0, 0⟩, ⟨15, 0, 5, 0, 0⟩]
theorem save_eq : spec_l46Save = some saveList := by
  unfold spec_l46Save
  refine bind_to (y := ⟨16, 0, 4, 5, 0⟩) rfl ?_
  refine bind_to (y := savedRegs) rfl ?_
  refine bind_to (y := saveList) (iter_k 14 (by kernel_rfl)) ?_
  rfl
theorem load_eq : spec_l46Load = some loadList := by
  unfold spec_l46Load
  iterate 7 refine bind_to rfl ?_
  refine bind_to (y := savedRegs) rfl ?_
  refine bind_to (y := loadList.take 20) (iter_k 14 (by kernel_rfl)) ?_
  kernel_rfl
theorem code_eq : spec_l46Code = some rtList := by
  unfold spec_l46Code
  rw [save_eq, load_eq]
  kernel_rfl
theorem list_eq : impl_runtimeList = some rtList := by
  unfold impl_runtimeList
  iterate 54 refine bind_to rfl ?_
  refine bind_to (y := rtList.take 68) (iter_k 14 (by kernel_rfl)) ?_
  iterate 7 refine bind_to rfl ?_
  refine bind_to (y := rtList.take 75) (by kernel_rfl) ?_
  refine bind_to (y := rtList.take 88) (iter_k 14 (by kernel_rfl)) ?_
  kernel_rfl
def rt (a : Int) : Instr × Bool := if 0 ≤ a ∧ a ≤ 91 then (rtList.getD a.toNat ⟨0, 0, 0, 0, 0⟩, true) else (⟨0, 0, 0, 0, 0⟩, false)
theorem nth_rt {a : Int} (h0 : 0 ≤ a) (h1 : a ≤ 91) : nth rtList a = some (rtList.getD a.toNat ⟨0, 0, 0, 0, 0⟩) := by
  unfold nth
  rw [if_neg (by omega)]
  have hl : rtList.length = 92 := by kernel_rfl
  have : a.toNat < rtList.length := by omega
  rw [List.getD_eq_getElem?_getD, List.getElem?_eq_getElem this]
  rfl
theorem spec_rt (a : Int) : spec_RuntimeInstr a = some (rt a) := by
  unfold spec_RuntimeInstr spec_l6In
  rw [code_eq]
  by_cases h : 0 ≤ a ∧ a ≤ 91
  · simp [sel, rt, h, nth_rt h.1 h.2]
  · have : (decide (a ≥ 0) && decide (a ≤ 91)) = false := by
      simp only [Bool.and_eq_false_iff, decide_eq_false_iff_not]
      omega
    simp only [Option.bind_some, this, Bool.not_false, sel, rt, if_neg h]
theorem impl_rt (a : Int) : impl_RuntimeInstr a = some (rt a) := by
  unfold impl_RuntimeInstr
  rw [list_eq]
  have hl : (rtList.length : Int) = 92 := by kernel_rfl
  simp only [Option.bind_some, hl]
  by_cases h : 0 ≤ a ∧ a ≤ 91
  · have : (decide (a < 0) || decide (a ≥ 92)) = false := by
      simp only [Bool.or_eq_false_iff, decide_eq_false_iff_not]
      omega
    simp only [this, sel, nth_rt h.1 h.2, rt, if_pos h, Option.bind_some]
  · have : (decide (a < 0) || decide (a ≥ 92)) = true := by
      simp only [Bool.or_eq_true, decide_eq_true_eq]
      omega
    simp only [this, sel, rt, if_neg h]
theorem eqInstr_refl (x : Instr) : laws_eqInstr x x = some true := by
  simp [laws_eqInstr, sel]
theorem law_exact (a : Int) : laws_FnExactRuntimeInstr a = some true := by
  unfold laws_FnExactRuntimeInstr
  rw [spec_rt, impl_rt]
  simp [eqInstr_refl, sel]
end Go.Proofs.YtodnendchboieaaDoor.N
