/- The law FnExactImageNew answers true. Conditions: the rows are no longer than rows can be. -/
import Derived.Test.YtdohklfimhkicaaDoorQc
import Derived.Test.YtdohklfimhkicaaDoorQd
set_option linter.unusedVariables false
set_option linter.unusedSimpArgs false
set_option maxRecDepth 100000
set_option maxHeartbeats 4000000
namespace Go.Proofs.YtdohklfimhkicaaDoor.N
open Go.Proofs.YtdohklfimhkicaaDoor.X
theorem mem_szs : ∀ {l : List (List Instr)} {x : List Instr}, x ∈ l → x.length ≤ szs List.length l
  | [], x, h => by simp at h
  | y :: ys, x, h => by
    simp only [szs]
    rcases List.mem_cons.1 h with rfl | h
    · omega
    · have := mem_szs h; omega
theorem szs_mul : ∀ (l : List (List Instr)), szs (fun l => 5 * l.length) l = 5 * szs List.length l
  | [] => rfl
  | x :: xs => by simp only [szs, szs_mul xs]; omega
theorem law_new (p : List Int) (q : List (List Instr)) (h2 : q.length ≤ maxLen) (h3 : ∀ x ∈ q, x.length ≤ maxLen) : laws_FnExactImageNew p q = some true := by
  unfold laws_FnExactImageNew
  by_cases hp : (p.length : Int) > 1048576
  · exact sel_tt' (by simpa using hp) rfl
  refine sel_to (by simpa using hp) ?_
  obtain ⟨y, e1, hy⟩ := szInstrSS_ok q h2 h3
  refine bind_to e1 ?_
  by_cases hy0 : y < 0
  · exact sel_tt' (by simpa using hy0) rfl
  refine sel_to (by simpa using hy0) ?_
  obtain ⟨g1, g2⟩ := hy hy0
  have g3 : p.length ≤ 1048576 := by omega
  have g4 : ∀ x ∈ q, x.length ≤ 1048576 := fun x hx => by have := mem_szs hx; omega
  have ti := toIntS_ok p g3
  have tq := toInstrSS_ok q g1 g4
  obtain ⟨⟨m, d, b⟩, s1, s2, s3, s4⟩ := new_ok p q g3 g1 g2
  simp only at s3 s4
  have em : laws_eqMachine m m = some true := eqMachine_ok m (by omega) (by omega)
  have ep := eqIntS_ok p g3
  have eq_ := eqInstrSS_ok q g1 g4
  obtain ⟨p', k1, _⟩ := mhIS p 1 (by omega) (by show (1 : Int) + (p.length : Int) ≤ _; omega)
  obtain ⟨q', k2⟩ := mhNSS q (1 + p.length) (by omega) (by omega) (by rw [szs_mul]; omega)
  obtain ⟨k, r1, r2, k3, k4, _, k5⟩ := heldMachine_ok m (by omega)
  refine bind_to ti ?_
  refine bind_to tq ?_
  refine bind_to s1 ?_
  refine bind_to ti ?_
  refine bind_to tq ?_
  refine bind_to s2 ?_
  refine bind_to (show laws_eqMachine (Machine.mk m.Regs m.Pc m.Mem) (Machine.mk m.Regs m.Pc m.Mem) = some true from em) ?_
  refine sel_to (by simp) ?_
  refine bind_to ti ?_
  refine bind_to ep ?_
  refine sel_to (b := !true) rfl ?_
  refine bind_to tq ?_
  refine bind_to eq_ ?_
  refine sel_to (b := !true) rfl ?_
  refine bind_to k1 ?_
  refine bind_to k2 ?_
  refine bind_to (y := false) (sel_to (by simp; omega) (bind_to em rfl)) ?_
  refine sel_to (by simp) ?_
  refine bind_to (show laws_markMachine (Machine.mk m.Regs m.Pc m.Mem) 1 = some (k, r1, r2) from k3) ?_
  refine bind_to (k5 m.Pc) ?_
  refine sel_to (by simpa using k4) ?_
  refine sel_to (by simp) ?_
  refine bind_to ti ?_
  refine bind_to tq ?_
  refine bind_to s2 ?_
  refine bind_to (show laws_eqMachine (Machine.mk m.Regs m.Pc m.Mem) (Machine.mk m.Regs m.Pc m.Mem) = some true from em) ?_
  refine sel_to (by simp) ?_
  refine bind_to (k5 m.Pc) ?_
  refine sel_to (by simpa using k4) ?_
  exact sel_to (by simp) rfl
end Go.Proofs.YtdohklfimhkicaaDoor.N
