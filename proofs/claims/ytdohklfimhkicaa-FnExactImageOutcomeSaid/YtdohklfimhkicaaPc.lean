/- The law FnExactImageOutcome answers true. Conditions: the rows are no longer than rows can be, the data's address is a 64-bit number. -/
import Derived.Test.YtdohklfimhkicaaPb
set_option linter.unusedVariables false
set_option linter.unusedSimpArgs false
set_option maxRecDepth 100000
set_option maxHeartbeats 4000000
namespace Go.Proofs.Ytdohklfimhkicaa.N
open Go.Proofs.Ytdohklfimhkicaa.X
theorem szMachine_ok (m : Machine) (h1 : m.Regs.length ≤ maxLen) (h2 : m.Mem.length ≤ maxLen) : ∃ y, laws_szMachine m 1048576 = some y ∧ (¬ y < 0 → m.Regs.length ≤ 1048576 ∧ m.Mem.length ≤ 1048576) := by
  unfold laws_szMachine
  rw [sz_ok h1 (by omega) (by omega)]
  simp only [Option.bind_some]
  by_cases h : (1048576 : Int) - m.Regs.length < 0
  · rw [if_pos h]
    exact ⟨-1, rfl, fun h => absurd (by omega) h⟩
  · rw [if_neg h, sel_false (by simpa using h), sz_ok h2 (by omega) (by omega)]
    simp only [Option.bind_some]
    by_cases h' : (1048576 : Int) - m.Regs.length - m.Mem.length < 0
    · rw [if_pos h']
      exact ⟨-1, rfl, fun h => absurd (by omega) h⟩
    · rw [if_neg h', sel_false (by simpa using h')]
      exact ⟨_, rfl, fun _ => by omega⟩
theorem eqOutcome_ok (o : Outcome) (h1 : o.Out.length ≤ 1048576) (h2 : o.Items.length ≤ 3 ∧ ∀ x ∈ o.Items, x.length ≤ 4) (h3 : o.Ended.length ≤ 3) : laws_eqOutcome o o = some true := by
  unfold laws_eqOutcome
  rw [eqIntS_ok _ h1, eqIntSS_ok _ (by omega) (fun x hx => by have := h2.2 x hx; omega), eqBoolS_ok _ (by omega)]
  simp [sel]
theorem szs_le : ∀ (l : List (List Int)), (∀ x ∈ l, x.length ≤ 4) → szs (fun l => l.length) l ≤ 4 * l.length
  | [], _ => by simp [szs]
  | x :: xs, h => by
    have := szs_le xs fun y hy => h y (by simp [hy])
    have := h x (by simp)
    simp only [szs, List.length_cons]
    omega
theorem markOutcome_ok (o : Outcome) (h1 : o.Out.length ≤ 1048576) (h2 : o.Items.length ≤ 3 ∧ ∀ x ∈ o.Items, x.length ≤ 4) (h3 : o.Ended.length ≤ 3) :
    ∃ k r, laws_markOutcome o 1 = some (k, r) ∧ ∀ b, laws_heldOutcome (Outcome.mk r.1 r.2.1 r.2.2 b) 1 = some k ∧ 0 ≤ k := by
  have h4 := szs_le o.Items h2.2
  have g1 : (1 : Int) + (o.Out.length : Nat) ≤ 1000000000000 := by omega
  obtain ⟨l1, a1, b1⟩ := mhIS o.Out 1 (by omega) g1
  obtain ⟨l2, a2, b2⟩ := mhISS o.Items (1 + o.Out.length) (by omega) (by omega) (by omega)
  obtain ⟨l3, a3, b3⟩ := mhBS o.Ended (1 + o.Out.length + szs (fun l => l.length) o.Items) (by omega) (by omega)
  refine ⟨1 + o.Out.length + szs (fun l => l.length) o.Items + o.Ended.length, (l1, l2, l3), ?_, fun b => ⟨?_, by omega⟩⟩
  · unfold laws_markOutcome
    rw [a1]
    simp only [Option.bind_some, a2, a3]
  · unfold laws_heldOutcome
    simp only
    rw [b1]
    simp only [Option.bind_some]
    rw [sel_false (by simp; omega), b2]
    simp only [Option.bind_some]
    rw [sel_false (by simp; omega), b3]
    simp only [Option.bind_some]
    rw [sel_false (by simp; omega)]
theorem law_ok (m : Machine) (d : Int) (p : List Int) (h1 : m.Regs.length ≤ maxLen) (h2 : m.Mem.length ≤ maxLen) (hd : -9223372036854775808 ≤ d) (hd2 : d ≤ 9223372036854775807) : laws_FnExactImageOutcome m d p = some true := by
  unfold laws_FnExactImageOutcome
  by_cases hp : (p.length : Int) > 1048576
  · rw [sel_true (by simpa using hp)]
  rw [sel_false (by simpa using hp)]
  obtain ⟨y, e1, hy⟩ := szMachine_ok m h1 h2
  refine bind_to (show laws_szMachine (Machine.mk m.Regs m.Pc m.Mem) 1048576 = some y from e1) ?_
  by_cases hy0 : y < 0
  · rw [sel_true (by simpa using hy0)]
  obtain ⟨g1, g2⟩ := hy hy0
  have g3 : p.length ≤ 1048576 := by omega
  have tm : laws_toMachine (Machine.mk m.Regs m.Pc m.Mem) = some m := toMachine_ok m g1 g2
  have ti := toIntS_ok p g3
  obtain ⟨o, s1, s2, s3, s4, s5⟩ := outcome_ok m d p g1 g2 g3 hd hd2
  obtain ⟨k1, k2⟩ := markMachine_ok m 1 (by omega) (by omega)
  have gp : (1 : Int) + m.Regs.length + m.Mem.length + (p.length : Nat) ≤ 1000000000000 := by omega
  obtain ⟨p', k3, _⟩ := mhIS p (1 + m.Regs.length + m.Mem.length) (by omega) gp
  obtain ⟨q, r, k4, k5⟩ := markOutcome_ok o s3 s4 s5
  have eo := eqOutcome_ok o s3 s4 s5
  have em := eqMachine_ok m g1 g2
  have ep := eqIntS_ok p g3
  rw [sel_false (by simpa using hy0)]
  refine bind_to tm ?_
  refine bind_to ti ?_
  refine bind_to (show spec_ImageOutcome (Machine.mk m.Regs m.Pc m.Mem) d p = some o from s1) ?_
  refine bind_to tm ?_
  refine bind_to ti ?_
  refine bind_to (show impl_ImageOutcome (Machine.mk m.Regs m.Pc m.Mem) d p = some o from s2) ?_
  refine bind_to (show laws_eqOutcome (Outcome.mk o.Out o.Items o.Ended o.Rest) (Outcome.mk o.Out o.Items o.Ended o.Rest) = some true from eo) ?_
  refine sel_to rfl ?_
  refine bind_to tm ?_
  refine bind_to (show laws_eqMachine (Machine.mk m.Regs m.Pc m.Mem) (Machine.mk m.Regs m.Pc m.Mem) = some true from em) ?_
  refine sel_to rfl ?_
  refine bind_to ti ?_
  refine bind_to ep ?_
  refine sel_to rfl ?_
  refine bind_to (show laws_markMachine (Machine.mk m.Regs m.Pc m.Mem) 1 = some _ from k2) ?_
  refine bind_to (y := (1 + m.Regs.length + m.Mem.length + (p.length : Int), p')) k3 ?_
  refine bind_to (y := false) (sel_to (b := decide (1 + (m.Regs.length : Int) + m.Mem.length + p.length < 0)) (by simp; omega) (bind_to eo rfl)) ?_
  refine sel_to rfl ?_
  refine bind_to (show laws_markOutcome (Outcome.mk o.Out o.Items o.Ended o.Rest) 1 = some (q, r) from k4) ?_
  refine bind_to (k5 o.Rest).1 ?_
  have hq := (k5 o.Rest).2
  refine sel_to (by simpa using hq) ?_
  refine sel_to (by simp) ?_
  refine bind_to tm ?_
  refine bind_to ti ?_
  refine bind_to (show impl_ImageOutcome (Machine.mk m.Regs m.Pc m.Mem) d p = some o from s2) ?_
  refine bind_to (show laws_eqOutcome (Outcome.mk o.Out o.Items o.Ended o.Rest) (Outcome.mk o.Out o.Items o.Ended o.Rest) = some true from eo) ?_
  refine sel_to rfl ?_
  refine bind_to (k5 o.Rest).1 ?_
  refine sel_to (by simpa using hq) ?_
  refine sel_to (by simp) rfl
end Go.Proofs.Ytdohklfimhkicaa.N
