/- The laws of the runtime's instructions: what they answer. -/
import Derived.Test.YtodnendchboieaaDoorPa
set_option linter.unusedVariables false
set_option maxRecDepth 100000
namespace Go.Proofs.YtodnendchboieaaDoor.N
open Go.Proofs.YtodnendchboieaaDoor.X
def chk (G : Int → Option Bool) : Bool := (List.range 189).all fun i => match G ((i : Int) - 95) with
  | some true => true
  | _ => false
theorem chk_spec {G : Int → Option Bool} (h : chk G = true) (k : Int) (h1 : -95 ≤ k) (h2 : k ≤ 93) : G k = some true := by
  have h3 := List.all_eq_true.1 h (k + 95).toNat (by simp; omega)
  have h4 : ((k + 95).toNat : Int) - 95 = k := by omega
  rw [h4] at h3
  split at h3
  · assumption
  · cases h3
theorem w64_eq (x : Int) : w64 x = if 9223372036854775808 ≤ x % 18446744073709551616 then x % 18446744073709551616 - 18446744073709551616 else x % 18446744073709551616 := by
  show IntKind.wrap .i64 x = _
  simp [IntKind.wrap, IntKind.signed, IntKind.bits]
theorem w64_id {x : Int} (h1 : -9223372036854775808 ≤ x) (h2 : x ≤ 9223372036854775807) : w64 x = x := by
  rw [w64_eq]
  split <;> omega
/-- The first number that is drawn. -/
theorem pick_ok (l : List Int) (m : Int) (hm : 1 ≤ m) (hm2 : m ≤ 1000) : ∃ x, spec_l6Rd_pick ⟨l, 0⟩ m = some (x, 1) ∧ -m < x ∧ x < m := by
  unfold spec_l6Rd_pick
  have e1 : w64 (0 + 1) = 1 := by decide
  have e2 : w64 (1 - 1) = 0 := by decide
  simp only [e1, e2]
  by_cases hl : (l.length : Int) = 0
  · refine ⟨0, ?_, by omega, by omega⟩
    have h1 : (decide (m < 1) || ((l.length : Int) == 0)) = true := by simp [hl]
    rw [h1]
    rfl
  · have h1 : (decide (m < 1) || ((l.length : Int) == 0)) = false := by
      simp only [Bool.or_eq_false_iff, decide_eq_false_iff_not, beq_eq_false_iff_ne]
      exact ⟨by omega, hl⟩
    have h2 : decide ((0 : Int) < (l.length : Int)) = true := by simp only [decide_eq_true_eq]; omega
    rw [h1, h2]
    simp only [sel]
    have h3 : 0 < l.length := by omega
    have h4 : nth l 0 = some (l[0]) := by
      unfold nth
      rw [if_neg (by omega)]
      exact List.getElem?_eq_getElem h3
    rw [h4]
    simp only [Option.bind_some, remO, if_neg (show ¬ m = 0 by omega)]
    refine ⟨_, rfl, ?_, ?_⟩
    · exact Int.lt_tmod_of_pos _ (by omega)
    · exact Int.tmod_lt_of_pos _ (by omega)
theorem draw_ok (l : List Int) : ∃ k, spec_DrawRuntimeInstr l = some k ∧ -95 ≤ k ∧ k ≤ 93 := by
  unfold spec_DrawRuntimeInstr spec_l6Open
  have key : ∀ (l' : List Int), ∃ k, ((spec_l6Rd_pick ⟨l', 0⟩ 95).bind fun y2 => some (w64 (y2.1 - 1))) = some k ∧ -95 ≤ k ∧ k ≤ 93 := by
    intro l'
    obtain ⟨x, hx, h1, h2⟩ := pick_ok l' 95 (by omega) (by omega)
    rw [hx]
    refine ⟨w64 (x - 1), rfl, ?_⟩
    rw [w64_id (by omega) (by omega)]
    omega
  by_cases hl : (l.length : Int) > 2000
  · have h1 : decide ((l.length : Int) > 2000) = true := by simp only [decide_eq_true_eq]; exact hl
    have h2 : cut l 0 2000 = some ((l.take 2000).drop 0) := by
      unfold cut
      rw [if_pos ⟨by omega, by omega, by omega⟩]
      rfl
    simp only [h1, sel, h2, Option.bind_some]
    exact key _
  · have h1 : decide ((l.length : Int) > 2000) = false := by simp only [decide_eq_false_iff_not]; exact hl
    simp only [h1, sel, Option.bind_some]
    exact key _
def g_FnRuntimeEnd (y1 : Int) : Option Bool :=
(some (rt y1)).bind fun y2 =>
(some (rt y1)).bind fun y3 =>
sel (((y2.2 != y3.2) || (!((y2.1.Op == y3.1.Op) && ((y2.1.Rd == y3.1.Rd) && ((y2.1.Rs == y3.1.Rs) && ((y2.1.Rt == y3.1.Rt) && ((y2.1.Imm == y3.1.Imm) && true))))))) || (!y2.2)) (some ((y2.2 == y3.2) && ((y2.1.Op == y3.1.Op) && ((y2.1.Rd == y3.1.Rd) && ((y2.1.Rs == y3.1.Rs) && ((y2.1.Rt == y3.1.Rt) && ((y2.1.Imm == y3.1.Imm) && true))))))) <|
(some (rt (w64 (92 + y1)))).bind fun y4 =>
some ((!y4.2) && ((y2.1.Op == 21) == ((y1 == 44) || (y1 == 91))))
theorem law_FnRuntimeEnd (l : List Int) : laws_FnRuntimeEnd l = some true := by
  unfold laws_FnRuntimeEnd
  cases decide ((l.length : Int) > 1048576)
  · obtain ⟨k, hk, h1, h2⟩ := draw_ok l
    rw [hk]
    simp only [impl_rt, spec_rt]
    exact chk_spec (G := g_FnRuntimeEnd) (by kernel_rfl) k h1 h2
  · rfl
def g_FnRuntimeIdle (y1 : Int) : Option Bool :=
(some (rt y1)).bind fun y2 =>
(some (rt y1)).bind fun y3 =>
sel (((y2.2 != y3.2) || (!((y2.1.Op == y3.1.Op) && ((y2.1.Rd == y3.1.Rd) && ((y2.1.Rs == y3.1.Rs) && ((y2.1.Rt == y3.1.Rt) && ((y2.1.Imm == y3.1.Imm) && true))))))) || (!y2.2)) (some ((y2.2 == y3.2) && ((y2.1.Op == y3.1.Op) && ((y2.1.Rd == y3.1.Rd) && ((y2.1.Rs == y3.1.Rs) && ((y2.1.Rt == y3.1.Rt) && ((y2.1.Imm == y3.1.Imm) && true))))))) <|
some (((!((y2.1.Op == 16) && (y2.1.Rt == 0))) || ((y2.1.Rs == 3) && (y2.1.Imm == 0))) && (((!((y2.1.Op == 14) && (y2.1.Imm == 0))) || (y2.1.Rs == 3)) || (y2.1.Rs == 4)))
theorem law_FnRuntimeIdle (l : List Int) : laws_FnRuntimeIdle l = some true := by
  unfold laws_FnRuntimeIdle
  cases decide ((l.length : Int) > 1048576)
  · obtain ⟨k, hk, h1, h2⟩ := draw_ok l
    rw [hk]
    simp only [impl_rt, spec_rt]
    exact chk_spec (G := g_FnRuntimeIdle) (by kernel_rfl) k h1 h2
  · rfl
def g_FnRuntimeRegs (y1 : Int) : Option Bool :=
(some (rt y1)).bind fun y2 =>
(some (rt y1)).bind fun y3 =>
sel (((y2.2 != y3.2) || (!((y2.1.Op == y3.1.Op) && ((y2.1.Rd == y3.1.Rd) && ((y2.1.Rs == y3.1.Rs) && ((y2.1.Rt == y3.1.Rt) && ((y2.1.Imm == y3.1.Imm) && true))))))) || (!y2.2)) (some ((y2.2 == y3.2) && ((y2.1.Op == y3.1.Op) && ((y2.1.Rd == y3.1.Rd) && ((y2.1.Rs == y3.1.Rs) && ((y2.1.Rt == y3.1.Rt) && ((y2.1.Imm == y3.1.Imm) && true))))))) <|
some ((((((y2.1.Op != 16) || (y2.1.Rs == 3)) || (y2.1.Rs == 4)) || (y2.1.Rs == 6)) || (y2.1.Rs == 29)) && ((!(((y2.1.Op != 16) && (y2.1.Op != 17)) && (y2.1.Op != 18))) || ((y2.1.Rd != 3) && (((y2.1.Rd != 4) || (y1 == 71)) || (y1 == 74)))))
theorem law_FnRuntimeRegs (l : List Int) : laws_FnRuntimeRegs l = some true := by
  unfold laws_FnRuntimeRegs
  cases decide ((l.length : Int) > 1048576)
  · obtain ⟨k, hk, h1, h2⟩ := draw_ok l
    rw [hk]
    simp only [impl_rt, spec_rt]
    exact chk_spec (G := g_FnRuntimeRegs) (by kernel_rfl) k h1 h2
  · rfl
def g_FnRuntime (y1 : Int) : Option Bool :=
(some (rt y1)).bind fun y2 =>
(some (rt y1)).bind fun y3 =>
sel (((y2.2 != y3.2) || (!((y2.1.Op == y3.1.Op) && ((y2.1.Rd == y3.1.Rd) && ((y2.1.Rs == y3.1.Rs) && ((y2.1.Rt == y3.1.Rt) && ((y2.1.Imm == y3.1.Imm) && true))))))) || (!y2.2)) (some ((y2.2 == y3.2) && ((y2.1.Op == y3.1.Op) && ((y2.1.Rd == y3.1.Rd) && ((y2.1.Rs == y3.1.Rs) && ((y2.1.Rt == y3.1.Rt) && ((y2.1.Imm == y3.1.Imm) && true))))))) <|
(impl_InstrValid y2.1).bind fun y4 =>
some (y4 && ((!(((y2.1.Op == 17) || (y2.1.Op == 18)) || (y2.1.Op == 20))) || ((((Int.tmod y2.1.Imm 4) == 0) && (decide ((w64 (y1 + (w64 (Int.tdiv y2.1.Imm 4)))) ≥ 0))) && (decide ((w64 (y1 + (w64 (Int.tdiv y2.1.Imm 4)))) < 92)))))
theorem law_FnRuntime (l : List Int) : laws_FnRuntime l = some true := by
  unfold laws_FnRuntime
  cases decide ((l.length : Int) > 1048576)
  · obtain ⟨k, hk, h1, h2⟩ := draw_ok l
    rw [hk]
    simp only [impl_rt, spec_rt]
    exact chk_spec (G := g_FnRuntime) (by kernel_rfl) k h1 h2
  · rfl
def g_FnRuntimeSave (y1 : Int) : Option Bool :=
(some (rt y1)).bind fun y2 =>
(some (rt y1)).bind fun y3 =>
sel (((y2.2 != y3.2) || (!((y2.1.Op == y3.1.Op) && ((y2.1.Rd == y3.1.Rd) && ((y2.1.Rs == y3.1.Rs) && ((y2.1.Rt == y3.1.Rt) && ((y2.1.Imm == y3.1.Imm) && true))))))) || (!y2.2)) (some ((y2.2 == y3.2) && ((y2.1.Op == y3.1.Op) && ((y2.1.Rd == y3.1.Rd) && ((y2.1.Rs == y3.1.Rs) && ((y2.1.Rt == y3.1.Rt) && ((y2.1.Imm == y3.1.Imm) && true))))))) <|
sel ((decide (y1 < 55)) || (decide (y1 > 67))) ((impl_InstrValid y2.1).bind fun y4 =>
some y4) <|
(some (rt (w64 (y1 + 20)))).bind fun y5 =>
some ((((y5.2 && (y2.1.Op == 16)) && (y2.1.Rs == 4)) && (y2.1.Imm == (w64 (4 * (w64 (y1 - 54)))))) && ((y5.1.Op == 14) && ((y5.1.Rd == y2.1.Rt) && ((y5.1.Rs == 4) && ((y5.1.Rt == 0) && ((y5.1.Imm == y2.1.Imm) && true))))))
theorem law_FnRuntimeSave (l : List Int) : laws_FnRuntimeSave l = some true := by
  unfold laws_FnRuntimeSave
  cases decide ((l.length : Int) > 1048576)
  · obtain ⟨k, hk, h1, h2⟩ := draw_ok l
    rw [hk]
    simp only [impl_rt, spec_rt]
    exact chk_spec (G := g_FnRuntimeSave) (by kernel_rfl) k h1 h2
  · rfl
end Go.Proofs.YtodnendchboieaaDoor.N
