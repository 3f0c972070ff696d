/- The law's own words: rows and machines are copied, compared, marked and found again. -/
import Derived.Test.YtdohklfimhkicaaDoorP0
import Derived.Test.YtdohklfimhkicaaDoorSe
set_option linter.unusedVariables false
set_option maxRecDepth 100000
namespace Go.Proofs.YtdohklfimhkicaaDoor.N
open Go.Proofs.YtdohklfimhkicaaDoor.X
theorem sz_ok {l : List Int} {k : Int} (hl : l.length ≤ maxLen) (hk : 0 ≤ k) (hk2 : k ≤ 1048576) : laws_szIntS l k = some (if k - l.length < 0 then -1 else k - l.length) := by
  have hm : (maxLen : Int) = 9223372036854775807 := by decide
  unfold laws_szIntS
  rw [w64_id (by omega) (by omega)]
  by_cases h : k - l.length < 0
  · rw [if_pos h, sel_true (by simpa using h)]
  · rw [if_neg h, sel_false (by simpa using h)]
theorem szMachine_ok (m : Machine) (h1 : m.Regs.length ≤ maxLen) (h2 : m.Mem.length ≤ maxLen) : ∃ y, laws_szMachine m 1048576 = some y ∧ (¬ y < 0 → m.Regs.length ≤ 1048576 ∧ m.Mem.length ≤ 1048576) := by
  unfold laws_szMachine
  rw [sz_ok h1 (by omega) (by omega)]
  simp only [Option.bind_some]
  by_cases h : (1048576 : Int) - m.Regs.length < 0
  · rw [if_pos h]
    exact ⟨-1, rfl, fun h => absurd (by omega) h⟩
  · rw [if_neg h, sel_false (by simpa using h), sz_ok h2 (by omega) (by omega)]
    simp only [Option.bind_some]
    by_cases h' : (1048576 : Int) - m.Regs.length - m.Mem.length < 0
    · rw [if_pos h']
      exact ⟨-1, rfl, fun h => absurd (by omega) h⟩
    · rw [if_neg h', sel_false (by simpa using h')]
      exact ⟨_, rfl, fun _ => by omega⟩
theorem toIntS_ok (l : List Int) (h : l.length ≤ 1048576) : laws_toIntS l = some l := by
  unfold laws_toIntS
  rw [mk_ok (by omega)]
  have := iter_st (f := laws_toIntS_b1 l) (fun i => ((i : Int), l.take i ++ List.replicate (l.length - i) 0)) l.length (r := l) (fun i hi => ?_) ?_
  · simp only [Option.bind_some]
    simp only [List.take_zero, Nat.sub_zero, List.nil_append] at this
    rw [show ((0 : Nat) : Int) = 0 from rfl] at this
    rw [this]
    rfl
  · unfold laws_toIntS_b1
    have hlen : i < (l.take i ++ List.replicate (l.length - i) (0 : Int)).length := by simp; omega
    rw [sel_true (by simpa using hi)]
    simp only [nth_at hi, nth_at hlen, upd_at hlen, Option.bind_some, w64_nat (show i ≤ 9223372036854775806 by omega)]
    congr 3
    rw [List.set_append_right _ _ (by simp; omega)]
    have : i - (l.take i).length = 0 := by simp; omega
    rw [this, show l.length - i = (l.length - (i + 1)) + 1 by omega, List.replicate_succ, List.set_cons_zero, ← List.take_append_getElem hi, List.append_assoc]
    rfl
  · unfold laws_toIntS_b1
    rw [sel_false (by simp)]
    simp
theorem eqIntS_ok (l : List Int) (h : l.length ≤ 1048576) : laws_eqIntS l l = some true := by
  unfold laws_eqIntS
  rw [sel_false (by simp)]
  have e : iter (laws_eqIntS_b1 l l) 0 = some (.inr ()) := eq_loop (l := l) (by omega) (fun i hi => by
    unfold laws_eqIntS_b1
    rw [sel_true (by simpa using hi)]
    simp only [nth_at hi, Option.bind_some]
    rw [sel_false (by simp)]) (by
    unfold laws_eqIntS_b1
    rw [sel_false (by simp)])
  rw [e]
  rfl
def MkI : Int → Int → Option (Int × Int) := fun _ k => some (w64 (k + 1), k)
def HdI : Int → Int → Int → Prop := fun x k k' => x = k ∧ k' = w64 (k + 1)
theorem mhI : MH MkI HdI (fun _ => 1) := fun x k h1 h2 => ⟨k, by unfold MkI; rw [w64_id (by omega) (by omega)]; rfl, rfl, by rw [w64_id (by omega) (by omega)]; rfl⟩
theorem markIntS_loop {l : List Int} {k : Int} {r : Int × List Int} (hl : l.length ≤ 1000000000000) (h : markL MkI l k = some r) : laws_markIntS l k = some r := by
  unfold laws_markIntS
  rw [mark_loop (f := laws_markIntS_b1) MkI (fun k l i hi k' x' hm hlen => ?_) (fun k l => ?_) (by omega) h]
  · rfl
  · simp only [MkI, Option.some.injEq, Prod.mk.injEq] at hm
    obtain ⟨rfl, rfl⟩ := hm
    unfold laws_markIntS_b1
    rw [sel_true (by simpa using hi)]
    simp only [nth_at hi, upd_at hi, Option.bind_some, w64_nat (show i ≤ 9223372036854775806 by omega)]
  · unfold laws_markIntS_b1
    rw [sel_false (by simp)]
theorem heldIntS_loop {l : List Int} {k k' : Int} (hl : l.length ≤ 1000000000000) (h : HeldL HdI l k k') : laws_heldIntS l k = some k' := by
  unfold laws_heldIntS
  rw [held_loop (f := laws_heldIntS_b1 l) HdI (by omega) (fun k i hi k' hm => ?_) (fun k => ?_) h]
  · rfl
  · obtain ⟨h1, rfl⟩ := hm
    unfold laws_heldIntS_b1
    rw [sel_true (by simpa using hi)]
    simp only [nth_at hi, Option.bind_some]
    rw [sel_false (by simp [h1])]
    simp only [w64_nat (show i ≤ 9223372036854775806 by omega)]
  · unfold laws_heldIntS_b1
    rw [sel_false (by simp)]
theorem mhIS : MH laws_markIntS (fun l k k' => laws_heldIntS l k = some k') (fun l => l.length) := fun l k h1 h2 => by
  obtain ⟨l', k1, k2, k3⟩ := mhI.list l k h1 (by rw [szs_one]; exact h2)
  rw [szs_one] at k1 k2
  have h2' : k + l.length ≤ 1000000000000 := h2
  exact ⟨l', markIntS_loop (by omega) k1, heldIntS_loop (by omega) k2⟩
theorem eqMachine_ok (m : Machine) (h1 : m.Regs.length ≤ 1048576) (h2 : m.Mem.length ≤ 1048576) : laws_eqMachine m m = some true := by
  unfold laws_eqMachine
  rw [eqIntS_ok _ h1, eqIntS_ok _ h2]
  simp [sel]
theorem markMachine_ok (m : Machine) (k : Int) (hk : 1 ≤ k) (h2 : k + m.Regs.length + m.Mem.length ≤ 1000000000000) : ∃ r, laws_markMachine m k = some (k + m.Regs.length + m.Mem.length, r) := by
  unfold laws_markMachine
  obtain ⟨l1, k1, _⟩ := mhIS m.Regs k hk (by show k + (m.Regs.length : Int) ≤ _; omega)
  obtain ⟨l2, k2, _⟩ := mhIS m.Mem (k + m.Regs.length) (by omega) (by show k + m.Regs.length + (m.Mem.length : Int) ≤ _; omega)
  rw [k1]
  simp only [Option.bind_some, k2]
  exact ⟨_, rfl⟩

theorem heldMachine_ok (m : Machine) (h2 : m.Regs.length + m.Mem.length ≤ 1000000000) : ∃ k r1 r2, laws_markMachine m 1 = some (k, r1, r2) ∧ 0 ≤ k ∧ k = 1 + m.Regs.length + m.Mem.length ∧ ∀ pc, laws_heldMachine (Machine.mk r1 pc r2) 1 = some k := by
  obtain ⟨l1, k1, q1⟩ := mhIS m.Regs 1 (by omega) (by show (1 : Int) + (m.Regs.length : Int) ≤ _; omega)
  obtain ⟨l2, k2, q2⟩ := mhIS m.Mem (1 + m.Regs.length) (by omega) (by show (1 : Int) + m.Regs.length + (m.Mem.length : Int) ≤ _; omega)
  refine ⟨1 + m.Regs.length + m.Mem.length, l1, l2, ?_, by omega, rfl, fun pc => ?_⟩
  · unfold laws_markMachine
    rw [k1]
    simp only [Option.bind_some, k2]
  · unfold laws_heldMachine
    simp only
    rw [q1]
    simp only [Option.bind_some]
    rw [sel_false (by simp; omega), q2]
    simp only [Option.bind_some]
    rw [sel_false (by simp; omega)]
theorem toMachine_ok (m : Machine) (h1 : m.Regs.length ≤ 1048576) (h2 : m.Mem.length ≤ 1048576) : laws_toMachine m = some m := by
  unfold laws_toMachine
  rw [toIntS_ok _ h1, toIntS_ok _ h2]
  rfl
end Go.Proofs.YtdohklfimhkicaaDoor.N
