/- The words of the exact laws' rows: what is converted, compared, marked and held. -/
import Derived.Test.YtdohklfimhkicaaDoorP0
import Derived.Test.YtdohklfimhkicaaDoorT9
set_option linter.unusedVariables false
set_option linter.unusedSimpArgs false
set_option maxRecDepth 100000
set_option maxHeartbeats 4000000
namespace Go.Proofs.YtdohklfimhkicaaDoor.N
open Go.Proofs.YtdohklfimhkicaaDoor.X
theorem sel_tt' {α : Type} {b : Bool} {x y r : α} (h : b = true) (k : x = r) : sel b x y = r := by subst h; exact k
theorem toIntS_ok (l : List Int) (h : l.length ≤ 1048576) : laws_toIntS l = some l := by
  unfold laws_toIntS
  rw [mk_ok (by omega)]
  have := iter_st (f := laws_toIntS_b1 l) (fun i => ((i : Int), l.take i ++ List.replicate (l.length - i) 0)) l.length (r := l) (fun i hi => ?_) ?_
  · simp only [Option.bind_some]
    simp only [List.take_zero, Nat.sub_zero, List.nil_append] at this
    rw [show ((0 : Nat) : Int) = 0 from rfl] at this
    rw [this]
    rfl
  · unfold laws_toIntS_b1
    have hlen : i < (l.take i ++ List.replicate (l.length - i) (0 : Int)).length := by simp; omega
    rw [sel_true (by simpa using hi)]
    simp only [nth_at hi, nth_at hlen, upd_at hlen, Option.bind_some, w64_nat (show i ≤ 9223372036854775806 by omega)]
    congr 3
    rw [List.set_append_right _ _ (by simp; omega)]
    have : i - (l.take i).length = 0 := by simp; omega
    rw [this, show l.length - i = (l.length - (i + 1)) + 1 by omega, List.replicate_succ, List.set_cons_zero, ← List.take_append_getElem hi, List.append_assoc]
    rfl
  · unfold laws_toIntS_b1
    rw [sel_false (by simp)]
    simp
theorem eqIntS_ok (l : List Int) (h : l.length ≤ 1048576) : laws_eqIntS l l = some true := by
  unfold laws_eqIntS
  rw [sel_false (by simp)]
  have e : iter (laws_eqIntS_b1 l l) 0 = some (.inr ()) := eq_loop (l := l) (by omega) (fun i hi => by
    unfold laws_eqIntS_b1
    rw [sel_true (by simpa using hi)]
    simp only [nth_at hi, Option.bind_some]
    rw [sel_false (by simp)]) (by
    unfold laws_eqIntS_b1
    rw [sel_false (by simp)])
  rw [e]
  rfl
def MkI : Int → Int → Option (Int × Int) := fun _ k => some (w64 (k + 1), k)
def HdI : Int → Int → Int → Prop := fun x k k' => x = k ∧ k' = w64 (k + 1)
theorem mhI : MH MkI HdI (fun _ => 1) := fun x k h1 h2 => ⟨k, by unfold MkI; rw [w64_id (by omega) (by omega)]; rfl, rfl, by rw [w64_id (by omega) (by omega)]; rfl⟩
theorem markIntS_loop {l : List Int} {k : Int} {r : Int × List Int} (hl : l.length ≤ 1000000000000) (h : markL MkI l k = some r) : laws_markIntS l k = some r := by
  unfold laws_markIntS
  rw [mark_loop (f := laws_markIntS_b1) MkI (fun k l i hi k' x' hm hlen => ?_) (fun k l => ?_) (by omega) h]
  · rfl
  · simp only [MkI, Option.some.injEq, Prod.mk.injEq] at hm
    obtain ⟨rfl, rfl⟩ := hm
    unfold laws_markIntS_b1
    rw [sel_true (by simpa using hi)]
    simp only [nth_at hi, upd_at hi, Option.bind_some, w64_nat (show i ≤ 9223372036854775806 by omega)]
  · unfold laws_markIntS_b1
    rw [sel_false (by simp)]
theorem heldIntS_loop {l : List Int} {k k' : Int} (hl : l.length ≤ 1000000000000) (h : HeldL HdI l k k') : laws_heldIntS l k = some k' := by
  unfold laws_heldIntS
  rw [held_loop (f := laws_heldIntS_b1 l) HdI (by omega) (fun k i hi k' hm => ?_) (fun k => ?_) h]
  · rfl
  · obtain ⟨h1, rfl⟩ := hm
    unfold laws_heldIntS_b1
    rw [sel_true (by simpa using hi)]
    simp only [nth_at hi, Option.bind_some]
    rw [sel_false (by simp [h1])]
    simp only [w64_nat (show i ≤ 9223372036854775806 by omega)]
  · unfold laws_heldIntS_b1
    rw [sel_false (by simp)]
theorem mhIS : MH laws_markIntS (fun l k k' => laws_heldIntS l k = some k') (fun l => l.length) := fun l k h1 h2 => by
  obtain ⟨l', k1, k2, k3⟩ := mhI.list l k h1 (by rw [szs_one]; exact h2)
  rw [szs_one] at k1 k2
  have h2' : k + l.length ≤ 1000000000000 := h2
  exact ⟨l', markIntS_loop (by omega) k1, heldIntS_loop (by omega) k2⟩
theorem eqMachine_ok (m : Machine) (h1 : m.Regs.length ≤ 1048576) (h2 : m.Mem.length ≤ 1048576) : laws_eqMachine m m = some true := by
  unfold laws_eqMachine
  rw [eqIntS_ok _ h1, eqIntS_ok _ h2]
  simp [sel]
theorem markMachine_ok (m : Machine) (k : Int) (hk : 1 ≤ k) (h2 : k + m.Regs.length + m.Mem.length ≤ 1000000000000) : ∃ r, laws_markMachine m k = some (k + m.Regs.length + m.Mem.length, r) := by
  unfold laws_markMachine
  obtain ⟨l1, k1, _⟩ := mhIS m.Regs k hk (by show k + (m.Regs.length : Int) ≤ _; omega)
  obtain ⟨l2, k2, _⟩ := mhIS m.Mem (k + m.Regs.length) (by omega) (by show k + m.Regs.length + (m.Mem.length : Int) ≤ _; omega)
  rw [k1]
  simp only [Option.bind_some, k2]
  exact ⟨_, rfl⟩

theorem heldMachine_ok (m : Machine) (h2 : m.Regs.length + m.Mem.length ≤ 1000000000) : ∃ k r1 r2, laws_markMachine m 1 = some (k, r1, r2) ∧ 0 ≤ k ∧ k = 1 + m.Regs.length + m.Mem.length ∧ ∀ pc, laws_heldMachine (Machine.mk r1 pc r2) 1 = some k := by
  obtain ⟨l1, k1, q1⟩ := mhIS m.Regs 1 (by omega) (by show (1 : Int) + (m.Regs.length : Int) ≤ _; omega)
  obtain ⟨l2, k2, q2⟩ := mhIS m.Mem (1 + m.Regs.length) (by omega) (by show (1 : Int) + m.Regs.length + (m.Mem.length : Int) ≤ _; omega)
  refine ⟨1 + m.Regs.length + m.Mem.length, l1, l2, ?_, by omega, rfl, fun pc => ?_⟩
  · unfold laws_markMachine
    rw [k1]
    simp only [Option.bind_some, k2]
  · unfold laws_heldMachine
    simp only
    rw [q1]
    simp only [Option.bind_some]
    rw [sel_false (by simp; omega), q2]
    simp only [Option.bind_some]
    rw [sel_false (by simp; omega)]
theorem toInstrS_ok (l : List Instr) (h : l.length ≤ 1048576) : laws_toInstrS l = some l := by
  unfold laws_toInstrS
  rw [mk_ok (by omega)]
  have := iter_st (f := laws_toInstrS_b1 l) (fun i => ((i : Int), l.take i ++ List.replicate (l.length - i) (Instr.mk 0 0 0 0 0))) l.length (r := l) (fun i hi => ?_) ?_
  · simp only [Option.bind_some]
    simp only [List.take_zero, Nat.sub_zero, List.nil_append] at this
    rw [show ((0 : Nat) : Int) = 0 from rfl] at this
    rw [this]
    rfl
  · unfold laws_toInstrS_b1 laws_toInstr
    have hlen : i < (l.take i ++ List.replicate (l.length - i) (Instr.mk 0 0 0 0 0)).length := by simp; omega
    rw [sel_true (by simpa using hi)]
    simp only [nth_at hi, nth_at hlen, upd_at hlen, Option.bind_some, w64_nat (show i ≤ 9223372036854775806 by omega)]
    congr 3
    rw [List.set_append_right _ _ (by simp; omega)]
    have : i - (l.take i).length = 0 := by simp; omega
    rw [this, show l.length - i = (l.length - (i + 1)) + 1 by omega, List.replicate_succ, List.set_cons_zero, ← List.take_append_getElem hi, List.append_assoc]
    rfl
  · unfold laws_toInstrS_b1
    rw [sel_false (by simp)]
    simp
theorem toInstrSS_ok (l : List (List Instr)) (h : l.length ≤ 1048576) (hx : ∀ x ∈ l, x.length ≤ 1048576) : laws_toInstrSS l = some l := by
  unfold laws_toInstrSS
  rw [mk_ok (by omega)]
  have := iter_st (f := laws_toInstrSS_b1 l) (fun i => ((i : Int), l.take i ++ List.replicate (l.length - i) [])) l.length (r := l) (fun i hi => ?_) ?_
  · simp only [Option.bind_some]
    simp only [List.take_zero, Nat.sub_zero, List.nil_append] at this
    rw [show ((0 : Nat) : Int) = 0 from rfl] at this
    rw [this]
    rfl
  · unfold laws_toInstrSS_b1
    have hlen : i < (l.take i ++ List.replicate (l.length - i) ([] : List Instr)).length := by simp; omega
    rw [sel_true (by simpa using hi)]
    simp only [nth_at hi, nth_at hlen, toInstrS_ok _ (hx _ (List.getElem_mem hi)), Option.bind_some, w64_nat (show i ≤ 9223372036854775806 by omega)]
    congr 3
    rw [show ((i : Int)).toNat = i by omega, List.set_append_right _ _ (by simp; omega)]
    have : i - (l.take i).length = 0 := by simp; omega
    rw [this, show l.length - i = (l.length - (i + 1)) + 1 by omega, List.replicate_succ, List.set_cons_zero, ← List.take_append_getElem hi, List.append_assoc]
    rfl
  · unfold laws_toInstrSS_b1
    rw [sel_false (by simp)]
    simp
theorem eqInstr_ok (x : Instr) : laws_eqInstr x x = some true := by unfold laws_eqInstr; simp [sel]
theorem eqInstrS_ok (l : List Instr) (h : l.length ≤ 1048576) : laws_eqInstrS l l = some true := by
  unfold laws_eqInstrS
  rw [sel_false (by simp)]
  have e : iter (laws_eqInstrS_b1 l l) 0 = some (.inr ()) := eq_loop (l := l) (by omega) (fun i hi => by
    unfold laws_eqInstrS_b1
    rw [sel_true (by simpa using hi)]
    simp only [nth_at hi, Option.bind_some, eqInstr_ok]
    rfl) (by
    unfold laws_eqInstrS_b1
    rw [sel_false (by simp)])
  rw [e]
  rfl
theorem eqInstrSS_ok (l : List (List Instr)) (h : l.length ≤ 1048576) (h2 : ∀ x ∈ l, x.length ≤ 1048576) : laws_eqInstrSS l l = some true := by
  unfold laws_eqInstrSS
  rw [sel_false (by simp)]
  have e : iter (laws_eqInstrSS_b1 l l) 0 = some (.inr ()) := eq_loop (l := l) (by omega) (fun i hi => by
    unfold laws_eqInstrSS_b1
    rw [sel_true (by simpa using hi)]
    simp only [nth_at hi, Option.bind_some, eqInstrS_ok _ (h2 _ (List.getElem_mem hi))]
    rfl) (by
    unfold laws_eqInstrSS_b1
    rw [sel_false (by simp)])
  rw [e]
  rfl
def MkN : Instr → Int → Option (Int × Instr) := fun _ k => some (w64 (w64 (w64 (w64 (w64 (k + 1) + 1) + 1) + 1) + 1), ⟨k, w64 (k + 1), w64 (w64 (k + 1) + 1), w64 (w64 (w64 (k + 1) + 1) + 1), w64 (w64 (w64 (w64 (k + 1) + 1) + 1) + 1)⟩)
theorem mhN : MH MkN (fun _ _ _ => True) (fun _ => 5) := fun x k h1 h2 => by
  have h2' : k + 5 ≤ 1000000000000 := h2
  have e : w64 (w64 (w64 (w64 (w64 (k + 1) + 1) + 1) + 1) + 1) = k + 5 := by
    rw [w64_id (x := k + 1) (by omega) (by omega), w64_id (x := k + 1 + 1) (by omega) (by omega), w64_id (x := k + 1 + 1 + 1) (by omega) (by omega), w64_id (x := k + 1 + 1 + 1 + 1) (by omega) (by omega), w64_id (x := k + 1 + 1 + 1 + 1 + 1) (by omega) (by omega)]
    omega
  exact ⟨⟨k, w64 (k + 1), w64 (w64 (k + 1) + 1), w64 (w64 (w64 (k + 1) + 1) + 1), w64 (w64 (w64 (w64 (k + 1) + 1) + 1) + 1)⟩, by unfold MkN; rw [e]; rfl, trivial⟩
theorem szs_five : ∀ (l : List Instr), szs (fun _ => 5) l = 5 * l.length
  | [] => rfl
  | x :: xs => by simp only [szs, szs_five xs, List.length_cons]; omega
theorem nth_set {α : Type} {l : List α} {i : Nat} (h : i < l.length) (x : α) : nth (l.set i x) (i : Int) = some x := by
  rw [nth_at (by simpa using h)]
  simp
theorem upd_set {α : Type} {l : List α} {i : Nat} (h : i < l.length) (x y : α) : upd (l.set i x) (i : Int) y = some (l.set i y) := by
  rw [upd_at (by simpa using h), List.set_set]
theorem mhNS : MH laws_markInstrS (fun _ _ _ => True) (fun l => 5 * l.length) := fun l k h1 h2 => by
  have h2' : k + (5 * l.length : Nat) ≤ 1000000000000 := h2
  obtain ⟨l', k1, _, _⟩ := mhN.list l k h1 (by rw [szs_five]; exact h2')
  rw [szs_five] at k1
  refine ⟨l', ?_, trivial⟩
  unfold laws_markInstrS
  rw [mark_loop (f := laws_markInstrS_b1) MkN (fun k l i hi k' x' hm hlen => ?_) (fun k l => ?_) (by omega) k1]
  · rfl
  · simp only [MkN, Option.some.injEq, Prod.mk.injEq] at hm
    obtain ⟨rfl, rfl⟩ := hm
    unfold laws_markInstrS_b1
    rw [sel_true (by simpa using hi)]
    simp only [nth_at hi, upd_at hi, nth_set hi, upd_set hi, Option.bind_some, w64_nat (show i ≤ 9223372036854775806 by omega)]
  · unfold laws_markInstrS_b1
    rw [sel_false (by simp)]
theorem mhNSS (l : List (List Instr)) (k : Int) (h1 : 1 ≤ k) (hl : l.length ≤ 1000000000000) (h2 : k + szs (fun l => 5 * l.length) l ≤ 1000000000000) : ∃ l', laws_markInstrSS l k = some (k + szs (fun l => 5 * l.length) l, l') := by
  obtain ⟨l', k1, _, _⟩ := mhNS.list l k h1 h2
  refine ⟨l', ?_⟩
  unfold laws_markInstrSS
  rw [mark_loop (f := laws_markInstrSS_b1) laws_markInstrS (fun k l i hi k' x' hm hlen => ?_) (fun k l => ?_) (by omega) k1]
  · rfl
  · unfold laws_markInstrSS_b1
    rw [sel_true (by simpa using hi)]
    simp only [nth_at hi, hm, Option.bind_some, w64_nat (show i ≤ 9223372036854775806 by omega)]
    simp
  · unfold laws_markInstrSS_b1
    rw [sel_false (by simp)]
theorem szInstrS_ok {l : List Instr} {k : Int} (hl : l.length ≤ maxLen) (hk : 0 ≤ k) (hk2 : k ≤ 1048576) : laws_szInstrS l k = some (if k - l.length < 0 then -1 else k - l.length) := by
  have hm : (maxLen : Int) = 9223372036854775807 := by decide
  unfold laws_szInstrS
  rw [w64_id (by omega) (by omega)]
  by_cases h : k - l.length < 0
  · rw [if_pos h, sel_true (by simpa using h)]
  · rw [if_neg h, sel_false (by simpa using h)]
/-- How much is left. -/
theorem szInstrSS_ok (l : List (List Instr)) (hl : l.length ≤ maxLen) (hx : ∀ x ∈ l, x.length ≤ maxLen) : ∃ y, laws_szInstrSS l 1048576 = some y ∧ (¬ y < 0 → l.length ≤ 1048576 ∧ szs List.length l ≤ 1048576) := by
  have hm : (maxLen : Int) = 9223372036854775807 := by decide
  unfold laws_szInstrSS
  rw [w64_id (by omega) (by omega)]
  by_cases h : (1048576 : Int) - l.length < 0
  · rw [sel_true (by simpa using h)]
    exact ⟨-1, rfl, fun h => absurd (by omega) h⟩
  rw [sel_false (by simpa using h)]
  have key : ∀ (xs pre : List (List Instr)) (k : Int), pre ++ xs = l → 0 ≤ k → k ≤ 1048576 → ∃ r, iter (laws_szInstrSS_b1 l) (k, (pre.length : Int)) = some r ∧ (r = .inl (-1) ∨ (r = .inr (k - szs List.length xs) ∧ (szs List.length xs : Int) ≤ k)) := by
    intro xs
    induction xs with
    | nil =>
      intro pre k hp h0 h1
      rw [List.append_nil] at hp
      subst hp
      rw [iter_eq]
      unfold laws_szInstrSS_b1
      rw [sel_false (by simp)]
      exact ⟨_, rfl, .inr ⟨by simp [szs], by simp [szs]; omega⟩⟩
    | cons x xs ih =>
      intro pre k hp h0 h1
      have hlt : pre.length < l.length := by rw [← hp]; simp
      have hg : l[pre.length]'hlt = x := by subst hp; simp
      have hxl := hx x (by rw [← hp]; simp)
      rw [iter_eq]
      have hstep : laws_szInstrSS_b1 l (k, (pre.length : Int)) = (if k - x.length < 0 then some (.inr (.inl (-1))) else some (.inl (k - x.length, ((pre.length + 1 : Nat) : Int)))) := by
        unfold laws_szInstrSS_b1
        rw [sel_true (by simpa using hlt)]
        simp only [nth_at hlt, hg, Option.bind_some]
        rw [szInstrS_ok hxl h0 h1]
        simp only [Option.bind_some]
        by_cases hneg : k - x.length < 0
        · rw [if_pos hneg, if_pos hneg]
          exact sel_tt' rfl rfl
        · rw [if_neg hneg, if_neg hneg, sel_false (by simpa using hneg), w64_nat (by omega)]
      rw [hstep]
      by_cases hneg : k - x.length < 0
      · rw [if_pos hneg]
        exact ⟨_, rfl, .inl rfl⟩
      · rw [if_neg hneg]
        obtain ⟨r, q1, q2⟩ := ih (pre ++ [x]) (k - x.length) (by rw [← hp]; simp) (by omega) (by omega)
        rw [List.length_append, List.length_singleton] at q1
        refine ⟨r, q1, ?_⟩
        rcases q2 with q2 | ⟨q2, q3⟩
        · exact .inl q2
        · right
          simp only [szs]
          refine ⟨?_, by omega⟩
          rw [q2]
          congr 1
          omega
  obtain ⟨r, k1, k2⟩ := key l [] (1048576 - l.length) rfl (by omega) (by omega)
  rw [show (([] : List (List Instr)).length : Int) = 0 from rfl] at k1
  rw [k1]
  rcases k2 with rfl | ⟨rfl, k3⟩
  · exact ⟨-1, rfl, fun h => absurd (by omega) h⟩
  · exact ⟨_, rfl, fun _ => by omega⟩
end Go.Proofs.YtdohklfimhkicaaDoor.N
