/- The law of an image's outcome: what the program answers is what the reference answers. -/
import Derived.Test.YtdohklfimhkicaaXp
import Derived.Test.YtdohklfimhkicaaN
set_option linter.unusedVariables false
set_option maxRecDepth 100000
namespace Go.Proofs.Ytdohklfimhkicaa.N
open Go.Proofs.Ytdohklfimhkicaa.X
/-! ### The rows' words -/
theorem sz_ok {l : List Int} {k : Int} (hl : l.length ≤ maxLen) (hk : 0 ≤ k) (hk2 : k ≤ 1048576) : laws_szIntS l k = some (if k - l.length < 0 then -1 else k - l.length) := by
  have hm : (maxLen : Int) = 9223372036854775807 := by decide
  unfold laws_szIntS
  rw [w64_id (by omega) (by omega)]
  by_cases h : k - l.length < 0
  · rw [if_pos h, sel_true (by simpa using h)]
  · rw [if_neg h, sel_false (by simpa using h)]
theorem toIntS_ok (l : List Int) (h : l.length ≤ 1048576) : laws_toIntS l = some l := by
  unfold laws_toIntS
  rw [mk_ok (by omega)]
  have := iter_st (f := laws_toIntS_b1 l) (fun i => ((i : Int), l.take i ++ List.replicate (l.length - i) 0)) l.length (r := l) (fun i hi => ?_) ?_
  · simp only [Option.bind_some]
    simp only [List.take_zero, Nat.sub_zero, List.nil_append] at this
    rw [show ((0 : Nat) : Int) = 0 from rfl] at this
    rw [this]
    rfl
  · unfold laws_toIntS_b1
    have hlen : i < (l.take i ++ List.replicate (l.length - i) (0 : Int)).length := by simp; omega
    rw [sel_true (by simpa using hi)]
    simp only [nth_at hi, nth_at hlen, upd_at hlen, Option.bind_some, w64_nat (show i ≤ 9223372036854775806 by omega)]
    congr 3
    rw [List.set_append_right _ _ (by simp; omega)]
    have : i - (l.take i).length = 0 := by simp; omega
    rw [this, show l.length - i = (l.length - (i + 1)) + 1 by omega, List.replicate_succ, List.set_cons_zero, ← List.take_append_getElem hi, List.append_assoc]
    rfl
  · unfold laws_toIntS_b1
    rw [sel_false (by simp)]
    simp
theorem eqIntS_ok (l : List Int) (h : l.length ≤ 1048576) : laws_eqIntS l l = some true := by
  unfold laws_eqIntS
  rw [sel_false (by simp)]
  have e : iter (laws_eqIntS_b1 l l) 0 = some (.inr ()) := eq_loop (l := l) (by omega) (fun i hi => by
    unfold laws_eqIntS_b1
    rw [sel_true (by simpa using hi)]
    simp only [nth_at hi, Option.bind_some]
    rw [sel_false (by simp)]) (by
    unfold laws_eqIntS_b1
    rw [sel_false (by simp)])
  rw [e]
  rfl
theorem eqBoolS_ok (l : List Bool) (h : l.length ≤ 1048576) : laws_eqBoolS l l = some true := by
  unfold laws_eqBoolS
  rw [sel_false (by simp)]
  have e : iter (laws_eqBoolS_b1 l l) 0 = some (.inr ()) := eq_loop (l := l) (by omega) (fun i hi => by
    unfold laws_eqBoolS_b1
    rw [sel_true (by simpa using hi)]
    simp only [nth_at hi, Option.bind_some]
    rw [sel_false (by simp)]) (by
    unfold laws_eqBoolS_b1
    rw [sel_false (by simp)])
  rw [e]
  rfl
theorem eqIntSS_ok (l : List (List Int)) (h : l.length ≤ 1048576) (h2 : ∀ x ∈ l, x.length ≤ 1048576) : laws_eqIntSS l l = some true := by
  unfold laws_eqIntSS
  rw [sel_false (by simp)]
  have e : iter (laws_eqIntSS_b1 l l) 0 = some (.inr ()) := eq_loop (l := l) (by omega) (fun i hi => by
    unfold laws_eqIntSS_b1
    rw [sel_true (by simpa using hi)]
    simp only [nth_at hi, Option.bind_some, eqIntS_ok _ (h2 _ (List.getElem_mem hi))]
    rfl) (by
    unfold laws_eqIntSS_b1
    rw [sel_false (by simp)])
  rw [e]
  rfl
def MkI : Int → Int → Option (Int × Int) := fun _ k => some (w64 (k + 1), k)
def HdI : Int → Int → Int → Prop := fun x k k' => x = k ∧ k' = w64 (k + 1)
theorem mhI : MH MkI HdI (fun _ => 1) := fun x k h1 h2 => ⟨k, by unfold MkI; rw [w64_id (by omega) (by omega)]; rfl, rfl, by rw [w64_id (by omega) (by omega)]; rfl⟩
theorem markIntS_loop {l : List Int} {k : Int} {r : Int × List Int} (hl : l.length ≤ 1000000000000) (h : markL MkI l k = some r) : laws_markIntS l k = some r := by
  unfold laws_markIntS
  rw [mark_loop (f := laws_markIntS_b1) MkI (fun k l i hi k' x' hm hlen => ?_) (fun k l => ?_) (by omega) h]
  · rfl
  · simp only [MkI, Option.some.injEq, Prod.mk.injEq] at hm
    obtain ⟨rfl, rfl⟩ := hm
    unfold laws_markIntS_b1
    rw [sel_true (by simpa using hi)]
    simp only [nth_at hi, upd_at hi, Option.bind_some, w64_nat (show i ≤ 9223372036854775806 by omega)]
  · unfold laws_markIntS_b1
    rw [sel_false (by simp)]
theorem heldIntS_loop {l : List Int} {k k' : Int} (hl : l.length ≤ 1000000000000) (h : HeldL HdI l k k') : laws_heldIntS l k = some k' := by
  unfold laws_heldIntS
  rw [held_loop (f := laws_heldIntS_b1 l) HdI (by omega) (fun k i hi k' hm => ?_) (fun k => ?_) h]
  · rfl
  · obtain ⟨h1, rfl⟩ := hm
    unfold laws_heldIntS_b1
    rw [sel_true (by simpa using hi)]
    simp only [nth_at hi, Option.bind_some]
    rw [sel_false (by simp [h1])]
    simp only [w64_nat (show i ≤ 9223372036854775806 by omega)]
  · unfold laws_heldIntS_b1
    rw [sel_false (by simp)]
theorem mhIS : MH laws_markIntS (fun l k k' => laws_heldIntS l k = some k') (fun l => l.length) := fun l k h1 h2 => by
  obtain ⟨l', k1, k2, k3⟩ := mhI.list l k h1 (by rw [szs_one]; exact h2)
  rw [szs_one] at k1 k2
  have h2' : k + l.length ≤ 1000000000000 := h2
  exact ⟨l', markIntS_loop (by omega) k1, heldIntS_loop (by omega) k2⟩
def HdIS : List Int → Int → Int → Prop := fun l k k' => laws_heldIntS l k = some k' ∧ 0 ≤ k'
theorem mhIS0 : MH laws_markIntS HdIS (fun l => l.length) := fun l k h1 h2 => by
  obtain ⟨l', k1, k2⟩ := mhIS l k h1 h2
  exact ⟨l', k1, k2, by omega⟩
theorem mhISS : ∀ (l : List (List Int)) (k : Int), 1 ≤ k → l.length ≤ 1000000000000 → k + szs (fun l => l.length) l ≤ 1000000000000 →
    ∃ l', laws_markIntSS l k = some (k + szs (fun l => l.length) l, l') ∧ laws_heldIntSS l' k = some (k + szs (fun l => l.length) l) := fun l k h1 hl h2 => by
  obtain ⟨l', k1, k2, k3⟩ := mhIS0.list l k h1 h2
  refine ⟨l', ?_, ?_⟩
  · unfold laws_markIntSS
    rw [mark_loop (f := laws_markIntSS_b1) laws_markIntS (fun k l i hi k' x' hm hlen => ?_) (fun k l => ?_) (by omega) k1]
    · rfl
    · unfold laws_markIntSS_b1
      rw [sel_true (by simpa using hi)]
      simp only [nth_at hi, hm, Option.bind_some, w64_nat (show i ≤ 9223372036854775806 by omega)]
      simp
    · unfold laws_markIntSS_b1
      rw [sel_false (by simp)]
  · unfold laws_heldIntSS
    rw [held_loop (f := laws_heldIntSS_b1 l') HdIS (by omega) (fun k i hi k' hm => ?_) (fun k => ?_) k2]
    · rfl
    · obtain ⟨h1, h3⟩ := hm
      unfold laws_heldIntSS_b1
      rw [sel_true (by simpa using hi)]
      simp only [nth_at hi, h1, Option.bind_some, w64_nat (show i ≤ 9223372036854775806 by omega)]
      rw [sel_false (by simpa using h3)]
    · unfold laws_heldIntSS_b1
      rw [sel_false (by simp)]
def MkB : Bool → Int → Option (Int × Bool) := fun _ k => some (w64 (k + 1), (Int.tmod k 3) == 0)
def HdB : Bool → Int → Int → Prop := fun x k k' => x = ((Int.tmod k 3) == 0) ∧ k' = w64 (k + 1)
theorem mhB : MH MkB HdB (fun _ => 1) := fun x k h1 h2 => ⟨_, by unfold MkB; rw [w64_id (by omega) (by omega)]; rfl, rfl, by rw [w64_id (by omega) (by omega)]; rfl⟩
theorem mhBS : ∀ (l : List Bool) (k : Int), 1 ≤ k → k + l.length ≤ 1000000000000 → ∃ l', laws_markBoolS l k = some (k + l.length, l') ∧ laws_heldBoolS l' k = some (k + l.length) := fun l k h1 h2 => by
  obtain ⟨l', k1, k2, k3⟩ := mhB.list l k h1 (by rw [szs_one]; exact h2)
  rw [szs_one] at k1 k2
  refine ⟨l', ?_, ?_⟩
  · unfold laws_markBoolS
    rw [mark_loop (f := laws_markBoolS_b1) MkB (fun k l i hi k' x' hm hlen => ?_) (fun k l => ?_) (by omega) k1]
    · rfl
    · simp only [MkB, Option.some.injEq, Prod.mk.injEq] at hm
      obtain ⟨rfl, rfl⟩ := hm
      unfold laws_markBoolS_b1
      rw [sel_true (by simpa using hi)]
      simp only [nth_at hi, upd_at hi, Option.bind_some, w64_nat (show i ≤ 9223372036854775806 by omega)]
    · unfold laws_markBoolS_b1
      rw [sel_false (by simp)]
  · unfold laws_heldBoolS
    rw [held_loop (f := laws_heldBoolS_b1 l') HdB (by omega) (fun k i hi k' hm => ?_) (fun k => ?_) k2]
    · rfl
    · obtain ⟨h1, rfl⟩ := hm
      unfold laws_heldBoolS_b1
      rw [sel_true (by simpa using hi)]
      simp only [nth_at hi, Option.bind_some]
      rw [sel_false (by simp [h1])]
      simp only [w64_nat (show i ≤ 9223372036854775806 by omega)]
    · unfold laws_heldBoolS_b1
      rw [sel_false (by simp)]
theorem toMachine_ok (m : Machine) (h1 : m.Regs.length ≤ 1048576) (h2 : m.Mem.length ≤ 1048576) : laws_toMachine m = some m := by
  unfold laws_toMachine
  rw [toIntS_ok _ h1, toIntS_ok _ h2]
  rfl
theorem eqMachine_ok (m : Machine) (h1 : m.Regs.length ≤ 1048576) (h2 : m.Mem.length ≤ 1048576) : laws_eqMachine m m = some true := by
  unfold laws_eqMachine
  rw [eqIntS_ok _ h1, eqIntS_ok _ h2]
  simp [sel]
theorem markMachine_ok (m : Machine) (k : Int) (hk : 1 ≤ k) (h2 : k + m.Regs.length + m.Mem.length ≤ 1000000000000) : ∃ r, laws_markMachine m k = some (k + m.Regs.length + m.Mem.length, r) := by
  unfold laws_markMachine
  obtain ⟨l1, k1, _⟩ := mhIS m.Regs k hk (by show k + (m.Regs.length : Int) ≤ _; omega)
  obtain ⟨l2, k2, _⟩ := mhIS m.Mem (k + m.Regs.length) (by omega) (by show k + m.Regs.length + (m.Mem.length : Int) ≤ _; omega)
  rw [k1]
  simp only [Option.bind_some, k2]
  exact ⟨_, rfl⟩
end Go.Proofs.Ytdohklfimhkicaa.N
