/- The encoding of instructions: reference and program encode alike. -/
import Derived.Test.YtdohklfimhkicaaDoorPq
import Derived.Test.YtdohklfimhkicaaDoorT10
set_option linter.unusedVariables false
set_option linter.unusedSimpArgs false
set_option maxRecDepth 100000
set_option maxHeartbeats 4000000
namespace Go.Proofs.YtdohklfimhkicaaDoor.N
open Go.Proofs.YtdohklfimhkicaaDoor.X
theorem sel_and (b c : Bool) : sel b (some c) (some false) = some (b && c) := by cases b <;> rfl
theorem sel_or (b c : Bool) : sel b (some true) (some c) = some (b || c) := by cases b <;> rfl
theorem pow_ok (k : Nat) (hk : k ≤ 62) : spec_l1Power (k : Int) = some ((2 ^ k : Nat) : Int) := by
  unfold spec_l1Power
  have h63 : ∀ i, i ≤ 62 → 2 ^ i ≤ 4611686018427387904 := fun i hi => Nat.pow_le_pow_right (by omega : 0 < 2) hi
  have := iter_st (f := spec_l1Power_b1 (k : Int)) (fun i => (((2 ^ i : Nat) : Int), (i : Int))) k (r := ((2 ^ k : Nat) : Int)) (fun i hi => by
    unfold spec_l1Power_b1
    have h1 := h63 (i + 1) (by omega)
    rw [sel_true (by simpa using hi), w64_nat (by omega)]
    rw [Nat.pow_succ] at h1 ⊢
    generalize 2 ^ i = x at h1 ⊢
    rw [w64_id (by omega) (by omega)]
    simp) (by
    unfold spec_l1Power_b1
    rw [sel_false (by simp)])
  rw [show ((2 ^ 0 : Nat) : Int) = 1 from rfl, show ((0 : Nat) : Int) = 0 from rfl] at this
  rw [this]
  rfl
theorem put_ok (n k : Nat) (hk : k ≤ 62) (hn : n * 2 ^ k < 9223372036854775808) : spec_l42Put (n : Int) (k : Int) = some ((n * 2 ^ k : Nat) : Int) := by
  unfold spec_l42Put
  rw [pow_ok k hk]
  simp only [Option.bind_some]
  rw [show (n : Int) * ((2 ^ k : Nat) : Int) = ((n * 2 ^ k : Nat) : Int) by simp, w64_id (by omega) (by omega)]
theorem sbits_ok (u low many : Nat) (hu : u < 4294967296) (hl : low ≤ 31) (hm : 1 ≤ many) (hm2 : many + low ≤ 32) : spec_Bits (u : Int) (low : Int) (many : Int) = some ((u / 2 ^ low % 2 ^ many : Nat) : Int) := by
  unfold spec_Bits spec_l6In
  simp only [Option.bind_some]
  have w1 : w64 (32 - (low : Int)) = 32 - low := w64_id (by omega) (by omega)
  have e1 : (decide ((u : Int) ≥ 0) && decide ((u : Int) ≤ 4294967295)) = true := by simp; omega
  have e2 : (decide ((low : Int) ≥ 0) && decide ((low : Int) ≤ 31)) = true := by simp; omega
  have e3 : (decide ((many : Int) ≥ 1) && decide ((many : Int) ≤ 32 - (low : Int))) = true := by simp; omega
  rw [e1, e2, w1, e3]
  simp only [Bool.not_true, sel, Option.bind_some]
  rw [pow_ok low (by omega), pow_ok many (by omega)]
  simp only [Option.bind_some]
  have p1 := Nat.two_pow_pos low
  have p2 := Nat.two_pow_pos many
  unfold quoO remO
  rw [if_neg (by omega)]
  simp only [Option.bind_some]
  rw [if_neg (by omega)]
  simp only [Option.bind_some]
  congr 1
  have q1 : Int.tdiv (u : Int) ((2 ^ low : Nat) : Int) = ((u / 2 ^ low : Nat) : Int) := rfl
  have hle : u / 2 ^ low ≤ u := Nat.div_le_self _ _
  rw [q1]
  generalize u / 2 ^ low = q at hle ⊢
  show Int.tmod (w64 _) _ = _
  rw [w64_id (by omega) (by omega)]
  rfl
theorem ib1 (u low many : Nat) (hu : u < 4294967296) (hl : low ≤ 31) (hm : 1 ≤ many) (hm2 : many + low ≤ 32) : (shO .shr .i64 (u : Int) (low : Int)).bind (fun d1 =>
      (shO .shl .i64 1 (many : Int)).bind fun d2 => some (bitsI .and .i64 d1 (w64 (d2 - 1)))) =
    some ((u / 2 ^ low % 2 ^ many : Nat) : Int) := by
  have hp : 2 ^ many ≤ 2 ^ 32 := Nat.pow_le_pow_right (by omega) (by omega)
  have h3 : (2 : Nat) ^ 32 = 4294967296 := by decide
  rw [h3] at hp
  have h1 : shO .shl .i64 ((1 : Nat) : Int) (many : Int) = _ := shl_nat (x := 1) (k := many) (by omega) (by omega)
  rw [Nat.one_mul] at h1
  have hle : u / 2 ^ low ≤ u := Nat.div_le_self _ _
  have h4 := Nat.two_pow_pos many
  have hX : ∀ X : Nat, 0 < X → X ≤ 4294967296 → w64 ((X : Int) - 1) = (X : Int) - 1 := fun X h1 h2 => w64_id (by omega) (by omega)
  refine bind_to (shr_nat (x := u) (k := low) (by omega)) ?_
  refine bind_to h1 ?_
  rw [hX _ h4 hp]
  congr 1
  exact mask_nat (by omega) (by omega)
theorem ibits_ok (u low many : Nat) (hu : u < 4294967296) (hl : low ≤ 31) (hm : 1 ≤ many) (hm2 : many + low ≤ 32) : impl_Bits (u : Int) (low : Int) (many : Int) = some ((u / 2 ^ low % 2 ^ many : Nat) : Int) := by
  have w1 : w64 (32 - (low : Int)) = 32 - low := w64_id (by omega) (by omega)
  have e1 : (decide ((u : Int) ≥ 0) && decide ((u : Int) < 4294967296)) = true := by rw [decide_eq_true (by omega), decide_eq_true (by omega)]; rfl
  have e2 : decide ((low : Int) < 0) = false := decide_eq_false (by omega)
  have e3 : decide ((low : Int) > 31) = false := decide_eq_false (by omega)
  have e4 : decide ((many : Int) < 1) = false := decide_eq_false (by omega)
  have e5 : decide ((many : Int) > 32 - (low : Int)) = false := decide_eq_false (by omega)
  unfold impl_Bits impl_isUnsigned
  rw [e1, w1, e2, e3, e4, e5]
  exact ib1 u low many hu hl hm hm2
theorem part_ok (u low many place : Nat) (hu : u < 4294967296) (hl : low ≤ 31) (hm : 1 ≤ many) (hm2 : many + low ≤ 32) (hp : place + many ≤ 32) : impl_InstrEncode_1 (low : Int) (many : Int) (place : Int) (u : Int) = some ((u / 2 ^ low % 2 ^ many * 2 ^ place : Nat) : Int) := by
  unfold impl_InstrEncode_1
  rw [ibits_ok u low many hu hl hm hm2]
  simp only [Option.bind_some]
  have h1 : u / 2 ^ low % 2 ^ many < 2 ^ many := Nat.mod_lt _ (Nat.two_pow_pos _)
  have h2 : u / 2 ^ low % 2 ^ many * 2 ^ place < 2 ^ many * 2 ^ place := (Nat.mul_lt_mul_right (Nat.two_pow_pos _)).2 h1
  rw [← Nat.pow_add] at h2
  have h3 : 2 ^ (many + place) ≤ 2 ^ 32 := Nat.pow_le_pow_right (by omega) (by omega)
  have h4 : (2 : Nat) ^ 32 = 4294967296 := by decide
  rw [shl_nat (by omega) (by omega)]
  rfl
/-! ### Valid instructions -/
theorem fmt_R {op : Int} (h : 1 ≤ op ∧ op ≤ 11) : impl_formatOf op = some 82 := by unfold impl_formatOf; rw [sel_true (by simp; omega)]
theorem fmt_I {op : Int} (h : 12 ≤ op ∧ op ≤ 15) : impl_formatOf op = some 73 := by unfold impl_formatOf; rw [sel_false (by simp; omega), sel_true (by simp; omega)]
theorem fmt_S' {op : Int} (h : op = 16) : impl_formatOf op = some 83 := by subst h; rfl
theorem fmt_B {op : Int} (h : op = 17 ∨ op = 18) : impl_formatOf op = some 66 := by rcases h with rfl | rfl <;> rfl
theorem fmt_U' {op : Int} (h : op = 19) : impl_formatOf op = some 85 := by subst h; rfl
theorem fmt_J' {op : Int} (h : op = 20) : impl_formatOf op = some 74 := by subst h; rfl
theorem fmt_E' {op : Int} (h : op = 21) : impl_formatOf op = some 69 := by subst h; rfl
theorem fmt_X {op : Int} (h : op < 1 ∨ 21 < op) : impl_formatOf op = some 32 := by
  unfold impl_formatOf
  rw [sel_false (by simp; omega), sel_false (by simp; omega), sel_false (by simp; omega), sel_false (by simp; omega), sel_false (by simp; omega), sel_false (by simp; omega), sel_false (by simp; omega)]
theorem op_cases (op : Int) : (1 ≤ op ∧ op ≤ 11) ∨ (12 ≤ op ∧ op ≤ 15) ∨ op = 16 ∨ (op = 17 ∨ op = 18) ∨ op = 19 ∨ op = 20 ∨ op = 21 ∨ (op < 1 ∨ 21 < op) := by omega
end Go.Proofs.YtdohklfimhkicaaDoor.N
