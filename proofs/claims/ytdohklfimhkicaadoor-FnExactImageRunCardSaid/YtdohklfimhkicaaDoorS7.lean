/- The decoding of words: the tables, the kinds, the rows that match. -/
import Derived.Test.YtdohklfimhkicaaDoorS4
import Derived.Test.YtdohklfimhkicaaDoorS5
import Derived.Test.YtdohklfimhkicaaDoorS6
import Derived.Test.YtdohklfimhkicaaDoorS8
set_option linter.unusedVariables false
set_option maxRecDepth 100000
set_option maxHeartbeats 4000000
namespace Go.Proofs.YtdohklfimhkicaaDoor.N
open Go.Proofs.YtdohklfimhkicaaDoor.X
/-- A loop that looks for the first. -/
theorem find_loop {ρ : Type} {f : Int → Option (Int ⊕ (ρ ⊕ Unit))} (c : Nat → Bool) (g : Nat → ρ) : ∀ (n s : Nat), (∀ i, s ≤ i → i < s + n → f ((i : Int) + 1) = some (cond (c i) (.inr (.inl (g i))) (.inl ((i : Int) + 1 + 1)))) → f (((s + n : Nat) : Int) + 1) = some (.inr (.inr ())) →
    iter f ((s : Int) + 1) = some (match (List.range' s n).find? c with
      | some i => .inl (g i)
      | none => .inr ())
  | 0, s, _, he => by
    rw [iter_eq, show f ((s : Int) + 1) = _ from he]
    rfl
  | n + 1, s, h, he => by
    rw [iter_eq, h s (Nat.le_refl _) (by omega), List.range'_succ, List.find?_cons]
    cases hc : c s with
    | true => rfl
    | false =>
      have ih := find_loop c g n (s + 1) (fun i h1 h2 => h i (by omega) (by omega)) (by rw [show s + 1 + n = s + (n + 1) by omega]; exact he)
      rw [show ((s + 1 : Nat) : Int) + 1 = (s : Int) + 1 + 1 by omega] at ih
      simp only [cond_false]
      exact ih
theorem all21 {p : Nat → Prop} (h : ∀ i : Fin 21, p i.val) {i : Nat} (hi : i < 21) : p i := h ⟨i, hi⟩
theorem split21 {i : Nat} (h : i < 21) : i = 0 ∨ i = 1 ∨ i = 2 ∨ i = 3 ∨ i = 4 ∨ i = 5 ∨ i = 6 ∨ i = 7 ∨ i = 8 ∨ i = 9 ∨ i = 10 ∨ i = 11 ∨ i = 12 ∨ i = 13 ∨ i = 14 ∨ i = 15 ∨ i = 16 ∨ i = 17 ∨ i = 18 ∨ i = 19 ∨ i = 20 := by omega
def t3 (i : Nat) : Nat := [0, 0, 0, 4, 6, 7, 6, 4, 1, 5, 2, 0, 3, 2, 0, 2, 0, 1, 0, 0, 0].getD i 0
def t7 (i : Nat) : Nat := [0, 32, 1, 1, 1, 0, 0, 0, 0, 32, 0].getD i 0
def tO (i : Nat) : Nat := [51, 51, 51, 51, 51, 51, 51, 51, 51, 51, 51, 19, 19, 3, 103, 35, 99, 99, 55, 111, 115].getD i 0
theorem three_ok {i : Nat} (hi : i < 21) : spec_l42Three ((i : Int) + 1) = some (t3 i : Int) := by
  rcases split21 hi with rfl | rfl | rfl | rfl | rfl | rfl | rfl | rfl | rfl | rfl | rfl | rfl | rfl | rfl | rfl | rfl | rfl | rfl | rfl | rfl | rfl <;> rfl
theorem seven_ok {i : Nat} (hi : i < 11) : spec_l42Seven ((i : Int) + 1) = some (t7 i : Int) := by
  rcases split21 (show i < 21 by omega) with rfl | rfl | rfl | rfl | rfl | rfl | rfl | rfl | rfl | rfl | rfl | rfl | rfl | rfl | rfl | rfl | rfl | rfl | rfl | rfl | rfl <;> first | rfl | (exact absurd hi (by decide))
/-- Does row i speak of such a word? -/
def Mt (i op f3 f7 : Nat) : Bool := (tO i == op) && (bif Nat.blt i 11 then (t3 i == f3) && (t7 i == f7) else bif Nat.blt i 18 then t3 i == f3 else true)
/-- The kind that the reference reads off a word; 0: none. -/
def So (op f3 f7 : Nat) : Nat :=
  bif op == 51 then (match (List.range' 0 11).find? (fun i => (f3 == t3 i) && (f7 == t7 i)) with
    | some i => i + 1
    | none => 0) else
  bif op == 19 then (bif f3 == 0 then 12 else 13) else bif op == 3 then 14 else bif op == 103 then 15 else bif op == 35 then 16 else
  bif op == 99 then (bif f3 == 0 then 17 else 18) else bif op == 55 then 19 else bif op == 111 then 20 else bif op == 115 then 21 else 0
theorem so_of_mt {i op f3 f7 : Nat} (hi : i < 21) (h : Mt i op f3 f7 = true) : So op f3 f7 = i + 1 := by
  unfold Mt at h
  rw [Bool.and_eq_true] at h
  obtain ⟨h1, h2⟩ := h
  have e1 := eq_of_beq h1
  rcases split21 hi with rfl | rfl | rfl | rfl | rfl | rfl | rfl | rfl | rfl | rfl | rfl | rfl | rfl | rfl | rfl | rfl | rfl | rfl | rfl | rfl | rfl
  all_goals (subst e1; first
    | (have h3 : ((t3 _ == f3) && (t7 _ == f7)) = true := h2
       rw [Bool.and_eq_true] at h3
       have e2 := eq_of_beq h3.1
       have e3 := eq_of_beq h3.2
       subst e2
       subst e3
       rfl)
    | (have h3 : (t3 _ == f3) = true := h2
       have e2 := eq_of_beq h3
       subst e2
       rfl)
    | rfl)
theorem int_beq (a b : Nat) : ((a : Int) == (b : Int)) = (a == b) := by
  rw [Bool.eq_iff_iff]
  simp only [beq_iff_eq]
  constructor <;> intro h <;> omega
theorem so_le (op f3 f7 : Nat) : So op f3 f7 ≤ 21 := by
  unfold So
  have h : ∀ o : Option Nat, o = (List.range' 0 11).find? (fun i => (f3 == t3 i) && (f7 == t7 i)) → (match o with
    | some i => i + 1
    | none => 0) ≤ 21 := by
    intro o ho
    cases o with
    | none => exact Nat.zero_le _
    | some i =>
      have := List.mem_of_find?_eq_some ho.symm
      simp at this
      show i + 1 ≤ 21
      omega
  have := h _ rfl
  cases (op == 51) <;> cases (op == 19) <;> cases (op == 3) <;> cases (op == 103) <;> cases (op == 35) <;> cases (op == 99) <;> cases (op == 55) <;> cases (op == 111) <;> cases (op == 115) <;> cases (f3 == 0) <;> first | exact this | exact Nat.le_of_ble_eq_true rfl
theorem beq_lit {a : Nat} (n : Nat) : ((a : Int) == (n : Int)) = (a == n) := int_beq a n
theorem kind_ok (u : Nat) (hu : u < 4294967296) : spec_l42Op (u : Int) = some ((So (u / 2 ^ 0 % 2 ^ 7) (u / 2 ^ 12 % 2 ^ 3) (u / 2 ^ 25 % 2 ^ 7) : Nat) : Int) := by
  have b0 := sbits_ok u 0 7 hu (by omega) (by omega) (by omega)
  have b1 := sbits_ok u 12 3 hu (by omega) (by omega) (by omega)
  have b2 := sbits_ok u 25 7 hu (by omega) (by omega) (by omega)
  generalize u / 2 ^ 0 % 2 ^ 7 = op at b0 ⊢
  generalize u / 2 ^ 12 % 2 ^ 3 = f3 at b1 ⊢
  generalize u / 2 ^ 25 % 2 ^ 7 = f7 at b2 ⊢
  have loop := find_loop (f := spec_l42Op_b1 (u : Int)) (fun i => (f3 == t3 i) && (f7 == t7 i)) (fun i => (i : Int) + 1) 11 0 (fun i _ h2 => by
    unfold spec_l42Op_b1
    rw [sel_true (decide_eq_true (by omega))]
    refine bind_to b1 (bind_to (three_ok (by omega)) ?_)
    refine bind_to (y := (f3 == t3 i) && (f7 == t7 i)) ?_ ?_
    · rw [int_beq]
      cases (f3 == t3 i)
      · rfl
      · refine bind_to b2 (bind_to (seven_ok (by omega)) ?_)
        rw [int_beq]
        rfl
    · cases ((f3 == t3 i) && (f7 == t7 i))
      · simp only [sel, cond_false]
        rw [w64_id (by omega) (by omega)]
      · rfl) (by
    unfold spec_l42Op_b1
    exact sel_to rfl rfl)
  unfold spec_l42Op So
  refine bind_to b0 ?_
  rw [show (51 : Int) = ((51 : Nat) : Int) from rfl, show (19 : Int) = ((19 : Nat) : Int) from rfl, show (103 : Int) = ((103 : Nat) : Int) from rfl, show (35 : Int) = ((35 : Nat) : Int) from rfl, show (99 : Int) = ((99 : Nat) : Int) from rfl, show (55 : Int) = ((55 : Nat) : Int) from rfl, show (111 : Int) = ((111 : Nat) : Int) from rfl, show (115 : Int) = ((115 : Nat) : Int) from rfl]
  simp only [int_beq]
  cases (op == 51)
  · refine sel_to rfl ?_
    cases (op == 19)
    · refine sel_to rfl ?_
      have b3 : ((op : Int) == 3) = (op == 3) := int_beq op 3
      rw [b3]
      cases (op == 3)
      · refine sel_to rfl ?_
        cases (op == 103)
        · refine sel_to rfl ?_
          cases (op == 35)
          · refine sel_to rfl ?_
            cases (op == 99)
            · refine sel_to rfl ?_
              cases (op == 55)
              · refine sel_to rfl ?_
                cases (op == 111)
                · refine sel_to rfl ?_
                  cases (op == 115) <;> rfl
                · rfl
              · rfl
            · refine sel_tt rfl (bind_to b1 ?_)
              have b3 : ((f3 : Int) == 0) = (f3 == 0) := int_beq f3 0
              rw [b3]
              cases (f3 == 0) <;> rfl
          · rfl
        · rfl
      · rfl
    · refine sel_tt rfl (bind_to b1 ?_)
      have b3 : ((f3 : Int) == 0) = (f3 == 0) := int_beq f3 0
      rw [b3]
      cases (f3 == 0) <;> rfl
  · refine sel_tt rfl ?_
    rw [show (1 : Int) = ((0 : Nat) : Int) + 1 from rfl, loop]
    cases (List.range' 0 11).find? (fun i => (f3 == t3 i) && (f7 == t7 i)) <;> rfl
theorem mask7 (u : Nat) (hu : u < 4294967296) : bitsI .and .i64 (u : Int) 127 = ((u / 2 ^ 0 % 2 ^ 7 : Nat) : Int) := by
  have := mask_nat (a := u) (k := 7) (by omega) (by omega)
  rw [Nat.pow_zero, Nat.div_one]
  exact this
theorem bne_int (a b : Nat) : ((a : Int) != (b : Int)) = !(a == b) := by unfold bne; rw [int_beq]
theorem match_R {x : InstrRow} {i u o a b : Nat} (hu : u < 4294967296) (hi : i < 11) (h1 : x.opcode = o) (h2 : x.funct3 = a) (h3 : x.funct7 = b) :
    impl_instrRow_matches x ((i : Int) + 1) (u : Int) = some ((o == u / 2 ^ 0 % 2 ^ 7) && ((a == u / 2 ^ 12 % 2 ^ 3) && (b == u / 2 ^ 25 % 2 ^ 7))) := by
  have b1 : impl_Bits (u : Int) 12 3 = some ((u / 2 ^ 12 % 2 ^ 3 : Nat) : Int) := ibits_ok u 12 3 hu (by omega) (by omega) (by omega)
  have b2 : impl_Bits (u : Int) 25 7 = some ((u / 2 ^ 25 % 2 ^ 7 : Nat) : Int) := ibits_ok u 25 7 hu (by omega) (by omega) (by omega)
  unfold impl_instrRow_matches
  rw [h1, h2, h3, mask7 u hu, bne_int]
  generalize u / 2 ^ 0 % 2 ^ 7 = op
  generalize u / 2 ^ 12 % 2 ^ 3 = f3 at b1 ⊢
  generalize u / 2 ^ 25 % 2 ^ 7 = f7 at b2 ⊢
  cases (o == op)
  · rfl
  · refine sel_to rfl (bind_to (fmt_R (by omega)) (sel_tt rfl (bind_to b1 ?_)))
    rw [int_beq]
    cases (a == f3)
    · rfl
    · refine bind_to (y := (b == f7)) (sel_tt rfl (bind_to b2 ?_)) rfl
      rw [int_beq]
theorem match_F {x : InstrRow} {i u o a : Nat} (hu : u < 4294967296) (hi : 11 ≤ i) (hi2 : i < 18) (h1 : x.opcode = o) (h2 : x.funct3 = a) :
    impl_instrRow_matches x ((i : Int) + 1) (u : Int) = some ((o == u / 2 ^ 0 % 2 ^ 7) && (a == u / 2 ^ 12 % 2 ^ 3)) := by
  have b1 : impl_Bits (u : Int) 12 3 = some ((u / 2 ^ 12 % 2 ^ 3 : Nat) : Int) := ibits_ok u 12 3 hu (by omega) (by omega) (by omega)
  unfold impl_instrRow_matches
  rw [h1, h2, mask7 u hu, bne_int]
  generalize u / 2 ^ 0 % 2 ^ 7 = op
  generalize u / 2 ^ 12 % 2 ^ 3 = f3 at b1 ⊢
  cases (o == op)
  · rfl
  · rcases (by omega : i < 15 ∨ i = 15 ∨ 16 ≤ i) with h | h | h
    · exact sel_to rfl (bind_to (fmt_I (by omega)) (sel_to rfl (bind_to (y := true) rfl (sel_tt rfl (bind_to b1 (by rw [int_beq, Bool.true_and]))))))
    · exact sel_to rfl (bind_to (fmt_S' (by omega)) (sel_to rfl (bind_to (y := true) rfl (sel_tt rfl (bind_to b1 (by rw [int_beq, Bool.true_and]))))))
    · exact sel_to rfl (bind_to (fmt_B (by omega)) (sel_to rfl (bind_to (y := true) rfl (sel_tt rfl (bind_to b1 (by rw [int_beq, Bool.true_and]))))))
theorem match_N {x : InstrRow} {i u o : Nat} (hu : u < 4294967296) (hi : 18 ≤ i) (hi2 : i < 21) (h1 : x.opcode = o) :
    impl_instrRow_matches x ((i : Int) + 1) (u : Int) = some ((o == u / 2 ^ 0 % 2 ^ 7) && true) := by
  unfold impl_instrRow_matches
  rw [h1, mask7 u hu, bne_int]
  generalize u / 2 ^ 0 % 2 ^ 7 = op
  cases (o == op)
  · rfl
  · rcases (by omega : i = 18 ∨ i = 19 ∨ i = 20) with rfl | rfl | rfl <;> rfl
theorem match_ok {i u : Nat} (hu : u < 4294967296) (hi : i < 21) : ∃ x, nth instrTable (i : Int) = some x ∧ impl_instrRow_matches x ((i : Int) + 1) (u : Int) = some (Mt i (u / 2 ^ 0 % 2 ^ 7) (u / 2 ^ 12 % 2 ^ 3) (u / 2 ^ 25 % 2 ^ 7)) := by
  rcases split21 hi with rfl | rfl | rfl | rfl | rfl | rfl | rfl | rfl | rfl | rfl | rfl | rfl | rfl | rfl | rfl | rfl | rfl | rfl | rfl | rfl | rfl
  all_goals first
    | exact ⟨_, rfl, match_R hu (by decide) rfl rfl rfl⟩
    | exact ⟨_, rfl, match_F hu (by decide) (by decide) rfl rfl⟩
    | exact ⟨_, rfl, match_N hu (by decide) (by decide) rfl⟩
end Go.Proofs.YtdohklfimhkicaaDoor.N
