/- What the machine's arithmetic computes: reference and program alike; words stay words. -/
import Derived.Test.YtdohklfimhkicaaDoorPs
import Derived.Test.YtdohklfimhkicaaDoorS2
import Derived.Test.YtdohklfimhkicaaDoorT10
set_option linter.unusedVariables false
set_option maxRecDepth 100000
set_option maxHeartbeats 4000000
namespace Go.Proofs.YtdohklfimhkicaaDoor.N
open Go.Proofs.YtdohklfimhkicaaDoor.X
def wrapW (n : Int) : Int := if 2147483648 ≤ n % 4294967296 then n % 4294967296 - 4294967296 else n % 4294967296
theorem wrapW_bd (n : Int) : -2147483648 ≤ wrapW n ∧ wrapW n ≤ 2147483647 := by unfold wrapW; split <;> omega
theorem iwrap_ok (n : Int) : impl_Wrap n = some (wrapW n) := by
  have hb := wrapW_bd n
  have e : kwrap .i32 n = wrapW n := by
    show IntKind.wrap .i32 n = _
    unfold wrapW
    simp [IntKind.wrap, IntKind.signed, IntKind.bits]
  unfold impl_Wrap
  rw [e, w64_id (by omega) (by omega)]
theorem tmod_cases (n : Int) : (0 ≤ n ∧ Int.tmod n 4294967296 = n % 4294967296) ∨ (n < 0 ∧ Int.tmod n 4294967296 = -((-n) % 4294967296)) := by
  rcases Int.lt_or_le n 0 with h | h
  · right
    refine ⟨h, ?_⟩
    have h1 := Int.neg_tmod (-n) 4294967296
    rw [Int.neg_neg] at h1
    rw [h1, Int.tmod_eq_emod_of_nonneg (by omega)]
  · exact .inl ⟨h, Int.tmod_eq_emod_of_nonneg h⟩
theorem swrap_ok (n : Int) : spec_Wrap n = some (wrapW n) := by
  unfold spec_Wrap wrapW
  have hc := tmod_cases n
  generalize Int.tmod n 4294967296 = m at hc ⊢
  have hm : -4294967295 ≤ m ∧ m ≤ 4294967295 := by omega
  by_cases h1 : m > 2147483647
  · rw [sel_true (by simpa using h1), w64_id (by omega) (by omega)]
    congr 1
    split <;> omega
  · rw [sel_false (by simpa using h1)]
    by_cases h2 : m < -2147483648
    · rw [sel_true (by simpa using h2), w64_id (by omega) (by omega)]
      congr 1
      split <;> omega
    · rw [sel_false (by simpa using h2)]
      congr 1
      split <;> omega
theorem sel_tt' {α : Type} {b : Bool} {x y r : α} (h : b = true) (k : x = r) : sel b x y = r := by subst h; exact k
theorem wd_wrap (n : Int) : Wd (wrapW n) := wrapW_bd n
theorem swv_ok {x : Int} (h : Wd x) : spec_WordValid x = some true := by
  obtain ⟨h1, h2⟩ := h
  unfold spec_WordValid spec_l6In
  rw [decide_eq_true (by omega), decide_eq_true (by omega)]
  rfl
theorem wd_of_swv {x : Int} (h : spec_WordValid x = some true) : Wd x := by
  unfold spec_WordValid spec_l6In at h
  simp at h
  exact h
theorem app_head {x a b : Int} (hx : spec_OpValid x = some true) (ha : Wd a) (hb : Wd b) : spec_Apply x a b =
(sel (x == 1) (some (bitsI .or .i64 a b, true)) <|
sel (x == 2) (some (bitsI .xor .i64 a b, true)) <|
sel (x == 3) (some (bitsI .and .i64 a b, true)) <|
sel (x == 4) ((spec_l2Flag (a == b)).bind fun y4 =>
some (y4, true)) <|
sel (x == 5) ((spec_l2Flag (decide (a < b))).bind fun y5 =>
some (y5, true)) <|
sel (x == 6) ((spec_l2Shift a b false).bind fun y6 =>
some (y6, true)) <|
sel (x == 7) ((spec_l2Shift a b true).bind fun y7 =>
some (y7, true)) <|
sel (x == 8) ((spec_Wrap (w64 (a + b))).bind fun y8 =>
some (y8, true)) <|
sel (x == 9) ((spec_Wrap (w64 (a - b))).bind fun y9 =>
some (y9, true)) <|
sel (x == 10) ((spec_Wrap (w64 (a * b))).bind fun y10 =>
some (y10, true)) <|
sel (x == 11) ((spec_l2Divide a b).bind fun y11 =>
some (y11, true)) <|
(spec_l2Remain a b).bind fun y12 =>
some (y12, true)) := by
  unfold spec_Apply
  rw [hx, swv_ok ha, swv_ok hb]
  rfl
theorem flag_wd (c : Bool) : ∃ v, Wd v ∧ spec_l2Flag c = some v ∧ impl_truth c = some v := by
  cases c
  · exact ⟨0, by unfold Wd; decide, rfl, rfl⟩
  · exact ⟨1, by unfold Wd; decide, rfl, rfl⟩
theorem shift_y {b : Int} : 0 ≤ b % 32 := by omega
theorem alu_ok (k : Nat) (hk : k < 11) {a b : Int} (ha : Wd a) (hb : Wd b) : ∃ v, Wd v ∧ spec_l44Alu ((k : Int) + 1) a b = some v ∧ ∃ x, nth machineOps (k : Int) = some x ∧ impl_apply x a b = some v := by
  rcases (by omega : k = 0 ∨ k = 1 ∨ k = 2 ∨ k = 3 ∨ k = 4 ∨ k = 5 ∨ k = 6 ∨ k = 7 ∨ k = 8 ∨ k = 9 ∨ k = 10) with rfl | rfl | rfl | rfl | rfl | rfl | rfl | rfl | rfl | rfl | rfl
  · refine ⟨wrapW (w64 (a + b)), wd_wrap _, ?_, 8, rfl, ?_⟩
    · exact bind_to (y := 8) rfl (bind_to ((app_head rfl ha hb).trans (sel_to rfl (sel_to rfl (sel_to rfl (sel_to rfl (sel_to rfl (sel_to rfl (sel_to rfl (sel_tt' rfl (bind_to (swrap_ok _) rfl)))))))))) rfl)
    · exact sel_to rfl (sel_to rfl (sel_to rfl (sel_to rfl (sel_to rfl (sel_to rfl (sel_to rfl (sel_tt' rfl (bind_to (iwrap_ok _) rfl))))))))
  · refine ⟨wrapW (w64 (a - b)), wd_wrap _, ?_, 9, rfl, ?_⟩
    · exact bind_to (y := 9) rfl (bind_to ((app_head rfl ha hb).trans (sel_to rfl (sel_to rfl (sel_to rfl (sel_to rfl (sel_to rfl (sel_to rfl (sel_to rfl (sel_to rfl (sel_tt' rfl (bind_to (swrap_ok _) rfl))))))))))) rfl)
    · exact sel_to rfl (sel_to rfl (sel_to rfl (sel_to rfl (sel_to rfl (sel_to rfl (sel_to rfl (sel_to rfl (sel_tt' rfl (bind_to (iwrap_ok _) rfl)))))))))
  · refine ⟨wrapW (w64 (a * b)), wd_wrap _, ?_, 10, rfl, ?_⟩
    · exact bind_to (y := 10) rfl (bind_to ((app_head rfl ha hb).trans (sel_to rfl (sel_to rfl (sel_to rfl (sel_to rfl (sel_to rfl (sel_to rfl (sel_to rfl (sel_to rfl (sel_to rfl (sel_tt' rfl (bind_to (swrap_ok _) rfl)))))))))))) rfl)
    · exact sel_to rfl (sel_to rfl (sel_to rfl (sel_to rfl (sel_to rfl (sel_to rfl (sel_to rfl (sel_to rfl (sel_to rfl (sel_tt' rfl (bind_to (iwrap_ok _) rfl))))))))))
  · have key : ∃ v, Wd v ∧ spec_l2Divide a b = some v ∧ (sel (b == 0) (some (-1)) ((quoO .i64 a b).bind fun d3 => (impl_Wrap d3).bind fun y7 => some y7)) = some v := by
      by_cases h0 : b = 0
      · subst h0
        exact ⟨-1, by unfold Wd; decide, rfl, rfl⟩
      · have hq : quoO .i64 a b = some (kwrap .i64 (a.tdiv b)) := by unfold quoO; rw [if_neg h0]
        have hb0 : (b == 0) = false := by simpa using h0
        refine ⟨_, wd_wrap _, sel_to hb0 (bind_to hq (bind_to (swrap_ok _) rfl)), sel_to hb0 (bind_to hq (bind_to (iwrap_ok _) rfl))⟩
    obtain ⟨v, k1, k2, k3⟩ := key
    refine ⟨v, k1, ?_, 11, rfl, ?_⟩
    · exact bind_to (y := 11) rfl (bind_to ((app_head rfl ha hb).trans (sel_to rfl (sel_to rfl (sel_to rfl (sel_to rfl (sel_to rfl (sel_to rfl (sel_to rfl (sel_to rfl (sel_to rfl (sel_to rfl (sel_tt' rfl (bind_to k2 rfl))))))))))))) rfl)
    · exact sel_to rfl (sel_to rfl (sel_to rfl (sel_to rfl (sel_to rfl (sel_to rfl (sel_to rfl (sel_to rfl (sel_to rfl (sel_to rfl (sel_tt' rfl k3))))))))))
  · have key : ∃ v, Wd v ∧ spec_l2Remain a b = some v ∧ (sel (b == 0) (some a) ((remO a b).bind fun d4 => some d4)) = some v := by
      by_cases h0 : b = 0
      · subst h0
        exact ⟨a, ha, rfl, rfl⟩
      · have hq : remO a b = some (a.tmod b) := by unfold remO; rw [if_neg h0]
        have hb0 : (b == 0) = false := by simpa using h0
        exact ⟨_, wd_rem ha, sel_to hb0 (bind_to hq rfl), sel_to hb0 (bind_to hq rfl)⟩
    obtain ⟨v, k1, k2, k3⟩ := key
    refine ⟨v, k1, ?_, 12, rfl, ?_⟩
    · exact bind_to (y := 12) rfl (bind_to ((app_head rfl ha hb).trans (sel_to rfl (sel_to rfl (sel_to rfl (sel_to rfl (sel_to rfl (sel_to rfl (sel_to rfl (sel_to rfl (sel_to rfl (sel_to rfl (sel_to rfl (bind_to k2 rfl))))))))))))) rfl)
    · exact sel_to rfl (sel_to rfl (sel_to rfl (sel_to rfl (sel_to rfl (sel_to rfl (sel_to rfl (sel_to rfl (sel_to rfl (sel_to rfl (sel_to rfl k3))))))))))
  · refine ⟨bitsI .and .i64 a b, wd_and ha hb, ?_, 3, rfl, ?_⟩
    · exact bind_to (y := 3) rfl (bind_to ((app_head rfl ha hb).trans (sel_to rfl (sel_to rfl (sel_tt' rfl rfl)))) rfl)
    · exact sel_to rfl (sel_to rfl (sel_tt' rfl rfl))
  · refine ⟨bitsI .or .i64 a b, wd_or ha hb, ?_, 1, rfl, ?_⟩
    · exact bind_to (y := 1) rfl (bind_to ((app_head rfl ha hb).trans (sel_tt' rfl rfl)) rfl)
    · exact sel_tt' rfl rfl
  · refine ⟨bitsI .xor .i64 a b, wd_xor ha hb, ?_, 2, rfl, ?_⟩
    · exact bind_to (y := 2) rfl (bind_to ((app_head rfl ha hb).trans (sel_to rfl (sel_tt' rfl rfl))) rfl)
    · exact sel_to rfl (sel_tt' rfl rfl)
  · have hs : shO .shl .i64 a (bitsI .and .i64 b 31) = some (kwrap .i64 (a * 2 ^ (min (bitsI .and .i64 b 31).toNat (IntKind.bits .i64)))) := by
      unfold shO
      rw [and31, if_neg (by omega)]
    refine ⟨wrapW (kwrap .i64 (a * 2 ^ (min (bitsI .and .i64 b 31).toNat (IntKind.bits .i64)))), wd_wrap _, ?_, 6, rfl, ?_⟩
    · exact bind_to (y := 6) rfl (bind_to ((app_head rfl ha hb).trans (sel_to rfl (sel_to rfl (sel_to rfl (sel_to rfl (sel_to rfl (sel_tt' rfl (bind_to (sel_to rfl (bind_to hs (bind_to (swrap_ok _) rfl))) rfl)))))))) rfl)
    · exact sel_to rfl (sel_to rfl (sel_to rfl (sel_to rfl (sel_to rfl (sel_tt' rfl (bind_to hs (bind_to (iwrap_ok _) rfl)))))))
  · have hs : shO .shr .i64 a (bitsI .and .i64 b 31) = some (a.fdiv (2 ^ (min (bitsI .and .i64 b 31).toNat (IntKind.bits .i64)))) := by
      unfold shO
      rw [and31, if_neg (by omega)]
    refine ⟨_, wd_shr ha (min (bitsI .and .i64 b 31).toNat (IntKind.bits .i64)), ?_, 7, rfl, ?_⟩
    · exact bind_to (y := 7) rfl (bind_to ((app_head rfl ha hb).trans (sel_to rfl (sel_to rfl (sel_to rfl (sel_to rfl (sel_to rfl (sel_to rfl (sel_tt' rfl (bind_to (sel_tt' rfl (bind_to hs rfl)) rfl))))))))) rfl)
    · exact sel_to rfl (sel_to rfl (sel_to rfl (sel_to rfl (sel_to rfl (sel_to rfl (sel_tt' rfl (bind_to hs rfl)))))))
  · obtain ⟨v, k1, k2, k3⟩ := flag_wd (decide (a < b))
    refine ⟨v, k1, ?_, 5, rfl, ?_⟩
    · exact bind_to (y := 5) rfl (bind_to ((app_head rfl ha hb).trans (sel_to rfl (sel_to rfl (sel_to rfl (sel_to rfl (sel_tt' rfl (bind_to k2 rfl))))))) rfl)
    · exact sel_to rfl (sel_to rfl (sel_to rfl (sel_to rfl (sel_tt' rfl (bind_to k3 rfl)))))
end Go.Proofs.YtdohklfimhkicaaDoor.N
