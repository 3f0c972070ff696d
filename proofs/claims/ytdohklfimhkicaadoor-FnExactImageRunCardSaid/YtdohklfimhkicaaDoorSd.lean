/- The decoding of words: reference and program decode alike. -/
import Derived.Test.YtdohklfimhkicaaDoorSc
set_option linter.unusedVariables false
set_option maxRecDepth 100000
set_option maxHeartbeats 4000000
namespace Go.Proofs.YtdohklfimhkicaaDoor.N
open Go.Proofs.YtdohklfimhkicaaDoor.X
noncomputable def insOf (u i : Nat) : Instr := (spec_l42Fields ((i : Int) + 1) (u : Int)).getD ⟨0, 0, 0, 0, 0⟩
noncomputable def encOf (u i : Nat) : Int := (spec_l42Encode (insOf u i)).getD 0
theorem flds (u i : Nat) (hu : u < 4294967296) (hi : i < 21) : spec_l42Fields ((i : Int) + 1) (u : Int) = some (insOf u i) ∧ impl_decodeAs ((i : Int) + 1) (u : Int) = some (insOf u i) ∧ Good i (insOf u i) ∧ ∃ r : Nat, encOf u i = r ∧ spec_l42Encode (insOf u i) = some (r : Int) ∧ impl_InstrEncode (insOf u i) = some ((r : Int), true) ∧ (11 ≤ i → i ≤ 17 → t3 i = r / 4096 % 8) := by
  obtain ⟨x, h1, h2, h3, h4, r, h5, h6, h7, h8⟩ := flds_ok u i hu hi
  have e : insOf u i = x := by unfold insOf; rw [h1]; rfl
  rw [e]
  refine ⟨h1, h2, h3, r, by unfold encOf; rw [e, h7]; rfl, h7, h8 h4, fun a b => ?_⟩
  have k := h6 i h3.1 a b
  rcases (by omega : i = 11 ∨ i = 12 ∨ i = 13 ∨ i = 14 ∨ i = 15 ∨ i = 16 ∨ i = 17) with rfl | rfl | rfl | rfl | rfl | rfl | rfl
  all_goals (have k' := Option.some.inj k; simp only [t3]; exact Int.ofNat.inj k')
theorem so_op {op f3 f7 i : Nat} (hi : i < 21) (h : So op f3 f7 = i + 1) : tO i = op ∧ (i < 11 → t3 i = f3 ∧ t7 i = f7) := by
  unfold So at h
  cases e1 : (op == 51) with
  | true =>
    rw [e1] at h
    simp only [cond_true] at h
    have e1 := eq_of_beq e1
    split at h
    · rename_i j hj
      obtain rfl : j = i := by omega
      have h2 := List.find?_some hj
      have h3 := List.mem_of_find?_eq_some hj
      simp at h3
      simp only [Bool.and_eq_true] at h2
      refine ⟨?_, fun _ => ⟨(eq_of_beq h2.1).symm, (eq_of_beq h2.2).symm⟩⟩
      rcases split21 hi with rfl | rfl | rfl | rfl | rfl | rfl | rfl | rfl | rfl | rfl | rfl | rfl | rfl | rfl | rfl | rfl | rfl | rfl | rfl | rfl | rfl
      all_goals first | exact e1.symm | (exfalso; omega)
    · omega
  | false =>
    rw [e1] at h
    simp only [cond_false] at h
    cases e2 : (op == 19) with
    | true =>
      rw [e2] at h
      have e2 := eq_of_beq e2
      cases e3 : (f3 == 0) <;> rw [e3] at h <;> simp only [cond_true, cond_false] at h
      · obtain rfl : i = 12 := by omega
        exact ⟨e2.symm, fun h => absurd h (by decide)⟩
      · obtain rfl : i = 11 := by omega
        exact ⟨e2.symm, fun h => absurd h (by decide)⟩
    | false =>
      rw [e2] at h
      simp only [cond_false] at h
      cases e3 : (op == 3) with
      | true =>
        rw [e3] at h
        simp only [cond_true] at h
        obtain rfl : i = 13 := by omega
        exact ⟨(eq_of_beq e3).symm, fun h => absurd h (by decide)⟩
      | false =>
        rw [e3] at h
        simp only [cond_false] at h
        cases e4 : (op == 103) with
        | true =>
          rw [e4] at h
          simp only [cond_true] at h
          obtain rfl : i = 14 := by omega
          exact ⟨(eq_of_beq e4).symm, fun h => absurd h (by decide)⟩
        | false =>
          rw [e4] at h
          simp only [cond_false] at h
          cases e5 : (op == 35) with
          | true =>
            rw [e5] at h
            simp only [cond_true] at h
            obtain rfl : i = 15 := by omega
            exact ⟨(eq_of_beq e5).symm, fun h => absurd h (by decide)⟩
          | false =>
            rw [e5] at h
            simp only [cond_false] at h
            cases e6 : (op == 99) with
            | true =>
              rw [e6] at h
              have e6 := eq_of_beq e6
              cases e7 : (f3 == 0) <;> rw [e7] at h <;> simp only [cond_true, cond_false] at h
              · obtain rfl : i = 17 := by omega
                exact ⟨e6.symm, fun h => absurd h (by decide)⟩
              · obtain rfl : i = 16 := by omega
                exact ⟨e6.symm, fun h => absurd h (by decide)⟩
            | false =>
              rw [e6] at h
              simp only [cond_false] at h
              cases e7 : (op == 55) with
              | true =>
                rw [e7] at h
                simp only [cond_true] at h
                obtain rfl : i = 18 := by omega
                exact ⟨(eq_of_beq e7).symm, fun h => absurd h (by decide)⟩
              | false =>
                rw [e7] at h
                simp only [cond_false] at h
                cases e8 : (op == 111) with
                | true =>
                  rw [e8] at h
                  simp only [cond_true] at h
                  obtain rfl : i = 19 := by omega
                  exact ⟨(eq_of_beq e8).symm, fun h => absurd h (by decide)⟩
                | false =>
                  rw [e8] at h
                  simp only [cond_false] at h
                  cases e9 : (op == 115) with
                  | true =>
                    rw [e9] at h
                    simp only [cond_true] at h
                    obtain rfl : i = 20 := by omega
                    exact ⟨(eq_of_beq e9).symm, fun h => absurd h (by decide)⟩
                  | false =>
                    rw [e9] at h
                    simp only [cond_false] at h
                    omega
theorem find_uniq {c : Nat → Bool} {i : Nat} (hc : c i = true) : ∀ {l : List Nat}, i ∈ l → (∀ j ∈ l, c j = true → j = i) → l.find? c = some i
  | [], h, _ => by cases h
  | x :: xs, h, hu => by
    rw [List.find?_cons]
    cases hx : c x with
    | true => rw [hu x (by simp) hx]
    | false =>
      rcases List.mem_cons.1 h with h | h
      · subst h; rw [hc] at hx; cases hx
      · exact find_uniq hc h fun j hj => hu j (by simp [hj])
theorem find_none {c : Nat → Bool} {l : List Nat} (h : ∀ j ∈ l, c j = true → False) : l.find? c = none := by
  rw [List.find?_eq_none]
  intro j hj
  simpa using h j hj
/-- Reference and program decode alike. -/
theorem dec_ok (u : Nat) (hu : u < 4294967296) : ∃ x b, spec_InstrDecode (u : Int) = some (x, b) ∧ impl_InstrDecode (u : Int) = some (x, b) ∧ (b = true → ∃ i, i < 21 ∧ Good i x) := by
  have hk := kind_ok u hu
  have loop := find_loop (f := impl_InstrDecode_b1 (u : Int)) (fun i => Mt i (u / 2 ^ 0 % 2 ^ 7) (u / 2 ^ 12 % 2 ^ 3) (u / 2 ^ 25 % 2 ^ 7) && (encOf u i == (u : Int))) (fun i => (insOf u i, true)) 21 0 (fun i _ h2 => by
    have hi : i < 21 := by omega
    obtain ⟨x, m1, m2⟩ := match_ok (i := i) hu hi
    obtain ⟨f1, f2, f3, r, f4, f5, f6, f7⟩ := flds u i hu hi
    unfold impl_InstrDecode_b1
    rw [sel_true (decide_eq_true (by omega)), show (i : Int) + 1 - 1 = i by omega, w64_id (x := (i : Int)) (by omega) (by omega)]
    have hw : w64 ((i : Int) + 1 + 1) = (i : Int) + 1 + 1 := w64_id (by omega) (by omega)
    rw [f4, hw]
    generalize Mt i (u / 2 ^ 0 % 2 ^ 7) (u / 2 ^ 12 % 2 ^ 3) (u / 2 ^ 25 % 2 ^ 7) = m at m2
    cases m
    · exact bind_to (bind_to m1 (bind_to m2 rfl)) rfl
    · cases hr : ((r : Int) == (u : Int))
      · refine bind_to (y := .inl ()) (bind_to m1 (bind_to m2 (sel_to rfl (bind_to f2 (bind_to f6 ?_))))) rfl
        exact sel_to (by simp only [hr, Bool.true_and]) rfl
      · refine bind_to (y := .inr (insOf u i, true)) (bind_to m1 (bind_to m2 (sel_to rfl (bind_to f2 (bind_to f6 ?_))))) rfl
        exact sel_tt (by simp only [hr, Bool.true_and]) rfl) (by
    unfold impl_InstrDecode_b1
    exact sel_to rfl rfl)
  have e1 : (decide ((u : Int) ≥ 0) && decide ((u : Int) ≤ 4294967295)) = true := by rw [decide_eq_true (by omega), decide_eq_true (by omega)]; rfl
  have e2 : (decide ((u : Int) ≥ 0) && decide ((u : Int) < 4294967296)) = true := by rw [decide_eq_true (by omega), decide_eq_true (by omega)]; rfl
  have hle := so_le (u / 2 ^ 0 % 2 ^ 7) (u / 2 ^ 12 % 2 ^ 3) (u / 2 ^ 25 % 2 ^ 7)
  have hmt : ∀ i, i < 21 → Mt i (u / 2 ^ 0 % 2 ^ 7) (u / 2 ^ 12 % 2 ^ 3) (u / 2 ^ 25 % 2 ^ 7) = true → _ := fun i hi h => so_of_mt hi h
  have hso : ∀ i, i < 21 → So (u / 2 ^ 0 % 2 ^ 7) (u / 2 ^ 12 % 2 ^ 3) (u / 2 ^ 25 % 2 ^ 7) = i + 1 → _ := fun i hi h => so_op hi h
  have impl : impl_InstrDecode (u : Int) = (iter (impl_InstrDecode_b1 (u : Int)) 1).bind fun y2 => both y2 (fun o7 => some o7) (fun o8 => some ((Instr.mk 0 0 0 0 0), false)) := by
    unfold impl_InstrDecode impl_isUnsigned
    rw [e2]
    rfl
  have h1 : (1 : Int) = ((0 : Nat) : Int) + 1 := rfl
  rw [h1, loop] at impl
  have hmem : ∀ j, j ∈ List.range' 0 21 → j < 21 := fun j hj => by simpa using hj
  rcases Nat.eq_zero_or_pos (So (u / 2 ^ 0 % 2 ^ 7) (u / 2 ^ 12 % 2 ^ 3) (u / 2 ^ 25 % 2 ^ 7)) with h0 | hpos
  · refine ⟨⟨0, 0, 0, 0, 0⟩, false, ?_, ?_, fun h => by cases h⟩
    · unfold spec_InstrDecode spec_l6In
      rw [e1]
      refine bind_to rfl (bind_to (y := true) (sel_to rfl (bind_to hk ?_)) rfl)
      rw [h0]
      rfl
    · rw [impl, find_none fun j hj hc => by
        simp only [Bool.and_eq_true] at hc
        have := hmt j (hmem j hj) hc.1
        omega]
      rfl
  · obtain ⟨i, hi⟩ : ∃ i, So (u / 2 ^ 0 % 2 ^ 7) (u / 2 ^ 12 % 2 ^ 3) (u / 2 ^ 25 % 2 ^ 7) = i + 1 := ⟨_, (Nat.succ_pred_eq_of_pos hpos).symm⟩
    have hi21 : i < 21 := by omega
    obtain ⟨f1, f2, f3, r, f4, f5, f6, f7⟩ := flds u i hu hi21
    rw [hi] at hk
    have hk' : spec_l42Op (u : Int) = some ((i : Int) + 1) := by rw [hk]; rfl
    have spec : spec_InstrDecode (u : Int) = sel ((r : Int) != (u : Int)) (some ((Instr.mk 0 0 0 0 0), false)) (some (insOf u i, true)) := by
      unfold spec_InstrDecode spec_l6In
      rw [e1]
      have hz : ((i : Int) + 1 == 0) = false := by simp; omega
      refine Eq.trans (b := (some ((r : Int) != (u : Int))).bind fun b => sel b (some ((Instr.mk 0 0 0 0 0), false)) (some (insOf u i, true))) ?_ rfl
      simp only [Option.bind_some, Bool.not_true, hk', f1, f5, hz, sel]
    rcases Nat.lt_or_ge r u with hru | hru
    · refine ⟨⟨0, 0, 0, 0, 0⟩, false, ?_, ?_, fun h => by cases h⟩
      · rw [spec, sel_true (by simp; omega)]
      · rw [impl, find_none fun j hj hc => by
          simp only [Bool.and_eq_true] at hc
          have := hmt j (hmem j hj) hc.1
          obtain rfl : j = i := by omega
          have := eq_of_beq hc.2
          omega]
        rfl
    · rcases Nat.eq_or_lt_of_le hru with hru | hru
      · subst hru
        refine ⟨insOf u i, true, ?_, ?_, fun _ => ⟨i, hi21, f3⟩⟩
        · rw [spec, sel_false (by simp)]
        · have hm : Mt i (u / 2 ^ 0 % 2 ^ 7) (u / 2 ^ 12 % 2 ^ 3) (u / 2 ^ 25 % 2 ^ 7) = true := by
            obtain ⟨g1, g2⟩ := hso i hi21 hi
            unfold Mt
            rw [g1]
            have hb : ∀ n : Nat, (n == n) = true := fun n => by simp
            rw [hb, Bool.true_and]
            rcases (by omega : i < 11 ∨ (11 ≤ i ∧ i ≤ 17) ∨ 17 < i) with h | h | h
            · obtain ⟨g3, g4⟩ := g2 h
              rw [show Nat.blt i 11 = true from Nat.ble_eq_true_of_le h, g3, g4, hb, hb]
              rfl
            · have g5 := f7 h.1 h.2
              have x1 : Nat.blt i 11 = false := by cases hx : Nat.blt i 11 with
                | false => rfl
                | true => have := Nat.le_of_ble_eq_true hx; omega
              have x2 : Nat.blt i 18 = true := Nat.ble_eq_true_of_le (show i + 1 ≤ 18 by omega)
              rw [x1, x2, g5]
              exact hb _
            · have x1 : Nat.blt i 11 = false := by cases hx : Nat.blt i 11 with
                | false => rfl
                | true => have := Nat.le_of_ble_eq_true hx; omega
              have x2 : Nat.blt i 18 = false := by cases hx : Nat.blt i 18 with
                | false => rfl
                | true => have := Nat.le_of_ble_eq_true hx; omega
              rw [x1, x2]
              rfl
          rw [impl, find_uniq (i := i) (by rw [hm, f4]; simp) (by simpa using hi21) fun j hj hc => by
            simp only [Bool.and_eq_true] at hc
            have := hmt j (hmem j hj) hc.1
            omega]
          rfl
      · refine ⟨⟨0, 0, 0, 0, 0⟩, false, ?_, ?_, fun h => by cases h⟩
        · rw [spec, sel_true (by simp; omega)]
        · rw [impl, find_none fun j hj hc => by
            simp only [Bool.and_eq_true] at hc
            have := hmt j (hmem j hj) hc.1
            obtain rfl : j = i := by omega
            have := eq_of_beq hc.2
            omega]
          rfl
end Go.Proofs.YtdohklfimhkicaaDoor.N
