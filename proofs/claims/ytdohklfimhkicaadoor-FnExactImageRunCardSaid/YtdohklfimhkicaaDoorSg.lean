/- A run of an image: reference and program alike. -/
import Derived.Test.YtdohklfimhkicaaDoorSf
import Derived.Test.YtdohklfimhkicaaDoorSh
set_option linter.unusedVariables false
set_option maxRecDepth 100000
set_option maxHeartbeats 4000000
namespace Go.Proofs.YtdohklfimhkicaaDoor.N
open Go.Proofs.YtdohklfimhkicaaDoor.X
theorem all_loop {α : Type} {f : Int → Option (Int ⊕ (Bool ⊕ Unit))} {l : List α} (c : α → Bool) (hl : l.length ≤ 9223372036854775806) (h : ∀ (i : Nat) (hi : i < l.length), f (i : Int) = some (bif c l[i] then .inl (w64 ((i : Int) + 1)) else .inr (.inl false))) (he : f (l.length : Int) = some (.inr (.inr ()))) :
    iter f 0 = some (bif l.all c then .inr () else .inl false) := by
  have key : ∀ (xs pre : List α), pre ++ xs = l → iter f (pre.length : Int) = some (bif xs.all c then .inr () else .inl false) := by
    intro xs
    induction xs with
    | nil =>
      intro pre hp
      rw [List.append_nil] at hp
      subst hp
      rw [iter_eq, he]
      rfl
    | cons x xs ih =>
      intro pre hp
      have hlt : pre.length < l.length := by rw [← hp]; simp
      have hg : l[pre.length]'hlt = x := by subst hp; simp
      rw [iter_eq, h _ hlt, hg, List.all_cons]
      cases c x
      · rfl
      · have k := ih (pre ++ [x]) (by rw [← hp]; simp)
        rw [List.length_append, List.length_singleton] at k
        rw [w64_nat (by omega)]
        exact k
  exact key l [] rfl
def wdB (x : Int) : Bool := decide (x ≥ -2147483648) && decide (x ≤ 2147483647)
theorem wdB_ok {x : Int} (h : wdB x = true) : Wd x := by
  unfold wdB at h
  simp at h
  exact h
theorem swords_ok (l : List Int) (hl : l.length ≤ 1048576) : spec_l4Words l (l.length : Int) = some (l.all wdB) := by
  unfold spec_l4Words
  refine sel_to (by simp) ?_
  have e := all_loop (f := spec_l4Words_b1 l) (l := l) wdB (by omega) (fun i hi => by
    unfold spec_l4Words_b1
    refine sel_tt' (by simpa using hi) (bind_to (nth_at hi) (bind_to (y := wdB l[i]) rfl ?_))
    cases wdB l[i] <;> rfl) (by
    unfold spec_l4Words_b1
    exact sel_to (by simp) rfl)
  refine bind_to e ?_
  cases l.all wdB <;> rfl
theorem iwords_ok (l : List Int) (hl : l.length ≤ 1048576) : impl_areWords l = some (l.all wdB) := by
  unfold impl_areWords
  have e := all_loop (f := impl_areWords_b1 l) (l := l) wdB (by omega) (fun i hi => by
    unfold impl_areWords_b1
    refine sel_tt' (by simpa using hi) (bind_to (nth_at hi) (bind_to (y := wdB l[i]) rfl ?_))
    cases wdB l[i] <;> rfl) (by
    unfold impl_areWords_b1
    exact sel_to (by simp) rfl)
  refine bind_to e ?_
  cases l.all wdB <;> rfl
/-- Reference and program hold the same machines for valid. -/
theorem mv_ok (r : List Int) (pc : Int) (m : List Int) (h1 : r.length ≤ 1048576) (h2 : m.length ≤ 1048576) : ∃ b, spec_MachineValid (Machine.mk r pc m) = some b ∧ impl_MachineValid (Machine.mk r pc m) = some b ∧ (b = true → MOK r pc m) := by
  have s1 := swords_ok r h1
  have s2 := swords_ok m h2
  have i1 := iwords_ok r h1
  have i2 := iwords_ok m h2
  by_cases h32 : r.length = 32
  · rw [h32] at s1
    have hn := nth_at (l := r) (i := 0) (by omega)
    cases ha : r.all wdB
    · rw [ha] at s1 i1
      exact ⟨false, bind_to s1 rfl, bind_to (sel_tt' (by rw [h32]; rfl) (bind_to i1 rfl)) rfl, fun h => by cases h⟩
    rw [ha] at s1 i1
    have e1 : ((r.length : Int) == 32) = true := by rw [h32]; rfl
    cases h0 : (r[0] == 0)
    · exact ⟨false, bind_to s1 (bind_to (y := false) (sel_tt' rfl (bind_to hn (congrArg some h0))) rfl), bind_to (sel_tt' e1 (bind_to i1 rfl)) (bind_to (y := false) (sel_tt' rfl (bind_to hn (congrArg some h0))) rfl), fun h => by cases h⟩
    cases hw : wdB pc
    · exact ⟨false, bind_to s1 (bind_to (y := true) (sel_tt' rfl (bind_to hn (congrArg some h0))) (bind_to (y := false) (sel_tt' rfl (bind_to (congrArg some hw) rfl)) rfl)), bind_to (sel_tt' e1 (bind_to i1 rfl)) (bind_to (y := true) (sel_tt' rfl (bind_to hn (congrArg some h0))) (bind_to (y := false) (sel_tt' rfl (bind_to (congrArg some hw) rfl)) rfl)), fun h => by cases h⟩
    cases h10 : decide ((m.length : Int) ≤ 10000)
    · exact ⟨false, bind_to s1 (bind_to (y := true) (sel_tt' rfl (bind_to hn (congrArg some h0))) (bind_to (y := true) (sel_tt' rfl (bind_to (congrArg some hw) rfl)) (bind_to (y := false) (sel_to h10 rfl) rfl))), bind_to (sel_tt' e1 (bind_to i1 rfl)) (bind_to (y := true) (sel_tt' rfl (bind_to hn (congrArg some h0))) (bind_to (y := true) (sel_tt' rfl (bind_to (congrArg some hw) rfl)) (bind_to (y := false) (sel_to h10 rfl) rfl))), fun h => by cases h⟩
    refine ⟨m.all wdB, bind_to s1 (bind_to (y := true) (sel_tt' rfl (bind_to hn (congrArg some h0))) (bind_to (y := true) (sel_tt' rfl (bind_to (congrArg some hw) rfl)) (bind_to (y := m.all wdB) (sel_tt' h10 (bind_to s2 rfl)) rfl))), bind_to (sel_tt' e1 (bind_to i1 rfl)) (bind_to (y := true) (sel_tt' rfl (bind_to hn (congrArg some h0))) (bind_to (y := true) (sel_tt' rfl (bind_to (congrArg some hw) rfl)) (bind_to (y := m.all wdB) (sel_tt' h10 (bind_to i2 rfl)) rfl))), fun hb => ⟨h32, by have := of_decide_eq_true h10; omega, fun x hx => wdB_ok (List.all_eq_true.1 ha x hx), fun x hx => wdB_ok (List.all_eq_true.1 hb x hx), wdB_ok hw⟩⟩
  · have e0 : spec_l4Words r 32 = some false := by unfold spec_l4Words; exact sel_tt' (by simp; omega) rfl
    have e1 : ((r.length : Int) == 32) = false := by simp; omega
    exact ⟨false, bind_to e0 rfl, bind_to (sel_to e1 rfl) rfl, fun h => by cases h⟩
/-- A state of a run. -/
def RunI (n : Int) (M : Nat) (s : List Int × Int × List Int × Int × List Int) : Prop := MOK s.2.2.1 s.2.2.2.1 s.2.2.2.2 ∧ 0 ≤ s.2.1 ∧ (s.1.length : Int) ≤ s.2.1 ∧ s.2.1 ≤ n ∧ s.2.2.2.2.length = M
def RunQ (M : Nat) (r : (Machine × List Int × Int) ⊕ (List Int × List Int × Int × List Int)) : Prop := match r with
  | .inl x => x.1.Regs.length = 32 ∧ x.1.Mem.length = M ∧ x.2.1.length ≤ 1000000
  | .inr x => x.2.1.length = 32 ∧ x.2.2.2.length = M ∧ x.1.length ≤ 1000000
theorem app1 {l : List Int} (x : Int) (h : l.length ≤ 1000000) : app 8 l [x] = some (l ++ [x]) := app_ok (by simp; omega)
theorem run_ok (n : Int) (hn : n ≤ 1000000) (M : Nat) : ∀ s, RunI n M s → (∃ s', spec_ImageRun_b1 n s = some (.inl s') ∧ impl_ImageRun_b1 n s = some (.inl s') ∧ RunI n M s' ∧ (n - s'.2.1).toNat < (n - s.2.1).toNat) ∨ (∃ r, spec_ImageRun_b1 n s = some (.inr r) ∧ impl_ImageRun_b1 n s = some (.inr r) ∧ RunQ M r) := by
  rintro ⟨out, i, regs, pc, mem⟩ ⟨hM, h0, ho, hi, hm⟩
  simp only at hM h0 ho hi hm
  by_cases hlt : i < n
  · obtain ⟨k, r, p, m, s1, s2, hM', hm', hk⟩ := step_ok hM
    have ht : decide (i < n) = true := by simpa using hlt
    have h17 := nth_at (l := r) (i := 17) (by rw [hM'.r32]; decide)
    have h10 := nth_at (l := r) (i := 10) (by rw [hM'.r32]; decide)
    have hw : w64 (i + 1) = i + 1 := w64_id (by omega) (by omega)
    rcases hk with rfl | ⟨rfl, p0, p1⟩ | rfl
    · left
      refine ⟨(out, w64 (i + 1), r, p, m), sel_tt' ht (bind_to (y := .inl (out, r, p, m)) (bind_to s1 (sel_tt' rfl rfl)) rfl), sel_tt' ht (bind_to s2 (bind_to (y := (out, 1, p)) (bind_to (y := false) (sel_to rfl rfl) rfl) (sel_to rfl rfl))), ⟨hM', ?_, ?_, ?_, ?_⟩, ?_⟩ <;> simp only [hw] <;> omega
    · cases h4 : (r[17]'(by rw [hM'.r32]; decide) == 4)
      · right
        have h4' : (r[17]'(by rw [hM'.r32]; decide) != 4) = true := by unfold bne; rw [h4]; rfl
        refine ⟨.inl (Machine.mk r p m, out, 2), ?_, ?_, ⟨hM'.r32, by show m.length = M; omega, by show out.length ≤ 1000000; omega⟩⟩
        · exact sel_tt' ht (bind_to (y := .inr (Machine.mk r p m, out, 2)) (bind_to s1 (sel_to rfl (bind_to (y := true) (sel_to rfl (bind_to h17 (congrArg some h4'))) (sel_tt' rfl rfl)))) rfl)
        · exact sel_tt' ht (bind_to s2 (bind_to (y := (out, 2, p)) (bind_to (y := false) (sel_tt' rfl (bind_to h17 (congrArg some h4))) rfl) (sel_tt' rfl rfl)))
      · left
        have h4' : (r[17]'(by rw [hM'.r32]; decide) != 4) = false := by unfold bne; rw [h4]; rfl
        have ha := app1 (l := out) (r[10]'(by rw [hM'.r32]; decide)) (by omega)
        obtain ⟨n1, n2, n3, n4⟩ := next_ok hM' p0 p1
        refine ⟨(out ++ [r[10]'(by rw [hM'.r32]; decide)], w64 (i + 1), r, p + 4, m), ?_, ?_, ⟨⟨hM'.r32, hM'.m10, hM'.wr, hM'.wm, n4⟩, ?_, ?_, ?_, ?_⟩, ?_⟩
        · refine sel_tt' ht (bind_to (y := .inl (out ++ [r[10]'(by rw [hM'.r32]; decide)], r, p + 4, m)) (bind_to s1 (sel_to rfl (bind_to (y := false) (sel_to rfl (bind_to h17 (congrArg some h4'))) (sel_to rfl (bind_to h10 (bind_to ha ?_)))))) rfl)
          show some (Sum.inl (out ++ [r[10]'(by rw [hM'.r32]; decide)], r, w64 (p + 4), m)) = _
          rw [n3]
        · exact sel_tt' ht (bind_to s2 (bind_to (y := (out ++ [r[10]'(by rw [hM'.r32]; decide)], 1, p + 4)) (bind_to (y := true) (sel_tt' rfl (bind_to h17 (congrArg some h4))) (sel_tt' rfl (bind_to h10 (bind_to ha (bind_to n1 rfl))))) (sel_to rfl rfl)))
        all_goals (simp only [hw, List.length_append, List.length_singleton]; omega)
    · right
      refine ⟨.inl (Machine.mk r p m, out, 3), ?_, ?_, ⟨hM'.r32, by show m.length = M; omega, by show out.length ≤ 1000000; omega⟩⟩
      · exact sel_tt' ht (bind_to (y := .inr (Machine.mk r p m, out, 3)) (bind_to s1 (sel_to rfl (bind_to (y := true) (sel_tt' rfl rfl) (sel_tt' rfl rfl)))) rfl)
      · exact sel_tt' ht (bind_to s2 (bind_to (y := (out, 3, p)) (bind_to (y := false) (sel_to rfl rfl) rfl) (sel_tt' rfl rfl)))
  · right
    have ht : decide (i < n) = false := by simpa using hlt
    exact ⟨.inr (out, regs, pc, mem), sel_to ht rfl, sel_to ht rfl, hM.r32, hm, by show out.length ≤ 1000000; omega⟩
/-- Reference and program run alike. -/
theorem image_ok (r : List Int) (pc : Int) (m : List Int) (n : Int) (h1 : r.length ≤ 1048576) (h2 : m.length ≤ 1048576) : ∃ M out k, spec_ImageRun (Machine.mk r pc m) n = some (M, out, k) ∧ impl_ImageRun (Machine.mk r pc m) n = some (M, out, k) ∧ M.Regs.length ≤ 32 ∧ M.Mem.length ≤ 1048576 ∧ out.length ≤ 1000000 := by
  obtain ⟨b, v1, v2, v3⟩ := mv_ok r pc m h1 h2
  cases b with
  | false =>
    refine ⟨Machine.mk [] 0 [], [], 0, bind_to v1 (bind_to (y := true) (sel_tt' rfl rfl) (sel_tt' rfl rfl)), bind_to v2 (sel_tt' rfl rfl), ?_, ?_, ?_⟩ <;> exact Nat.zero_le _
  | true =>
    have hM := v3 rfl
    by_cases hn : 0 ≤ n ∧ n ≤ 1000000
    · have e1 : (decide (n ≥ 0) && decide (n ≤ 1000000)) = true := by rw [decide_eq_true (by omega), decide_eq_true (by omega)]; rfl
      have e2 : ((!true || decide (n < 0)) || decide (n > 1000000)) = false := by rw [decide_eq_false (by omega), decide_eq_false (by omega)]; rfl
      have a1 : app 8 [] r = some r := (app_ok (by simp; have := hM.r32; omega)).trans (by simp)
      have a2 : app 8 [] m = some m := (app_ok (by simp; have := hM.m10; omega)).trans (by simp)
      have c1 : spec_l44Copy (Machine.mk r pc m) = some (Machine.mk r pc m) := by
        unfold spec_l44Copy
        dsimp only
        rw [a1, a2]
        rfl
      have c2 : impl_machineCopy (Machine.mk r pc m) = some (Machine.mk r pc m) := by
        unfold impl_machineCopy slices_Clone___int_int_
        dsimp only
        rw [a1, a2]
        rfl
      obtain ⟨z, z', k1, k2, k3, k4⟩ := iter_sim (f := spec_ImageRun_b1 n) (g := impl_ImageRun_b1 n) (fun s t => s = t ∧ RunI n m.length s) (fun s => (n - s.2.1).toNat) (fun a b => a = b ∧ RunQ m.length a) (fun s t ⟨hst, hI⟩ => by
        subst hst
        rcases run_ok n hn.2 m.length s hI with ⟨s', q1, q2, q3, q4⟩ | ⟨z, q1, q2, q3⟩
        · exact .inl ⟨s', s', q1, q2, ⟨rfl, q3⟩, q4⟩
        · exact .inr ⟨z, z, q1, q2, rfl, q3⟩) (s := ([], 0, r, pc, m)) (t := ([], 0, r, pc, m)) ⟨rfl, hM, Int.le_refl _, Int.le_refl _, hn.1, rfl⟩
      subst k3
      have hsp : spec_ImageRun (Machine.mk r pc m) n = both z (fun o7 => some o7) (fun o8 => some ((Machine.mk o8.2.1 o8.2.2.1 o8.2.2.2), o8.1, 1)) :=
        (bind_to v1 (bind_to (y := false) (sel_to rfl (bind_to (congrArg some e1) rfl)) (sel_to rfl (bind_to c1 (bind_to k1 (by cases z <;> rfl))))) : _ = some (match z with
          | .inl x => x
          | .inr x => ((Machine.mk x.2.1 x.2.2.1 x.2.2.2), x.1, 1))).trans (by cases z <;> rfl)
      have him : impl_ImageRun (Machine.mk r pc m) n = both z (fun o7 => some o7) (fun o8 => some ((Machine.mk o8.2.1 o8.2.2.1 o8.2.2.2), o8.1, 1)) :=
        (bind_to v2 (sel_to e2 (bind_to c2 (bind_to k2 (by cases z <;> rfl)))) : _ = some (match z with
          | .inl x => x
          | .inr x => ((Machine.mk x.2.1 x.2.2.1 x.2.2.2), x.1, 1))).trans (by cases z <;> rfl)
      cases z with
      | inl x =>
        obtain ⟨q1, q2, q3⟩ := k4
        exact ⟨x.1, x.2.1, x.2.2, hsp, him, by omega, by omega, q3⟩
      | inr x =>
        obtain ⟨q1, q2, q3⟩ := k4
        exact ⟨_, _, _, hsp, him, by show x.2.1.length ≤ 32; omega, by show x.2.2.2.length ≤ 1048576; omega, q3⟩
    · have e1 : (decide (n ≥ 0) && decide (n ≤ 1000000)) = false := by
        rw [Bool.eq_false_iff]
        simp
        omega
      have e2 : ((!true || decide (n < 0)) || decide (n > 1000000)) = true := by
        simp
        omega
      refine ⟨Machine.mk [] 0 [], [], 0, bind_to v1 (bind_to (y := true) (sel_to rfl (bind_to (congrArg some e1) rfl)) (sel_tt' rfl rfl)), bind_to v2 (sel_tt' e2 rfl), ?_, ?_, ?_⟩ <;> exact Nat.zero_le _
/-- The law's answer. -/
theorem law_run (m : Machine) (n : Int) (h1 : m.Regs.length ≤ maxLen) (h2 : m.Mem.length ≤ maxLen) : laws_FnExactImageRun m n = some true := by
  unfold laws_FnExactImageRun
  obtain ⟨y, e1, hy⟩ := szMachine_ok m h1 h2
  refine bind_to (show laws_szMachine (Machine.mk m.Regs m.Pc m.Mem) 1048576 = some y from e1) ?_
  by_cases hy0 : y < 0
  · exact sel_tt' (by simpa using hy0) rfl
  obtain ⟨g1, g2⟩ := hy hy0
  have tm : laws_toMachine (Machine.mk m.Regs m.Pc m.Mem) = some m := toMachine_ok m g1 g2
  obtain ⟨M, out, k, s1, s2, l1, l2, l3⟩ := image_ok m.Regs m.Pc m.Mem n g1 g2
  have em : laws_eqMachine m m = some true := eqMachine_ok m g1 g2
  have eM : laws_eqMachine (Machine.mk M.Regs M.Pc M.Mem) (Machine.mk M.Regs M.Pc M.Mem) = some true := eqMachine_ok M (by omega) l2
  have eo := eqIntS_ok out (by omega)
  have ek : (k != k) = false := by simp
  obtain ⟨k0, r0, r0', k00, k01, _, _⟩ := heldMachine_ok m (by omega)
  obtain ⟨k1, r1, r2, k2, k3, k4, k5⟩ := heldMachine_ok M (by omega)
  obtain ⟨o', k6, k7⟩ := mhIS out k1 (by omega) (by show k1 + (out.length : Int) ≤ _; omega)
  have k7' : laws_heldIntS o' k1 = some (k1 + out.length) := k7
  have k6' : laws_markIntS out k1 = some (k1 + out.length, o') := k6
  have eq1 : (k1 + (out.length : Int) != k1 + (out.length : Int)) = false := by simp
  refine sel_to (by simpa using hy0) ?_
  refine bind_to tm (bind_to s1 (bind_to tm (bind_to s2 (bind_to eM ?_))))
  refine bind_to (y := false) (sel_to rfl (bind_to eo rfl)) (sel_to ek ?_)
  refine bind_to tm (bind_to (show laws_eqMachine (Machine.mk m.Regs m.Pc m.Mem) (Machine.mk m.Regs m.Pc m.Mem) = some true from em) (sel_to rfl ?_))
  refine bind_to (show laws_markMachine (Machine.mk m.Regs m.Pc m.Mem) 1 = some (k0, r0, r0') from k00) ?_
  refine bind_to (y := false) (sel_to (decide_eq_false (by omega)) (bind_to eM rfl)) ?_
  refine bind_to (y := false) (sel_to rfl (bind_to eo rfl)) (sel_to ek ?_)
  refine bind_to (show laws_markMachine (Machine.mk M.Regs M.Pc M.Mem) 1 = some (k1, r1, r2) from k2) (bind_to k6' ?_)
  refine bind_to (k5 M.Pc) (sel_to (decide_eq_false (by omega)) (bind_to k7' (sel_to (decide_eq_false (by omega)) (sel_to eq1 ?_))))
  refine bind_to tm (bind_to s2 (bind_to eM ?_))
  refine bind_to (y := false) (sel_to rfl (bind_to eo rfl)) (sel_to ek ?_)
  exact bind_to (k5 M.Pc) (sel_to (decide_eq_false (by omega)) (bind_to k7' (sel_to (decide_eq_false (by omega)) (sel_to eq1 rfl))))
end Go.Proofs.YtdohklfimhkicaaDoor.N
