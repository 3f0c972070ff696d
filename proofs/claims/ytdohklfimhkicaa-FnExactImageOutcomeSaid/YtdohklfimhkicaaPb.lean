/- The law of an image's outcome: reference and program answer alike. -/
import Derived.Test.YtdohklfimhkicaaPa
set_option linter.unusedVariables false
set_option maxRecDepth 100000
set_option linter.unusedSimpArgs false
set_option maxHeartbeats 4000000
namespace Go.Proofs.Ytdohklfimhkicaa.N
open Go.Proofs.Ytdohklfimhkicaa.X
def word (x : Int) : Bool := (decide (x ≥ (-2147483648))) && (decide (x ≤ 2147483647))
theorem b1_eq (l : List Int) : spec_l4Words_b1 l = impl_areWords_b1 l := by
  funext s
  unfold spec_l4Words_b1 impl_areWords_b1 spec_WordValid spec_l6In impl_WordValid
  rfl
theorem areWords_ok (l : List Int) (h : l.length ≤ 1048576) : impl_areWords l = some (l.all word) := by
  have key := iter_inv (f := impl_areWords_b1 l) (fun s => ∃ i : Nat, s = (i : Int) ∧ i ≤ l.length ∧ (l.take i).all word = true) (fun s => l.length - s.toNat) (fun r => both r (fun o => some o) (fun _ => some true) = some (l.all word)) (s := 0) (fun s hs => ?_) ⟨0, rfl, by omega, by simp⟩
  · obtain ⟨r, h1, h2⟩ := key
    unfold impl_areWords
    rw [h1]
    exact h2
  · obtain ⟨i, rfl, hi, ha⟩ := hs
    unfold impl_areWords_b1
    rcases Nat.lt_or_ge i l.length with hlt | hge
    · rw [sel_true (by simpa using hlt)]
      simp only [nth_at hlt, Option.bind_some, impl_WordValid]
      cases hw : word l[i]
      · right
        refine ⟨.inl false, ?_, ?_⟩
        · rw [sel_true]
          unfold word at hw
          rw [hw]; rfl
        · show some false = some (l.all word)
          congr 1
          symm
          rw [List.all_eq_false]
          exact ⟨l[i], List.getElem_mem hlt, by simp [hw]⟩
      · left
        refine ⟨((i + 1 : Nat) : Int), ?_, ⟨i + 1, rfl, by omega, ?_⟩, by omega⟩
        · rw [sel_false, w64_nat (by omega)]
          unfold word at hw
          rw [hw]; rfl
        · rw [← List.take_append_getElem hlt, List.all_append, ha]
          simp [hw]
    · right
      rw [sel_false (by simpa using hge)]
      refine ⟨_, rfl, ?_⟩
      show some true = _
      rw [← ha, List.take_of_length_le hge]
theorem l4Words_ok (l : List Int) (h : l.length ≤ 1048576) : spec_l4Words l l.length = some (l.all word) := by
  unfold spec_l4Words
  rw [sel_false (by simp), b1_eq]
  exact areWords_ok l h
theorem l4Words_n (l : List Int) (n : Nat) (h : l.length ≤ 1048576) : spec_l4Words l n = some ((l.length == n) && l.all word) := by
  by_cases hn : l.length = n
  · subst hn
    rw [l4Words_ok l h]
    simp
  · unfold spec_l4Words
    rw [sel_true (by simp; omega)]
    simp [hn]
theorem mv_ok (m : Machine) (h1 : m.Regs.length ≤ 1048576) (h2 : m.Mem.length ≤ 1048576) :
    ∃ b, spec_MachineValid m = some b ∧ impl_MachineValid m = some b ∧ (b = true → m.Regs.length = 32 ∧ m.Mem.length ≤ 10000 ∧ m.Mem.all word = true) := by
  have e1 : spec_l4Words m.Regs 32 = some ((m.Regs.length == 32) && m.Regs.all word) := l4Words_n m.Regs 32 h1
  unfold spec_MachineValid impl_MachineValid
  rw [e1, areWords_ok _ h1, l4Words_ok _ h2, areWords_ok _ h2]
  simp only [Option.bind_some]
  have e2 : ((m.Regs.length : Int) == 32) = (m.Regs.length == 32) := by rw [Bool.eq_iff_iff]; simp; omega
  rw [e2]
  cases h3 : (m.Regs.length == 32)
  · refine ⟨false, ?_, ?_, by simp⟩ <;> simp [sel]
  · have h3' : m.Regs.length = 32 := by simpa using h3
    cases h4 : m.Regs.all word
    · refine ⟨false, ?_, ?_, by simp⟩ <;> simp [sel]
    · have hn := nth_at (l := m.Regs) (i := 0) (by omega)
      rw [show ((0 : Nat) : Int) = 0 from rfl] at hn
      simp only [sel, hn, Option.bind_some, Bool.and_self]
      cases h5 : (m.Regs[0] == 0)
      · refine ⟨false, ?_, ?_, by simp⟩ <;> simp [sel]
      · simp only [spec_WordValid, spec_l6In, impl_WordValid, Option.bind_some]
        cases h6 : (decide (m.Pc ≥ -2147483648) && decide (m.Pc ≤ 2147483647))
        · refine ⟨false, ?_, ?_, by simp⟩ <;> simp [sel]
        · simp only [Bool.true_and]
          cases h7 : decide ((m.Mem.length : Int) ≤ 10000)
          · refine ⟨false, ?_, ?_, by simp⟩ <;> simp [sel]
          · refine ⟨m.Mem.all word, by simp [sel], by simp [sel], fun hb => ⟨h3', ?_, hb⟩⟩
            have := of_decide_eq_true h7
            omega
theorem rv_ok (r : Ring) (h : r.Slots.length ≤ 1048576) : ∃ b, spec_RingValid r = some b ∧ impl_RingValid r = some b ∧ (b = true → 1 ≤ r.Room ∧ r.Room ≤ 4 ∧ 0 ≤ r.Head ∧ r.Head < r.Room ∧ 0 ≤ r.Len ∧ r.Len ≤ r.Room ∧ r.Slots.length = 4) := by
  have e1 : spec_l4Words r.Slots 4 = some ((r.Slots.length == 4) && r.Slots.all word) := l4Words_n r.Slots 4 h
  unfold spec_RingValid impl_RingValid spec_l6In
  rw [e1, areWords_ok _ h]
  simp only [Option.bind_some]
  by_cases ha : 1 ≤ r.Room ∧ r.Room ≤ 4
  · have hw : w64 (r.Room - 1) = r.Room - 1 := w64_id (by omega) (by omega)
    have e2 : ((r.Slots.length : Int) == 4) = (r.Slots.length == 4) := by rw [Bool.eq_iff_iff]; simp; omega
    rw [hw, e2]
    by_cases hb : 0 ≤ r.Head ∧ r.Head < r.Room
    · by_cases hc : 0 ≤ r.Len ∧ r.Len ≤ r.Room
      · cases hd : (r.Slots.length == 4)
        · have : r.Head ≤ r.Room - 1 := by omega
          refine ⟨false, ?_, ?_, by simp⟩
          · simp [sel, ha, hb, hc, this]
          · simp [sel, ha, hb, hc]
        · refine ⟨r.Slots.all word, ?_, ?_, fun _ => ⟨ha.1, ha.2, hb.1, hb.2, hc.1, hc.2, by simpa using hd⟩⟩
          · have : r.Head ≤ r.Room - 1 := by omega
            simp [sel, ha, hb, hc, this]
          · simp [sel, ha, hb, hc]
      · have hc' : (decide (r.Len ≥ 0) && decide (r.Len ≤ r.Room)) = false := by simp; omega
        refine ⟨false, ?_, ?_, by simp⟩
        · have : r.Head ≤ r.Room - 1 := by omega
          rcases Int.lt_or_le r.Len 0 with h | h
          · simp [sel, ha, hb, this, show ¬ (0 ≤ r.Len) by omega]
          · simp [sel, ha, hb, this, show ¬ (r.Len ≤ r.Room) by omega]
        · simp [sel, ha, hb]
          rcases Int.lt_or_le r.Len 0 with h | h
          · simp [show ¬ (0 ≤ r.Len) by omega]
          · simp [show ¬ (r.Len ≤ r.Room) by omega]
    · refine ⟨false, ?_, ?_, by simp⟩
      · have : (decide (r.Head ≥ 0) && decide (r.Head ≤ r.Room - 1)) = false := by simp; omega
        simp only [this, ha]
        simp [sel]
      · have : (decide (r.Head ≥ 0) && decide (r.Head < r.Room)) = false := by simp; omega
        simp [sel, ha]
        rcases Int.lt_or_le r.Head 0 with h | h
        · simp [show ¬ (0 ≤ r.Head) by omega]
        · simp [show ¬ (r.Head < r.Room) by omega]
  · have hx : (decide (r.Room ≥ 1) && decide (r.Room ≤ 4)) = false := by simp; omega
    refine ⟨false, ?_, ?_, by simp⟩
    · rw [hx]; simp [sel]
    · rw [hx]; simp [sel]
theorem rb_eq (r : Ring) : spec_RingBox_b1 r = impl_RingBox_b1 r := rfl
theorem rb_ok (r : Ring) (h : r.Slots.length ≤ 1048576) : ∃ y, spec_RingBox r = some y ∧ impl_RingBox r = some y ∧ (y.2 = true → y.1.Items.length ≤ 4) := by
  obtain ⟨b, e1, e2, hb⟩ := rv_ok r h
  unfold spec_RingBox impl_RingBox
  rw [rb_eq]
  have e1' : spec_RingValid (Ring.mk r.Room r.Head r.Len r.Slots) = some b := e1
  have e2' : impl_RingValid (Ring.mk r.Room r.Head r.Len r.Slots) = some b := e2
  rw [e1', e2']
  simp only [Option.bind_some]
  cases b
  · exact ⟨_, rfl, rfl, fun h => by cases h⟩
  · obtain ⟨g1, g2, g3, g4, g5, g6, g7⟩ := hb rfl
    obtain ⟨y, k1, k2⟩ := iter_inv (f := impl_RingBox_b1 r) (fun s => 0 ≤ s.1 ∧ s.1 ≤ r.Len ∧ s.2.length = s.1.toNat) (fun s => (r.Len - s.1).toNat) (fun y => y.length ≤ 4) (s := (0, [])) (fun s ⟨i1, i2, i3⟩ => by
      unfold impl_RingBox_b1
      by_cases hlt : s.1 < r.Len
      · left
        have hd : w64 (r.Head + s.1) = r.Head + s.1 := w64_id (by omega) (by omega)
        have hr : remO (r.Head + s.1) r.Room = some ((r.Head + s.1).tmod r.Room) := by unfold remO; rw [if_neg (by omega)]
        have m1 : 0 ≤ (r.Head + s.1).tmod r.Room := Int.tmod_nonneg _ (by omega)
        have m2 : (r.Head + s.1).tmod r.Room < r.Room := Int.tmod_lt_of_pos _ (by omega)
        have hn := nth_at (l := r.Slots) (i := ((r.Head + s.1).tmod r.Room).toNat) (by omega)
        rw [Int.toNat_of_nonneg m1] at hn
        rw [sel_true (by simpa using hlt), hd, hr]
        simp only [Option.bind_some, hn]
        rw [app_ok (by simp; omega), w64_id (by omega) (by omega)]
        exact ⟨_, rfl, ⟨by simp only; omega, by simp only; omega, by simp [i3]; omega⟩, by simp only; omega⟩
      · right
        rw [sel_false (by simpa using hlt)]
        exact ⟨_, rfl, by omega⟩) ⟨by omega, by omega, rfl⟩
    rw [k1]
    exact ⟨_, rfl, rfl, fun _ => k2⟩
theorem nth_drop (M : List Int) (a : Nat) (k : Int) (hk : 0 ≤ k) : nth (M.drop a) k = nth M ((a : Int) + k) := by
  unfold nth
  rw [if_neg (by omega), if_neg (by omega), List.getElem?_drop]
  congr 1
  omega
theorem cut_ok {l : List Int} {lo hi : Int} (h0 : 0 ≤ lo) (h1 : lo ≤ hi) (h2 : hi ≤ l.length) : cut l lo hi = some ((l.take hi.toNat).drop lo.toNat) := by
  unfold cut
  rw [if_pos ⟨h0, h1, h2⟩]
/-- The boxes' rooms, one behind the other. -/
theorem items_ok (M : List Int) (a : Nat) (h : a + 44 ≤ M.length) (hl : M.length ≤ 1048576) (o : Outcome) :
    ∃ r, (iter (spec_l47Items_b1 M (a : Int)) ([], 0)) = some r ∧
      (match r with
      | .inl x => x = ([], false) ∧ iter (impl_ImageOutcome_b1 (M.drop a)) (0, []) = some (.inl (Outcome.mk [] [] [] false))
      | .inr y => (y.length ≤ 3 ∧ ∀ x ∈ y, x.length ≤ 4) ∧ iter (impl_ImageOutcome_b1 (M.drop a)) (0, []) = some (.inr y)) := by
  obtain ⟨r, r', h1, h2, h3⟩ := iter_sim (f := spec_l47Items_b1 M (a : Int)) (g := impl_ImageOutcome_b1 (M.drop a))
    (fun s t => s.2 = t.1 ∧ s.1 = t.2 ∧ 0 ≤ s.2 ∧ s.2 ≤ 3 ∧ s.1.length = s.2.toNat ∧ ∀ x ∈ s.1, x.length ≤ 4) (fun s => (3 - s.2).toNat)
    (fun r r' => match r, r' with
      | .inl x, .inl y => x = ([], false) ∧ y = Outcome.mk [] [] [] false
      | .inr x, .inr y => x = y ∧ (y.length ≤ 3 ∧ ∀ x ∈ y, x.length ≤ 4)
      | _, _ => False) (s := ([], 0)) (t := (0, [])) (fun s t ⟨i1, i2, i3, i4, i5, i6⟩ => by
    obtain ⟨acc, j⟩ := s
    obtain ⟨j', acc'⟩ := t
    simp only at i1 i2 i3 i4 i5 i6
    subst i1
    subst i2
    unfold spec_l47Items_b1 impl_ImageOutcome_b1
    by_cases hj : j < 3
    · obtain ⟨q, rfl⟩ : ∃ q : Nat, j = (q : Int) := ⟨j.toNat, by omega⟩
      have w1 : w64 ((a : Int) + 4) = (a : Int) + 4 := w64_id (by omega) (by omega)
      have w2 : w64 (8 * (q : Int)) = 8 * (q : Int) := w64_id (by omega) (by omega)
      have w3 : w64 ((a : Int) + 4 + 8 * (q : Int)) = (a : Int) + 4 + 8 * (q : Int) := w64_id (by omega) (by omega)
      have w4 : w64 (4 + 8 * (q : Int)) = 4 + 8 * (q : Int) := w64_id (by omega) (by omega)
      have n1 : nth (M.drop a) (4 + 8 * (q : Int)) = nth M ((a : Int) + 4 + 8 * (q : Int)) := by
        rw [nth_drop _ _ _ (by omega)]
        congr 1
        omega
      have hB : a + 4 + 8 * q + 8 ≤ M.length := by omega
      have eB : (a : Int) + 4 + 8 * (q : Int) = ((a + 4 + 8 * q : Nat) : Int) := by omega
      have n2 := nth_at (l := M) (i := a + 4 + 8 * q) (by omega)
      rw [← eB] at n2
      simp only [hj, decide_true, sel, w1, w2, w3, w4, n1, n2, Option.bind_some]
      cases hz : (M[a + 4 + 8 * q] != 0)
      · right
        exact ⟨_, _, rfl, rfl, rfl, by omega, i6⟩
      · have w5 : w64 ((a : Int) + 4 + 8 * (q : Int) + 1) = ((a + 4 + 8 * q + 1 : Nat) : Int) := by rw [w64_id (by omega) (by omega)]; omega
        have w6 : w64 ((a : Int) + 4 + 8 * (q : Int) + 2) = ((a + 4 + 8 * q + 2 : Nat) : Int) := by rw [w64_id (by omega) (by omega)]; omega
        have w7 : w64 ((a : Int) + 4 + 8 * (q : Int) + 4) = ((a + 4 + 8 * q + 4 : Nat) : Int) := by rw [w64_id (by omega) (by omega)]; omega
        have w8 : w64 ((a : Int) + 4 + 8 * (q : Int) + 8) = ((a + 4 + 8 * q + 8 : Nat) : Int) := by rw [w64_id (by omega) (by omega)]; omega
        have c1 : cut (M.drop a) (4 + 8 * (q : Int)) ((M.drop a).length : Int) = some (M.drop (a + 4 + 8 * q)) := by
          rw [cut_ok (by omega) (by rw [List.length_drop]; omega) (by omega)]
          rw [show ((M.drop a).length : Int).toNat = (M.drop a).length by omega, List.take_length, List.drop_drop]
          congr 2
          omega
        have c2 : cut (M.drop (a + 4 + 8 * q)) 4 8 = some ((M.take (a + 4 + 8 * q + 8)).drop (a + 4 + 8 * q + 4)) := by
          rw [cut_ok (by omega) (by omega) (by rw [List.length_drop]; omega)]
          congr 1
          rw [show Int.toNat 4 = 4 from rfl, show Int.toNat 8 = 8 from rfl, List.take_drop, List.drop_drop]
        have c3 : cut M ((a + 4 + 8 * q + 4 : Nat) : Int) ((a + 4 + 8 * q + 8 : Nat) : Int) = some ((M.take (a + 4 + 8 * q + 8)).drop (a + 4 + 8 * q + 4)) := by
          rw [cut_ok (by omega) (by omega) (by omega)]
          congr 1
        have d0 : nth (M.drop (a + 4 + 8 * q)) 0 = some M[a + 4 + 8 * q] := by
          rw [nth_drop _ _ _ (by omega), ← n2]; first | rfl | (congr 1; omega) | congr 1
        have d1 : nth (M.drop (a + 4 + 8 * q)) 1 = some M[a + 4 + 8 * q + 1] := by
          rw [nth_drop _ _ _ (by omega), ← nth_at (l := M) (i := a + 4 + 8 * q + 1) (by omega)]; congr 1
        have d2 : nth (M.drop (a + 4 + 8 * q)) 2 = some M[a + 4 + 8 * q + 2] := by
          rw [nth_drop _ _ _ (by omega), ← nth_at (l := M) (i := a + 4 + 8 * q + 2) (by omega)]; congr 1
        have hsl : ((M.take (a + 4 + 8 * q + 8)).drop (a + 4 + 8 * q + 4)).length = 4 := by rw [List.length_drop, List.length_take]; omega
        have e1 : spec_l47Ring M ((a : Int) + 4 + 8 * (q : Int)) = some (Ring.mk M[a + 4 + 8 * q] M[a + 4 + 8 * q + 1] M[a + 4 + 8 * q + 2] ((M.take (a + 4 + 8 * q + 8)).drop (a + 4 + 8 * q + 4))) := by
          unfold spec_l47Ring
          rw [n2, w5, w6, w7, w8, nth_at (show a + 4 + 8 * q + 1 < M.length by omega), nth_at (show a + 4 + 8 * q + 2 < M.length by omega), c3]
          simp only [Option.bind_some]
          rw [app_ok (by simp only [List.length_nil, hsl]; omega)]
          rfl
        obtain ⟨y, f1, f2, f3⟩ := rb_ok (Ring.mk M[a + 4 + 8 * q] M[a + 4 + 8 * q + 1] M[a + 4 + 8 * q + 2] ((M.take (a + 4 + 8 * q + 8)).drop (a + 4 + 8 * q + 4))) (by show _ ≤ _; rw [hsl]; omega)
        rw [e1, c1]
        simp only [Option.bind_some, d0, d1, d2, c2, f1, f2]
        cases hy : y.2
        · right
          exact ⟨_, _, rfl, rfl, rfl, rfl⟩
        · left
          simp only [Bool.not_true]
          rw [app_ok (by simp only [List.length_singleton]; omega)]
          simp only [Option.bind_some]
          refine ⟨_, _, rfl, rfl, ⟨rfl, rfl, ?_, ?_, ?_, ?_⟩, ?_⟩
          · simp only [w64_nat (show q ≤ 9223372036854775806 by omega)]; omega
          · simp only [w64_nat (show q ≤ 9223372036854775806 by omega)]; omega
          · simp only [w64_nat (show q ≤ 9223372036854775806 by omega)]; simp; omega
          · intro x hx
            rcases List.mem_append.1 hx with hx | hx
            · exact i6 x hx
            · rw [List.mem_singleton.1 hx]; exact f3 hy
          · simp only [w64_nat (show q ≤ 9223372036854775806 by omega)]; omega
    · right
      simp only [hj, decide_false, sel, Option.bind_some]
      exact ⟨_, _, rfl, rfl, rfl, by omega, i6⟩) ⟨rfl, rfl, by omega, by omega, rfl, by simp⟩
  refine ⟨r, h1, ?_⟩
  rw [h2]
  cases r <;> cases r' <;> simp only at h3 ⊢
  · obtain ⟨rfl, rfl⟩ := h3; exact ⟨rfl, rfl⟩
  · obtain ⟨rfl, h3⟩ := h3; exact ⟨h3, rfl⟩

/-- What both answer. -/
theorem outcome_ok (m : Machine) (d : Int) (p : List Int) (h1 : m.Regs.length ≤ 1048576) (h2 : m.Mem.length ≤ 1048576) (h3 : p.length ≤ 1048576) (hd : -9223372036854775808 ≤ d) (hd2 : d ≤ 9223372036854775807) :
    ∃ o, spec_ImageOutcome m d p = some o ∧ impl_ImageOutcome m d p = some o ∧ o.Out.length ≤ 1048576 ∧ (o.Items.length ≤ 3 ∧ ∀ x ∈ o.Items, x.length ≤ 4) ∧ o.Ended.length ≤ 3 := by
  obtain ⟨b, e1, e2, hb⟩ := mv_ok m h1 h2
  have e1' : spec_MachineValid (Machine.mk m.Regs m.Pc m.Mem) = some b := e1
  have e2' : impl_MachineValid (Machine.mk m.Regs m.Pc m.Mem) = some b := e2
  have none_ok : ∀ {x y : Option Outcome}, x = some (Outcome.mk [] [] [] false) → y = some (Outcome.mk [] [] [] false) → ∃ o, x = some o ∧ y = some o ∧ o.Out.length ≤ 1048576 ∧ (o.Items.length ≤ 3 ∧ ∀ x ∈ o.Items, x.length ≤ 4) ∧ o.Ended.length ≤ 3 :=
    fun hx hy => ⟨_, hx, hy, by simp, by simp, by simp⟩
  unfold spec_ImageOutcome impl_ImageOutcome
  rw [e1', e2', l4Words_ok p h3, areWords_ok p h3]
  cases b
  · exact none_ok rfl rfl
  obtain ⟨hr, hm, hw⟩ := hb rfl
  cases hp : p.all word
  · exact none_ok rfl rfl
  simp only [Option.bind_some, Bool.not_true, sel]
  unfold spec_l47Fits
  by_cases hq : d < 0 ∨ Int.tmod d 4 ≠ 0
  · have c1 : ((decide (d < 0)) || ((Int.tmod d 4) != 0)) = true := by
      rcases hq with h | h
      · simp [h]
      · simp [h]
    have c2 : ((false || decide (d < 0)) || ((Int.tmod d 4) != 0)) = true := by simpa using c1
    refine none_ok ?_ ?_
    · rw [c1]; rfl
    · rw [c2]; rfl
  · obtain ⟨q, rfl⟩ : ∃ q : Nat, d = 4 * (q : Int) := by
      have hd0 : 0 ≤ d := by omega
      have ht : Int.tmod d 4 = 0 := by
        rcases Decidable.em (Int.tmod d 4 = 0) with h | h
        · exact h
        · exact absurd (Or.inr h) hq
      rw [Int.tmod_eq_emod_of_nonneg hd0] at ht
      exact ⟨(d / 4).toNat, by omega⟩
    have ht : Int.tdiv (4 * (q : Int)) 4 = (q : Int) := by rw [Int.tdiv_eq_ediv_of_nonneg (by omega)]; omega
    have hm0 : Int.tmod (4 * (q : Int)) 4 = 0 := by rw [Int.tmod_eq_emod_of_nonneg (by omega)]; omega
    have wq : w64 (q : Int) = q := w64_id (by omega) (by omega)
    have wq4 : w64 ((q : Int) + 4) = q + 4 := w64_id (by omega) (by omega)
    have wq1 : w64 ((q : Int) + 1) = ((q + 1 : Nat) : Int) := by rw [w64_id (by omega) (by omega)]; omega
    rw [ht, hm0, wq, wq4, wq1]
    have cN : decide (4 * (q : Int) < 0) = false := by simp; omega
    rw [cN]
    by_cases hlen : (q : Int) + 4 > m.Mem.length
    · have c7 : decide ((q : Int) + 4 > m.Mem.length) = true := by simpa using hlen
      refine none_ok ?_ ?_
      · rw [c7]; rfl
      · by_cases h1' : ((q + 1 : Nat) : Int) ≥ m.Mem.length
        · have c6 : decide (((q + 1 : Nat) : Int) ≥ m.Mem.length) = true := by simpa using h1'
          rw [c6]; rfl
        · have c3 : cut m.Mem (q : Int) (m.Mem.length : Int) = some (m.Mem.drop q) := by
            rw [cut_ok (by omega) (by omega) (by omega)]
            simp
          have c4 : nth (m.Mem.drop q) 1 = some m.Mem[q + 1] := by
            rw [nth_drop _ _ _ (by omega), ← nth_at (l := m.Mem) (i := q + 1) (by omega)]; congr 1
          have c5 : (((decide (m.Mem[q + 1] < 1)) || (decide (m.Mem[q + 1] > 3))) || (decide ((w64 (28 + (w64 (16 * m.Mem[q + 1])))) > ((m.Mem.drop q).length : Int)))) = true := by
            by_cases ha : 1 ≤ m.Mem[q + 1] ∧ m.Mem[q + 1] ≤ 3
            · have v1 : w64 (16 * m.Mem[q + 1]) = 16 * m.Mem[q + 1] := w64_id (by omega) (by omega)
              have v2 : w64 (28 + 16 * m.Mem[q + 1]) = 28 + 16 * m.Mem[q + 1] := w64_id (by omega) (by omega)
              rw [v1, v2, List.length_drop]
              simp
              omega
            · simp
              omega
          have c6 : decide (((q + 1 : Nat) : Int) ≥ m.Mem.length) = false := by simpa using h1'
          rw [c6]
          simp only [Bool.or_false, Bool.false_or, bne_self_eq_false]
          rw [c3]
          simp only [Option.bind_some, c4]
          rw [c5]
    · have c6 : decide (((q + 1 : Nat) : Int) ≥ m.Mem.length) = false := by simp; omega
      have c7 : decide ((q : Int) + 4 > m.Mem.length) = false := by simpa using hlen
      have c3 : cut m.Mem (q : Int) (m.Mem.length : Int) = some (m.Mem.drop q) := by
        rw [cut_ok (by omega) (by omega) (by omega)]
        simp
      have c4 : nth (m.Mem.drop q) 1 = some m.Mem[q + 1] := by
        rw [nth_drop _ _ _ (by omega), ← nth_at (l := m.Mem) (i := q + 1) (by omega)]; congr 1
      have c0 : nth (m.Mem.drop q) 0 = some m.Mem[q] := by
        rw [nth_drop _ _ _ (by omega), ← nth_at (l := m.Mem) (i := q) (by omega)]; congr 1
      have c8 : nth m.Mem (q : Int) = some m.Mem[q] := nth_at (by omega)
      have c9 : nth m.Mem ((q + 1 : Nat) : Int) = some m.Mem[q + 1] := nth_at (by omega)
      rw [c6, c7]
      simp only [Bool.or_false, Bool.false_or, bne_self_eq_false]
      rw [c3]
      simp only [Option.bind_some, c4, c9, spec_l6In, c0, c8]
      by_cases ha : 1 ≤ m.Mem[q + 1] ∧ m.Mem[q + 1] ≤ 3
      · have v1 : w64 (16 * m.Mem[q + 1]) = 16 * m.Mem[q + 1] := w64_id (by omega) (by omega)
        have v2 : w64 (28 + 16 * m.Mem[q + 1]) = 28 + 16 * m.Mem[q + 1] := w64_id (by omega) (by omega)
        have v3 : w64 ((q : Int) + 4 + 24) = q + 28 := by rw [w64_id (by omega) (by omega)]; omega
        have v4 : w64 ((q : Int) + 28 + 16 * m.Mem[q + 1]) = q + 28 + 16 * m.Mem[q + 1] := w64_id (by omega) (by omega)
        rw [v1, v2, v3, v4]
        by_cases hf : (q : Int) + 28 + 16 * m.Mem[q + 1] ≤ m.Mem.length
        · have k1 : (decide (m.Mem[q + 1] ≥ 1) && decide (m.Mem[q + 1] ≤ 3) && decide ((q : Int) + 28 + 16 * m.Mem[q + 1] ≤ m.Mem.length)) = true := by simp [ha, hf]
          have k2 : (decide (m.Mem[q + 1] < 1) || decide (m.Mem[q + 1] > 3) || decide (28 + 16 * m.Mem[q + 1] > ((m.Mem.drop q).length : Int))) = false := by
            rw [List.length_drop]; simp; omega
          rw [k1, k2]
          simp only [Bool.not_true]
          obtain ⟨r, g1, g2⟩ := items_ok m.Mem q (by omega) (by omega) (Outcome.mk [] [] [] false)
          unfold spec_l47Items
          have hcl : slices_Clone___int_int_ p = some p := by
            unfold slices_Clone___int_int_
            rw [app_ok (by simp only [List.length_nil]; omega)]
            rfl
          have happ : app 8 [] p = some p := by rw [app_ok (by simp only [List.length_nil]; omega)]; rfl
          rw [g1, hcl, happ]
          cases r with
          | inl x =>
            obtain ⟨rfl, g3⟩ := g2
            rw [g3]
            exact none_ok rfl rfl
          | inr y =>
            obtain ⟨g3, g4⟩ := g2
            rw [g4]
            simp only [Option.bind_some, both, Bool.not_true]
            obtain ⟨z, z', f1, f2, rfl, f4⟩ := iter_sim (f := spec_ImageOutcome_b1 m (4 * (q : Int)) m.Mem[q + 1]) (g := impl_ImageOutcome_b2 (m.Mem.drop q) m.Mem[q + 1]) (fun s t => s = t ∧ 0 ≤ s.1 ∧ s.1 ≤ m.Mem[q + 1] ∧ s.2.length = s.1.toNat) (fun s => (m.Mem[q + 1] - s.1).toNat) (fun r r' => r = r' ∧ r.length ≤ 3)
              (s := (0, [])) (t := (0, [])) (fun s t ⟨i1, i2, i3, i4⟩ => by
                subst i1
                obtain ⟨i, acc⟩ := s
                simp only at i2 i3 i4
                unfold spec_ImageOutcome_b1 impl_ImageOutcome_b2
                by_cases hi : i < m.Mem[q + 1]
                · left
                  have u1 : w64 (16 * i) = 16 * i := w64_id (by omega) (by omega)
                  have u2 : w64 ((q : Int) + 28 + 16 * i) = q + 28 + 16 * i := w64_id (by omega) (by omega)
                  have u3 : w64 ((q : Int) + 28 + 16 * i + 13) = ((q + 41 + 16 * i.toNat : Nat) : Int) := by rw [w64_id (by omega) (by omega)]; omega
                  have u4 : w64 (28 + 16 * i) = 28 + 16 * i := w64_id (by omega) (by omega)
                  have u5 : w64 (28 + 16 * i + 13) = 41 + 16 * i := by rw [w64_id (by omega) (by omega)]; omega
                  have u6 : nth (m.Mem.drop q) (41 + 16 * i) = some m.Mem[q + 41 + 16 * i.toNat] := by
                    rw [nth_drop _ _ _ (by omega), ← nth_at (l := m.Mem) (i := q + 41 + 16 * i.toNat) (by omega)]; congr 1; omega
                  simp only [hi, decide_true, sel, ht, wq, wq4, v3, u1, u2, u3, u4, u5, u6, nth_at (show q + 41 + 16 * i.toNat < m.Mem.length by omega), Option.bind_some]
                  rw [app_ok (by simp only [List.length_singleton]; omega), w64_id (by omega) (by omega)]
                  simp only [Option.bind_some]
                  exact ⟨_, _, rfl, rfl, ⟨rfl, by simp only; omega, by simp only; omega, by simp [i4]; omega⟩, by simp only; omega⟩
                · right
                  simp only [hi, decide_false, sel]
                  exact ⟨_, _, rfl, rfl, rfl, by omega⟩) ⟨rfl, by omega, by omega, rfl⟩
            rw [f1, f2]
            exact ⟨_, rfl, rfl, h3, g3, f4⟩
        · have k1 : (decide (m.Mem[q + 1] ≥ 1) && decide (m.Mem[q + 1] ≤ 3) && decide ((q : Int) + 28 + 16 * m.Mem[q + 1] ≤ m.Mem.length)) = false := by simp [hf]
          have k2 : (decide (m.Mem[q + 1] < 1) || decide (m.Mem[q + 1] > 3) || decide (28 + 16 * m.Mem[q + 1] > ((m.Mem.drop q).length : Int))) = true := by
            rw [List.length_drop]; simp; omega
          rw [k1, k2]
          exact none_ok rfl rfl
      · have k1 : (decide (m.Mem[q + 1] ≥ 1) && decide (m.Mem[q + 1] ≤ 3)) = false := by simp; omega
        have k2 : (decide (m.Mem[q + 1] < 1) || decide (m.Mem[q + 1] > 3)) = true := by simp; omega
        rw [k1, k2]
        exact none_ok rfl rfl
end Go.Proofs.Ytdohklfimhkicaa.N
