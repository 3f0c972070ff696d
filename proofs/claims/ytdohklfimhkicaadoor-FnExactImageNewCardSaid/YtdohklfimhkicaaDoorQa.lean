/- A new image: reference and program lay out the same memory. -/
import Derived.Test.YtdohklfimhkicaaDoorQ9
set_option linter.unusedVariables false
set_option linter.unusedSimpArgs false
set_option maxRecDepth 100000
set_option maxHeartbeats 4000000
namespace Go.Proofs.YtdohklfimhkicaaDoor.N
open Go.Proofs.YtdohklfimhkicaaDoor.X
theorem wl_some : ∀ {l : List Instr}, (∀ x ∈ l, impl_InstrValid x = some true) → ∃ ws, wl l = some ws
  | [], _ => ⟨[], rfl⟩
  | x :: xs, h => by
    obtain ⟨ws, hws⟩ := wl_some (l := xs) fun y hy => h y (by simp [hy])
    obtain ⟨r, b, h1, h2, h3, h4, h5⟩ := enc_ok x
    rw [h x (by simp)] at h5
    injection h5 with h5
    subst h5
    refine ⟨wrapW r :: ws, ?_⟩
    simp only [wl, encW, h3, hws]
theorem rt_valid : (rtList.all fun i => match impl_InstrValid i with
    | some true => true
    | _ => false) = true := by kernel_rfl
theorem rt_words : ∃ ws, wl rtList = some ws ∧ ws.length = 92 := by
  obtain ⟨ws, h⟩ := wl_some (l := rtList) fun x hx => by
    have := List.all_eq_true.1 rt_valid x hx
    split at this
    · assumption
    · cases this
  exact ⟨ws, h, by rw [wl_length h]; kernel_rfl⟩
theorem rooms_b1 (l : List Int) : spec_l12Rooms_b1 l = impl_roomsValid_b1 l := by
  funext s
  unfold spec_l12Rooms_b1 impl_roomsValid_b1 spec_l6In
  have : ∀ x : Int, (!(decide (x ≥ 1) && decide (x ≤ 4))) = (decide (x < 1) || decide (x > 4)) := fun x => by rw [Bool.eq_iff_iff]; simp <;> omega
  simp only [Option.bind_some, this]
theorem rooms_ok (l : List Int) (h : l.length ≤ 1048576) : ∃ b, spec_l12Rooms l = some b ∧ impl_roomsValid l = some b := by
  obtain ⟨r, k1, _⟩ := iter_inv (f := impl_roomsValid_b1 l) (fun s => ∃ i : Nat, s = (i : Int) ∧ i ≤ l.length) (fun s => l.length - s.toNat) (fun _ => True) (s := 0) (fun s ⟨i, hs, hi⟩ => by
    subst hs
    unfold impl_roomsValid_b1
    rcases Nat.lt_or_ge i l.length with hlt | hge
    · rw [sel_true (by simpa using hlt)]
      simp only [nth_at hlt, Option.bind_some]
      cases hb : (decide (l[i] < 1) || decide (l[i] > 4))
      · left
        exact ⟨((i + 1 : Nat) : Int), by rw [sel_false rfl, w64_nat (by omega)], ⟨i + 1, rfl, by omega⟩, by omega⟩
      · right
        exact ⟨_, rfl, trivial⟩
    · right
      rw [sel_false (by simpa using hge)]
      exact ⟨_, rfl, trivial⟩) ⟨0, rfl, by omega⟩
  unfold spec_l12Rooms impl_roomsValid
  rw [rooms_b1, k1]
  cases r <;> exact ⟨_, rfl, rfl⟩
/-! ### The lists' words -/
noncomputable def wls : List (List Instr) → Option (List (List Int))
  | [] => some []
  | x :: xs => match wl x, wls xs with
    | some w, some ws => some (w :: ws)
    | _, _ => none
noncomputable def wls10 : List (List Instr) → Option (List (List Int))
  | [] => some []
  | x :: xs => if x.length > 10000 then none else match wl x, wls10 xs with
    | some w, some ws => some (w :: ws)
    | _, _ => none
theorem wls10_some : ∀ {l : List (List Instr)} {ws : List (List Int)}, wls10 l = some ws → wls l = some ws
  | [], ws, h => h
  | x :: xs, ws, h => by
    simp only [wls10] at h
    split at h
    · cases h
    · split at h
      · rename_i w ws' h1 h2
        simp only [wls, h1, wls10_some h2]
        exact h
      · cases h
theorem wls10_none : ∀ {l : List (List Instr)} {ws : List (List Int)}, wls l = some ws → wls10 l = none → 10000 < ws.flatten.length
  | [], ws, h, h' => by cases h'
  | x :: xs, ws, h, h' => by
    simp only [wls] at h
    split at h
    · rename_i w ws' h1 h2
      injection h with h
      subst h
      simp only [List.flatten_cons, List.length_append]
      have hl := wl_length h1
      simp only [wls10] at h'
      split at h'
      · omega
      · rw [h1] at h'
        cases h3 : wls10 xs with
        | none =>
          have := wls10_none h2 h3
          omega
        | some z => rw [h3] at h'; cases h'
    · cases h
theorem wls_length : ∀ {l : List (List Instr)} {ws : List (List Int)}, wls l = some ws → ws.length = l.length ∧ ws.flatten.length = szs List.length l
  | [], ws, h => by simp only [wls, Option.some.injEq] at h; subst h; exact ⟨rfl, rfl⟩
  | x :: xs, ws, h => by
    simp only [wls] at h
    split at h
    · rename_i w ws' h1 h2
      injection h with h
      subst h
      obtain ⟨k1, k2⟩ := wls_length h2
      simp only [List.length_cons, List.flatten_cons, List.length_append, szs, k1, k2, wl_length h1]
      exact ⟨trivial, trivial⟩
    · cases h
/-- Where each list begins. -/
def offs (n : Nat) : List (List Int) → List Int
  | [] => []
  | w :: ws => (n : Int) :: offs (n + w.length) ws
theorem offs_length : ∀ {ws : List (List Int)} {n : Nat}, (offs n ws).length = ws.length
  | [], _ => rfl
  | w :: ws, n => by simp [offs, offs_length (ws := ws)]
theorem offs_bd : ∀ {ws : List (List Int)} {n : Nat} {x : Int}, x ∈ offs n ws → 0 ≤ x ∧ x ≤ n + ws.flatten.length
  | [], _, x, h => by simp [offs] at h
  | w :: ws, n, x, h => by
    simp only [offs, List.mem_cons] at h
    simp only [List.flatten_cons, List.length_append]
    rcases h with rfl | h
    · omega
    · have := offs_bd h
      omega
theorem impl_loop (lists : List (List Instr)) (hn : lists.length ≤ 1048576) : ∀ (xs pre : List (List Instr)) (mem st : List Int), pre ++ xs = lists → st.length ≤ pre.length → mem.length + szs List.length xs ≤ 10000000 →
    iter (impl_ImageNew_b1 lists) (mem, st, (pre.length : Int)) = (match wls xs with
      | some ws => some (.inr (mem ++ ws.flatten, st ++ (offs mem.length ws).map (4 * ·)))
      | none => some (.inl ((Machine.mk [] 0 []), 0, false))) := by
  intro xs
  induction xs with
  | nil =>
    intro pre mem st hp hs hm
    rw [List.append_nil] at hp
    subst hp
    rw [iter_eq]
    unfold impl_ImageNew_b1
    rw [sel_false (by simp)]
    simp [wls, offs]
  | cons x xs ih =>
    intro pre mem st hp hs hm
    simp only [szs] at hm
    have hlt : pre.length < lists.length := by rw [← hp]; simp
    have hg : lists[pre.length]'hlt = x := by subst hp; simp
    rw [iter_eq]
    have hstep : impl_ImageNew_b1 lists (mem, st, (pre.length : Int)) = (match wl x with
      | some w => some (.inl (mem ++ w, st ++ [4 * (mem.length : Int)], ((pre.length + 1 : Nat) : Int)))
      | none => some (.inr (.inl ((Machine.mk [] 0 []), 0, false)))) := by
      unfold impl_ImageNew_b1
      rw [sel_true (by simpa using hlt)]
      simp only [nth_at hlt, hg, Option.bind_some]
      rw [words_ok x (by omega)]
      cases hw : wl x with
      | none =>
        simp only [Option.bind_some]
        exact sel_tt (b := !false) rfl rfl
      | some w =>
        have hwl := wl_length hw
        simp only [Option.bind_some]
        refine sel_to (b := !true) rfl ?_
        rw [w64_id (by omega) (by omega), app_ok (by simp only [List.length_singleton]; omega)]
        simp only [Option.bind_some]
        rw [app_ok (by omega), w64_nat (by omega)]
        rfl
    rw [hstep]
    cases hw : wl x with
    | none => simp [wls, hw]
    | some w =>
      have hwl := wl_length hw
      simp only
      have := ih (pre ++ [x]) (mem ++ w) (st ++ [4 * (mem.length : Int)]) (by rw [← hp]; simp) (by simp; omega) (by rw [List.length_append]; omega)
      rw [List.length_append, List.length_singleton] at this
      rw [this]
      simp only [wls, hw]
      cases wls xs with
      | none => rfl
      | some ws => simp [offs]
theorem spec_loop (lists : List (List Instr)) (hn : lists.length ≤ 1048576) : ∀ (xs pre : List (List Instr)) (mem st : List Int), pre ++ xs = lists → st.length ≤ pre.length → mem.length + szs List.length xs ≤ 10000000 →
    iter (spec_ImageNew_b1 lists) (mem, st, (pre.length : Int)) = (match wls10 xs with
      | some ws => some (.inr (mem ++ ws.flatten, st ++ offs mem.length ws))
      | none => some (.inl ((Machine.mk [] 0 []), 0, false))) := by
  intro xs
  induction xs with
  | nil =>
    intro pre mem st hp hs hm
    rw [List.append_nil] at hp
    subst hp
    rw [iter_eq]
    unfold spec_ImageNew_b1
    rw [sel_false (by simp)]
    simp [wls10, offs]
  | cons x xs ih =>
    intro pre mem st hp hs hm
    simp only [szs] at hm
    have hlt : pre.length < lists.length := by rw [← hp]; simp
    have hg : lists[pre.length]'hlt = x := by subst hp; simp
    rw [iter_eq]
    obtain ⟨m', hcw⟩ := code_words x mem (by omega)
    have hstep : spec_ImageNew_b1 lists (mem, st, (pre.length : Int)) = (if x.length > 10000 then some (.inr (.inl ((Machine.mk [] 0 []), 0, false))) else match wl x with
      | some w => some (.inl (mem ++ w, st ++ [(mem.length : Int)], ((pre.length + 1 : Nat) : Int)))
      | none => some (.inr (.inl ((Machine.mk [] 0 []), 0, false)))) := by
      unfold spec_ImageNew_b1
      rw [sel_true (by simpa using hlt), app_ok (by simp only [List.length_singleton]; omega)]
      simp only [nth_at hlt, hg, Option.bind_some]
      split
      · rename_i hlong
        exact sel_tt (decide_eq_true (by omega)) rfl
      · rename_i hshort
        refine sel_to (decide_eq_false (by omega)) ?_
        rw [hcw]
        cases hw : wl x with
        | none =>
          simp only [Option.bind_some]
          exact sel_tt (b := !false) rfl rfl
        | some w =>
          simp only [Option.bind_some]
          refine sel_to (b := !true) rfl ?_
          rw [w64_nat (by omega)]
    rw [hstep]
    simp only [wls10]
    by_cases hx : x.length > 10000
    · rw [if_pos hx, if_pos hx]
    · rw [if_neg hx, if_neg hx]
      cases hw : wl x with
      | none => rfl
      | some w =>
        have hwl := wl_length hw
        simp only
        have := ih (pre ++ [x]) (mem ++ w) (st ++ [(mem.length : Int)]) (by rw [← hp]; simp) (by simp; omega) (by rw [List.length_append]; omega)
        rw [List.length_append, List.length_singleton] at this
        rw [this]
        cases wls10 xs with
        | none => rfl
        | some ws => simp [offs]
end Go.Proofs.YtdohklfimhkicaaDoor.N
