/- The runtime's instructions, and the words of a list of instructions. -/
import Derived.Test.YtdohklfimhkicaaDoorQ7
set_option linter.unusedVariables false
set_option linter.unusedSimpArgs false
set_option maxRecDepth 100000
set_option maxHeartbeats 4000000
namespace Go.Proofs.YtdohklfimhkicaaDoor.N
open Go.Proofs.YtdohklfimhkicaaDoor.X
def rtList : List Instr := [⟨12, 5, 0, 0, 1⟩, ⟨17, 0, 17, 5, 32⟩, ⟨12, 5, 0, 0, 2⟩, ⟨17, 0, 17, 5, 92⟩, ⟨12, 5, 0, 0, 3⟩, ⟨17, 0, 17, 5, 168⟩, ⟨12, 5, 0, 0, 4⟩, ⟨17, 0, 17, 5, 148⟩, ⟨20, 0, 0, 0, 168⟩, ⟨12, 5, 0, 0, 5⟩, ⟨9, 6, 11, 5, 0⟩, ⟨1, 6, 6, 3, 0⟩, ⟨14, 7, 6, 0, 24⟩, ⟨14, 28, 6, 0, 16⟩, ⟨17, 0, 7, 28, 144⟩, ⟨14, 29, 6, 0, 20⟩, ⟨1, 29, 29, 7, 0⟩, ⟨5, 29, 29, 28, 0⟩, ⟨12, 5, 0, 0, 2⟩, ⟨9, 29, 29, 5, 0⟩, ⟨1, 29, 29, 6, 0⟩, ⟨16, 0, 29, 10, 32⟩, ⟨12, 7, 7, 0, 1⟩, ⟨16, 0, 6, 7, 24⟩, ⟨16, 0, 3, 0, 0⟩, ⟨15, 0, 1, 0, 0⟩, ⟨12, 5, 0, 0, 5⟩, ⟨9, 6, 11, 5, 0⟩, ⟨1, 6, 6, 3, 0⟩, ⟨14, 7, 6, 0, 24⟩, ⟨17, 0, 7, 0, 80⟩, ⟨14, 28, 6, 0, 16⟩, ⟨14, 29, 6, 0, 20⟩, ⟨12, 5, 0, 0, 2⟩, ⟨9, 30, 29, 5, 0⟩, ⟨1, 30, 30, 6, 0⟩, ⟨14, 10, 30, 0, 32⟩, ⟨12, 29, 29, 0, 1⟩, ⟨5, 29, 29, 28, 0⟩, ⟨16, 0, 6, 29, 20⟩, ⟨12, 7, 7, 0, -1⟩, ⟨16, 0, 6, 7, 24⟩, ⟨16, 0, 3, 0, 0⟩, ⟨15, 0, 1, 0, 0⟩, ⟨21, 0, 0, 0, 0⟩, ⟨16, 0, 3, 0, 0⟩, ⟨15, 0, 1, 0, 0⟩, ⟨12, 5, 1, 0, 0⟩, ⟨16, 0, 3, 0, 0⟩, ⟨20, 0, 0, 0, 20⟩, ⟨12, 5, 0, 0, 0⟩, ⟨14, 6, 3, 0, 0⟩, ⟨12, 6, 6, 0, 1⟩, ⟨16, 0, 3, 6, 0⟩, ⟨16, 0, 4, 5, 0⟩, ⟨16, 0, 4, 1, 4⟩, ⟨16, 0, 4, 2, 8⟩, ⟨16, 0, 4, 8, 12⟩, ⟨16, 0, 4, 9, 16⟩, ⟨16, 0, 4, 18, 20⟩, ⟨16, 0, 4, 19, 24⟩, ⟨16, 0, 4, 20, 28⟩, ⟨16, 0, 4, 21, 32⟩, ⟨16, 0, 4, 22, 36⟩, ⟨16, 0, 4, 23, 40⟩, ⟨16, 0, 4, 10, 44⟩, ⟨16, 0, 4, 11, 48⟩, ⟨16, 0, 4, 17, 52⟩, ⟨14, 6, 3, 0, 0⟩, ⟨14, 7, 3, 0, 4⟩, ⟨17, 0, 6, 7, 80⟩, ⟨12, 4, 4, 0, 64⟩, ⟨14, 5, 3, 0, 12⟩, ⟨18, 0, 4, 5, 8⟩, ⟨14, 4, 3, 0, 8⟩, ⟨14, 1, 4, 0, 4⟩, ⟨14, 2, 4, 0, 8⟩, ⟨14, 8, 4, 0, 12⟩, ⟨14, 9, 4, 0, 16⟩, ⟨14, 18, 4, 0, 20⟩, ⟨14, 19, 4, 0, 24⟩, ⟨14, 20, 4, 0, 28⟩, ⟨14, 21, 4, 0, 32⟩, ⟨14, 22, 4, 0, 36⟩, ⟨14, 23, 4, 0, 40⟩, ⟨14, 10, 4, 0, 44⟩, ⟨14, 11, 4, 0, 48⟩, ⟨14, 17, 4, 0, 52⟩, ⟨14, 5, 4, 0, 0⟩, ⟨15, 0, 5, 0, 0⟩, ⟨12, 17, 0, 0, 0⟩, ⟨21, 0, 0, 0, 0⟩]
def saveList : List Instr := [⟨16, 0, 4, 5, 0⟩, ⟨16, 0, 4, 1, 4⟩, ⟨16, 0, 4, 2, 8⟩, ⟨16, 0, 4, 8, 12⟩, ⟨16, 0, 4, 9, 16⟩, ⟨16, 0, 4, 18, 20⟩, ⟨16, 0, 4, 19, 24⟩, ⟨16, 0, 4, 20, 28⟩, ⟨16, 0, 4, 21, 32⟩, ⟨16, 0, 4, 22, 36⟩, ⟨16, 0, 4, 23, 40⟩, ⟨16, 0, 4, 10, 44⟩, ⟨16, 0, 4, 11, 48⟩, ⟨16, 0, 4, 17, 52⟩]
def loadList : List Instr := [⟨14, 6, 3, 0, 0⟩, ⟨14, 7, 3, 0, 4⟩, ⟨17, 0, 6, 7, 80⟩, ⟨12, 4, 4, 0, 64⟩, ⟨14, 5, 3, 0, 12⟩, ⟨18, 0, 4, 5, 8⟩, ⟨14, 4, 3, 0, 8⟩, ⟨14, 1, 4, 0, 4⟩, ⟨14, 2, 4, 0, 8⟩, ⟨14, 8, 4, 0, 12⟩, ⟨14, 9, 4, 0, 16⟩, ⟨14, 18, 4, 0, 20⟩, ⟨14, 19, 4, 0, 24⟩, ⟨14, 20, 4, 0, 28⟩, ⟨14, 21, 4, 0, 32⟩, ⟨14, 22, 4, 0, 36⟩, ⟨14, 23, 4, 0, 40⟩, ⟨14, 10, 4, 0, 44⟩, ⟨14, 11, 4, 0, 48⟩, ⟨14, 17, 4, 0, 52⟩, ⟨14, 5, 4, 0, 0⟩, ⟨15, 0, 5, 0, 0⟩]
theorem save_eq : spec_l46Save = some saveList := by
  unfold spec_l46Save
  refine bind_to (y := ⟨16, 0, 4, 5, 0⟩) rfl ?_
  refine bind_to (y := savedRegs) rfl ?_
  refine bind_to (y := saveList) (iter_k 14 (by kernel_rfl)) ?_
  rfl
theorem load_eq : spec_l46Load = some loadList := by
  unfold spec_l46Load
  iterate 7 refine bind_to rfl ?_
  refine bind_to (y := savedRegs) rfl ?_
  refine bind_to (y := loadList.take 20) (iter_k 14 (by kernel_rfl)) ?_
  kernel_rfl
theorem code_eq : spec_l46Code = some rtList := by
  unfold spec_l46Code
  rw [save_eq, load_eq]
  kernel_rfl
theorem list_eq : impl_runtimeList = some rtList := by
  unfold impl_runtimeList
  iterate 54 refine bind_to rfl ?_
  refine bind_to (y := rtList.take 68) (iter_k 14 (by kernel_rfl)) ?_
  iterate 7 refine bind_to rfl ?_
  refine bind_to (y := rtList.take 75) (by kernel_rfl) ?_
  refine bind_to (y := rtList.take 88) (iter_k 14 (by kernel_rfl)) ?_
  kernel_rfl

/-! ### Words -/
def wrapW (n : Int) : Int := if 2147483648 ≤ n % 4294967296 then n % 4294967296 - 4294967296 else n % 4294967296
theorem wrapW_bd (n : Int) : -2147483648 ≤ wrapW n ∧ wrapW n ≤ 2147483647 := by unfold wrapW; split <;> omega
theorem iwrap_ok (n : Int) : impl_Wrap n = some (wrapW n) := by
  have hb := wrapW_bd n
  have e : kwrap .i32 n = wrapW n := by
    show IntKind.wrap .i32 n = _
    unfold wrapW
    simp [IntKind.wrap, IntKind.signed, IntKind.bits]
  unfold impl_Wrap
  rw [e, w64_id (by omega) (by omega)]
theorem tmod_cases (n : Int) : (0 ≤ n ∧ Int.tmod n 4294967296 = n % 4294967296) ∨ (n < 0 ∧ Int.tmod n 4294967296 = -((-n) % 4294967296)) := by
  rcases Int.lt_or_le n 0 with h | h
  · right
    refine ⟨h, ?_⟩
    have h1 := Int.neg_tmod (-n) 4294967296
    rw [Int.neg_neg] at h1
    rw [h1, Int.tmod_eq_emod_of_nonneg (by omega)]
  · exact .inl ⟨h, Int.tmod_eq_emod_of_nonneg h⟩
theorem swrap_ok (n : Int) : spec_Wrap n = some (wrapW n) := by
  unfold spec_Wrap wrapW
  have hc := tmod_cases n
  generalize Int.tmod n 4294967296 = m at hc ⊢
  have hm : -4294967295 ≤ m ∧ m ≤ 4294967295 := by omega
  by_cases h1 : m > 2147483647
  · rw [sel_true (by simpa using h1), w64_id (by omega) (by omega)]
    congr 1
    split <;> omega
  · rw [sel_false (by simpa using h1)]
    by_cases h2 : m < -2147483648
    · rw [sel_true (by simpa using h2), w64_id (by omega) (by omega)]
      congr 1
      split <;> omega
    · rw [sel_false (by simpa using h2)]
      congr 1
      split <;> omega
/-- An instruction's word. -/
noncomputable def encW (i : Instr) : Option Int := match impl_InstrEncode i with
  | some (r, true) => some (wrapW r)
  | _ => none
noncomputable def wl : List Instr → Option (List Int)
  | [] => some []
  | x :: xs => match encW x, wl xs with
    | some w, some ws => some (w :: ws)
    | _, _ => none
theorem encW_cases (i : Instr) : (∃ r, spec_InstrEncode i = some (r, true) ∧ impl_InstrEncode i = some (r, true) ∧ encW i = some (wrapW r)) ∨ (∃ r, spec_InstrEncode i = some (r, false) ∧ impl_InstrEncode i = some (r, false) ∧ encW i = none) := by
  obtain ⟨r, b, h1, h2, h3, h4, h5⟩ := enc_ok i
  cases b
  · exact .inr ⟨_, h2, h3, by unfold encW; rw [h3]⟩
  · exact .inl ⟨_, h2, h3, by unfold encW; rw [h3]⟩
theorem wl_length : ∀ {l : List Instr} {ws : List Int}, wl l = some ws → ws.length = l.length
  | [], ws, h => by simp only [wl, Option.some.injEq] at h; subst h; rfl
  | x :: xs, ws, h => by
    simp only [wl] at h
    split at h
    · rename_i w ws' h1 h2
      injection h with h
      subst h
      simp [wl_length h2]
    · cases h
theorem words_ok (l : List Instr) (hl : l.length ≤ 10000000) : impl_wordsOf l = some (match wl l with
    | some ws => (ws, true)
    | none => ([], false)) := by
  have key : ∀ (xs pre : List Instr) (acc : List Int), pre ++ xs = l → acc.length ≤ pre.length → iter (impl_wordsOf_b1 l) (acc, (pre.length : Int)) = (match wl xs with
    | some ws => some (.inr (acc ++ ws))
    | none => some (.inl ([], false))) := by
    intro xs
    induction xs with
    | nil =>
      intro pre acc hp ha
      rw [List.append_nil] at hp
      subst hp
      rw [iter_eq]
      unfold impl_wordsOf_b1
      rw [sel_false (by simp)]
      simp [wl]
    | cons x xs ih =>
      intro pre acc hp ha
      have hlt : pre.length < l.length := by rw [← hp]; simp
      have hg : l[pre.length]'hlt = x := by subst hp; simp
      rw [iter_eq]
      have hstep : impl_wordsOf_b1 l (acc, (pre.length : Int)) = (match encW x with
        | some w => some (.inl (acc ++ [w], ((pre.length + 1 : Nat) : Int)))
        | none => some (.inr (.inl ([], false)))) := by
        unfold impl_wordsOf_b1
        rw [sel_true (by simpa using hlt)]
        simp only [nth_at hlt, hg, Option.bind_some]
        rcases encW_cases x with ⟨r, _, h2, h3⟩ | ⟨r, _, h2, h3⟩
        · rw [h2, h3]
          simp only [Option.bind_some]
          refine sel_to (b := !true) rfl ?_
          rw [iwrap_ok]
          simp only [Option.bind_some]
          rw [app_ok (by simp only [List.length_singleton]; omega), w64_nat (by omega)]
          rfl
        · rw [h2, h3]
          simp only [Option.bind_some]
          exact sel_tt (b := !false) rfl rfl
      rw [hstep]
      cases hw : encW x with
      | none => simp [wl, hw]
      | some w =>
        simp only
        have := ih (pre ++ [x]) (acc ++ [w]) (by rw [← hp]; simp) (by simp; omega)
        simp only [List.length_append, List.length_singleton] at this
        rw [this]
        simp only [wl, hw]
        cases wl xs <;> simp
  unfold impl_wordsOf
  have h0 := key l [] [] rfl (Nat.le_refl _)
  rw [show (([] : List Instr).length : Int) = 0 from rfl] at h0
  rw [h0]
  cases wl l <;> rfl
theorem code_words (l : List Instr) (mem : List Int) (hl : mem.length + l.length ≤ 10000000) : ∃ m', spec_l45Code mem l = some (match wl l with
    | some ws => (mem ++ ws, true)
    | none => (m', false)) := by
  have key : ∀ (xs pre : List Instr) (acc : List Int), pre ++ xs = l → acc.length ≤ mem.length + pre.length → ∃ m', iter (spec_l45Code_b1 l) (acc, (pre.length : Int)) = (match wl xs with
    | some ws => some (.inr (acc ++ ws))
    | none => some (.inl (m', false))) := by
    intro xs
    induction xs with
    | nil =>
      intro pre acc hp ha
      rw [List.append_nil] at hp
      subst hp
      rw [iter_eq]
      unfold spec_l45Code_b1
      rw [sel_false (by simp)]
      exact ⟨[], by simp [wl]⟩
    | cons x xs ih =>
      intro pre acc hp ha
      have hlt : pre.length < l.length := by rw [← hp]; simp
      have hg : l[pre.length]'hlt = x := by subst hp; simp
      rw [iter_eq]
      have hstep : spec_l45Code_b1 l (acc, (pre.length : Int)) = (match encW x with
        | some w => some (.inl (acc ++ [w], ((pre.length + 1 : Nat) : Int)))
        | none => some (.inr (.inl (acc, false)))) := by
        unfold spec_l45Code_b1
        rw [sel_true (by simpa using hlt)]
        simp only [nth_at hlt, hg, Option.bind_some]
        rcases encW_cases x with ⟨r, h2, _, h3⟩ | ⟨r, h2, _, h3⟩
        · rw [h2, h3]
          simp only [Option.bind_some]
          refine sel_to (b := !true) rfl ?_
          rw [swrap_ok]
          simp only [Option.bind_some]
          rw [app_ok (by simp only [List.length_singleton]; omega), w64_nat (by omega)]
          rfl
        · rw [h2, h3]
          simp only [Option.bind_some]
          exact sel_tt (b := !false) rfl rfl
      rw [hstep]
      cases hw : encW x with
      | none => exact ⟨acc, by simp [wl, hw]⟩
      | some w =>
        obtain ⟨m', this⟩ := ih (pre ++ [x]) (acc ++ [w]) (by rw [← hp]; simp) (by simp; omega)
        simp only [List.length_append, List.length_singleton] at this
        refine ⟨m', ?_⟩
        simp only
        rw [this]
        simp only [wl, hw]
        cases wl xs <;> simp
  unfold spec_l45Code
  obtain ⟨m', h0⟩ := key l [] mem rfl (by simp)
  rw [show (([] : List Instr).length : Int) = 0 from rfl] at h0
  refine ⟨m', ?_⟩
  rw [h0]
  cases wl l <;> rfl
end Go.Proofs.YtdohklfimhkicaaDoor.N
