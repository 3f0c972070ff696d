/- A new image: reference and program answer alike. -/
import Derived.Test.YtdohklfimhkicaaDoorQb
set_option linter.unusedVariables false
set_option linter.unusedSimpArgs false
set_option maxRecDepth 100000
set_option maxHeartbeats 4000000
namespace Go.Proofs.YtdohklfimhkicaaDoor.N
open Go.Proofs.YtdohklfimhkicaaDoor.X
theorem appz_ok {l : List Int} {k : Nat} (h : (l.length + k) * 8 ≤ 140737488355328) : appz 8 l (k : Int) 0 = some (l ++ List.replicate k 0) := by
  unfold appz
  rw [if_neg (by omega), show ((k : Int)).toNat = k by omega, app_ok (by simpa using h)]
/-- What both answer. -/
theorem new_ok (rooms : List Int) (lists : List (List Instr)) (h1 : rooms.length ≤ 1048576) (h2 : lists.length ≤ 1048576) (h3 : szs List.length lists ≤ 1048576) :
    ∃ r : Machine × Int × Bool, spec_ImageNew rooms lists = some r ∧ impl_ImageNew rooms lists = some r ∧ r.1.Regs.length ≤ 32 ∧ r.1.Mem.length ≤ 10000 := by
  have none_ok : ∀ {x y : Option (Machine × Int × Bool)}, x = some ((Machine.mk [] 0 []), 0, false) → y = some ((Machine.mk [] 0 []), 0, false) → ∃ r : Machine × Int × Bool, x = some r ∧ y = some r ∧ r.1.Regs.length ≤ 32 ∧ r.1.Mem.length ≤ 10000 :=
    fun hx hy => ⟨_, hx, hy, by simp, by simp⟩
  obtain ⟨b, r1, r2⟩ := rooms_ok rooms h1
  unfold spec_ImageNew impl_ImageNew spec_l6In
  rw [r1, r2]
  simp only [Option.bind_some]
  cases b
  · exact none_ok rfl rfl
  rcases (Decidable.em (1 ≤ lists.length ∧ lists.length ≤ 3)).symm with hn | hn
  · have c1 : (decide ((lists.length : Int) ≥ 1) && decide ((lists.length : Int) ≤ 3)) = false := by simp; omega
    have c2 : ((!true || decide ((lists.length : Int) < 1)) || decide ((lists.length : Int) > 3)) = true := by simp; omega
    refine none_ok ?_ ?_
    · rw [c1]; rfl
    · rw [c2]; rfl
  have c1 : (decide ((lists.length : Int) ≥ 1) && decide ((lists.length : Int) ≤ 3)) = true := by rw [decide_eq_true (by omega), decide_eq_true (by omega)]; rfl
  have c2 : ((!true || decide ((lists.length : Int) < 1)) || decide ((lists.length : Int) > 3)) = false := by rw [decide_eq_false (by omega), decide_eq_false (by omega)]; rfl
  rw [c1, c2, code_eq, list_eq]
  obtain ⟨mem0, m1, m2⟩ := rt_words
  have hr92 : rtList.length = 92 := by kernel_rfl
  obtain ⟨mx, hcw⟩ := code_words rtList [] (by rw [List.length_nil]; omega)
  have hwo := words_ok rtList (by omega)
  rw [m1] at hcw hwo
  simp only [List.nil_append] at hcw
  have L1 := spec_loop lists h2 lists [] mem0 [] rfl (by simp) (by omega)
  have L2 := impl_loop lists h2 lists [] mem0 [] rfl (by simp) (by omega)
  simp only [List.length_nil, List.nil_append] at L1 L2
  rw [show ((0 : Nat) : Int) = 0 from rfl] at L1 L2
  simp only [Bool.not_true, sel_f0, sel_t0, Option.bind_some, hcw, hwo, L1, L2, Bool.not_false]
  cases hw : wls lists with
  | none =>
    have hw10 : wls10 lists = none := by
      cases h : wls10 lists with
      | none => rfl
      | some z => rw [wls10_some h] at hw; cases hw
    rw [hw10]
    exact none_ok rfl rfl
  | some ws =>
    obtain ⟨k1, k2⟩ := wls_length hw
    have hol := offs_length (ws := ws) (n := mem0.length)
    have hob := fun x => @offs_bd ws mem0.length x
    simp only [both, Option.bind_some]
    generalize hst : offs mem0.length ws = starts at hol hob ⊢
    generalize hme : mem0 ++ ws.flatten = mem
    have hml : mem.length = 92 + szs List.length lists := by rw [← hme, List.length_append, m2, k2]
    have hsl : starts.length = lists.length := by omega
    have hsb : ∀ x ∈ starts, 0 ≤ x ∧ x ≤ 10000000 := fun x hx => by
      have := hob x hx
      omega
    have e4 : w64 (4 * (mem.length : Int)) = 4 * mem.length := w64_id (by omega) (by omega)
    have e5 : w64 (4 * (mem.length : Int) + 112) = 4 * mem.length + 112 := w64_id (by omega) (by omega)
    have e6 : w64 (64 * (lists.length : Int)) = 64 * lists.length := w64_id (by omega) (by omega)
    have e7 : w64 (4 * (mem.length : Int) + 112 + 64 * lists.length) = 4 * mem.length + 112 + 64 * lists.length := w64_id (by omega) (by omega)
    have e8 : w64 (12 * (lists.length : Int)) = ((12 * lists.length : Nat) : Int) := by rw [w64_id (by omega) (by omega)]; omega
    rw [e4, e5, e6, e7, e8]
    -- the head of the data
    have f1 : w64 (w64 ((mem.length : Int) + 4) + 24) = mem.length + 28 := by rw [w64_id (x := (mem.length : Int) + 4) (by omega) (by omega), w64_id (by omega) (by omega)]; omega
    have f2 : w64 (16 * (starts.length : Int)) = 16 * lists.length := by rw [w64_id (by omega) (by omega)]; omega
    have f3 : w64 (4 * ((mem.length : Int) + 28)) = 4 * mem.length + 112 := by rw [w64_id (by omega) (by omega)]; omega
    have f4 : w64 (4 * w64 ((mem.length : Int) + 28 + 16 * lists.length)) = 4 * mem.length + 112 + 64 * lists.length := by
      rw [w64_id (x := (mem.length : Int) + 28 + 16 * lists.length) (by omega) (by omega), w64_id (by omega) (by omega)]; omega
    generalize hhd : ([0, (lists.length : Int), 4 * mem.length + 112, 4 * mem.length + 112 + 64 * lists.length] : List Int) = hd
    have hhl : hd.length = 4 := by rw [← hhd]; rfl
    obtain ⟨bx, x1, x2, x3⟩ := boxes_sim rooms mem hd h1 (by omega)
    obtain ⟨bk, y1, y2, y3, y4⟩ := blocks_sim mem.length starts mem (hd ++ bx) lists mem (by omega) rfl (by omega) (by omega) hsb (by rw [List.length_append]; omega)
    have hD : spec_l47Data (mem.length : Int) rooms starts = some (hd ++ bx ++ bk ++ List.replicate (12 * lists.length) 0) := by
      unfold spec_l47Data
      rw [f1, f2, f3, f4, show (starts.length : Int) = lists.length by omega, hhd, x1]
      simp only [Option.bind_some]
      rw [y1]
      simp only [Option.bind_some]
      rw [e8, appz_ok (by simp only [List.length_append]; omega)]
      rfl
    have hdl : (hd ++ bx ++ bk ++ List.replicate (12 * lists.length) (0 : Int)).length = 28 + 28 * lists.length := by
      simp only [List.length_append, List.length_replicate, hhl, x3, y3]
      omega
    -- the program's memory
    have a1 : app 8 mem hd = some (mem ++ hd) := app_ok (by omega)
    have a2 : appz 8 (mem ++ (hd ++ bx ++ bk)) ((12 * lists.length : Nat) : Int) 0 = some (mem ++ (hd ++ bx ++ bk ++ List.replicate (12 * lists.length) 0)) := by
      rw [appz_ok (by simp only [List.length_append]; omega)]
      simp
    rw [a1]
    simp only [Option.bind_some]
    rw [x2]
    simp only [Option.bind_some]
    rw [y2]
    simp only [Option.bind_some]
    rw [a2]
    simp only [Option.bind_some]
    cases hw10 : wls10 lists with
    | none =>
      have hlong := wls10_none hw hw10
      have : 10000 < mem.length := by rw [← hme, List.length_append]; omega
      refine none_ok rfl ?_
      exact sel_tt (decide_eq_true (by rw [List.length_append]; omega)) rfl
    | some z =>
      have hz : z = ws := by
        have := wls10_some hw10
        rw [hw] at this
        exact (Option.some.inj this).symm
      subst hz
      simp only [both, Option.bind_some, hst, hme]
      rw [hD]
      simp only [Option.bind_some]
      rw [app_ok (by rw [hdl]; omega)]
      simp only [Option.bind_some]
      generalize hdat : hd ++ bx ++ bk ++ List.replicate (12 * lists.length) (0 : Int) = dat
      rw [hdat] at hdl
      by_cases hbig : ((mem ++ dat).length : Int) > 10000
      · exact none_ok (sel_tt (decide_eq_true hbig) rfl) (sel_tt (decide_eq_true hbig) rfl)
      · obtain ⟨s0, n1, n2, hs0⟩ : ∃ s0 : Int, nth starts 0 = some s0 ∧ nth (starts.map (4 * ·)) 0 = some (4 * s0) ∧ (0 ≤ s0 ∧ s0 ≤ 10000000) := by
          have hlt : 0 < starts.length := by omega
          refine ⟨starts[0], nth_at (l := starts) (i := 0) hlt, ?_, hsb _ (List.getElem_mem hlt)⟩
          have := nth_at (l := starts.map (4 * ·)) (i := 0) (by simpa using hlt)
          rw [show ((0 : Nat) : Int) = 0 from rfl] at this
          rw [this]
          simp
        have g1 : w64 (4 * s0) = 4 * s0 := w64_id (by omega) (by omega)
        have g2 : w64 ((mem.length : Int) + 28 + 2) = ((mem.length + 30 : Nat) : Int) := by rw [w64_id (by omega) (by omega)]; omega
        have g3 : nth (mem ++ dat) ((mem.length + 30 : Nat) : Int) = some (4 * (mem.length : Int) + 112 + 64 * lists.length) := by
          have hq : dat[30]? = some (4 * (mem.length : Int) + 112 + 64 * lists.length) := by
            rw [← hdat, List.getElem?_append_left (by simp only [List.length_append]; omega), List.getElem?_append_right (by simp only [List.length_append]; omega)]
            simp only [List.length_append, hhl, x3]
            rw [y4 (by omega)]
            congr 1
            omega
          unfold nth
          rw [if_neg (by omega), show ((mem.length + 30 : Nat) : Int).toNat = mem.length + 30 by omega, List.getElem?_append_right (by omega), show mem.length + 30 - mem.length = 30 by omega]
          exact hq
        have hB : spec_l47Boot (mem ++ dat) (mem.length : Int) s0 = some (Machine.mk ((((List.replicate 32 (0 : Int)).set 2 (4 * (mem.length : Int) + 112 + 64 * lists.length)).set 3 (4 * mem.length)).set 4 (4 * mem.length + 112)) (4 * s0) (mem ++ dat)) := by
          unfold spec_l47Boot
          rw [f1, g2, g3, e4, f3, g1]
          rfl
        rw [n1, n2]
        simp only [Option.bind_some]
        rw [hB]
        simp only [Option.bind_some]
        rw [e4]
        refine ⟨_, sel_to (decide_eq_false hbig) rfl, sel_to (decide_eq_false hbig) rfl, ?_, ?_⟩
        · simp
        · show (mem ++ dat).length ≤ 10000
          omega
end Go.Proofs.YtdohklfimhkicaaDoor.N
