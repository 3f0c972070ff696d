/- Plain laws: FnTaskInstrs, FnTaskJumps. -/
import Derived.Test.YtjpbdpfkhdekpaaGreatDoorUa
set_option linter.unusedVariables false
namespace Go.Proofs.YtjpbdpfkhdekpaaGreatDoor.N
open Go.Proofs.YtjpbdpfkhdekpaaGreatDoor.X
theorem iqi_eq {q : Quad} {m c off : Int} (hq : QOk m q) (hm : m ≤ 600) (hc : 1 ≤ c ∧ c ≤ 8) (ho : -100000 ≤ off ∧ off ≤ 100000) (h4 : off.tmod 4 = 0) : impl_QuadInstrs q c off = some (quadL q c off, true) := by
  unfold impl_QuadInstrs
  rw [iquad_eq, decide_eq_true (hq.mono hm), Option.bind_some, sel_false (by simp [h4]; omega), iquadL_eq hq hc (by omega)]; rfl
theorem law_instrs {k : Nat} (hk : 20 ≤ k) {a0 : List Int} (h : ∀ x ∈ a0, 0 ≤ x ∧ x ≤ 255) : laws_FnTaskInstrs k a0 = some true := by
  refine Tot.eq ?_
  unfold laws_FnTaskInstrs
  refine .sel (fun _ => .pure rfl) fun _ => .bind (drawTask_tot hk h) fun y ⟨h1, h2, h3⟩ => .of (law_head (by omega) ⟨h2, h3⟩ fun hc hr => ?_) rfl
  obtain ⟨code, c⟩ := y
  simp only at h1 h2 h3 hc hr
  refine Tot.eq ?_
  dsimp only
  rw [iplaces_eq hc hr, Option.bind_some]
  refine .bind (P := fun z => z = .inr (tk code c code.length)) (.iter (fun s => 0 ≤ s.2 ∧ s.2 ≤ (code.length : Int) ∧ s.1 = tk code c s.2.toNat) (fun s => ((code.length : Int) - s.2).toNat) ⟨by simp, by simp, rfl⟩ fun s hs => ?_) fun z hz => ?_
  · obtain ⟨out, i⟩ := s
    obtain ⟨g0, g1, g2⟩ := hs
    simp only at g0 g1 g2
    unfold laws_FnTaskInstrs_b1
    refine .sel (fun hlt => ?_) fun hge => .inr (show (.inr out : Bool ⊕ List Instr) = _ from ?_)
    · simp only [decide_eq_true_eq] at hlt
      obtain ⟨q, e1, e2, hq⟩ := hc.at g0 hlt
      have h6 := pl_le code c i.toNat
      have hql := (quadL_len q c (offL code c i.toNat)).2.1
      have hN : q.Op = 4 ∨ q.Op = 5 → 0 ≤ q.N ∧ q.N < code.length := fun ho => by unfold QOk at hq; rcases ho with h | h <;> simp [h] at hq <;> omega
      have h7 := pl_le code c q.N.toNat
      have hof : (-100000 ≤ offL code c i.toNat ∧ offL code c i.toNat ≤ 100000) ∧ (offL code c i.toNat).tmod 4 = 0 := by
        unfold offL
        rw [e2]
        split
        · rename_i ho
          have := hN ho
          exact ⟨by omega, by rw [Int.mul_tmod_right]⟩
        · exact ⟨by omega, rfl⟩
      dsimp only
      rw [e1]
      simp only [Option.bind_some]
      refine .bind (P := fun y => y = offL code c i.toNat) (.bind (P := fun b => b = true ↔ (q.Op = 4 ∨ q.Op = 5)) (.sel (fun h => .pure ?_) fun h => .pure ?_) fun b hb => .sel (fun h => ?_) fun h => .pure ?_) fun y hy => ?_
      · simp at h; simp [h]
      · simp at h; simp [h]
      · have ho := hb.1 h
        have hN := hN ho
        rw [plL_nth hN.1 hN.2, plL_nth g0 hlt, Option.bind_some, Option.bind_some, w64_s (i := _ - _) (by omega) (by omega), w64_s (by omega) (by omega)]
        unfold offL
        rw [e2, if_pos ho]; exact .pure rfl
      · unfold offL; rw [e2, if_neg (fun hh => by rw [hb.2 hh] at h; cases h)]
      · subst hy
        rw [iqi_eq hq (by omega) hr hof.1 hof.2]
        simp only [Option.bind_some, Bool.not_true]
        rw [sel_false rfl, plL_nth g0 hlt]
        simp only [Option.bind_some]
        rw [sel_false (by rw [g2, tk_len]; simp)]
        refine .bind (.app (by subst g2; rw [tk_len]; omega)) fun r hr => .inl ?_
        rw [w64_up g0 (by omega)]
        refine ⟨⟨by simp only; omega, by simp only; omega, ?_⟩, by simp only; omega⟩
        simp only
        rw [show (i + 1).toNat = i.toNat + 1 by omega, tk, hr, g2, blk, e2]
    · simp only [decide_eq_false_iff_not] at hge
      rw [g2, show i.toNat = code.length by omega]
  · subst hz
    show Tot ((laws_sameInstrs _ _).bind _) _
    rw [same_refl (by rw [tk_len]; have := pl_le code c code.length; omega)]; exact .pure rfl
theorem tk_at (code : List Quad) (c : Int) : ∀ (i x : Nat), x < pl code c i → ∃ j r, j < i ∧ r < (blk code c j).length ∧ x = pl code c j + r ∧ (tk code c i)[x]? = (blk code c j)[r]?
  | 0, x, h => by simp [pl] at h
  | i + 1, x, h => by
    have hl := tk_len code c i
    have hb : (blk code c i).length = (quadL (qAt code i) c 0).length := (quadL_len _ _ _).2.2
    simp only [pl] at h
    rcases Nat.lt_or_ge x (pl code c i) with h1 | h1
    · obtain ⟨j, r, a1, a2, a3, a4⟩ := tk_at code c i x h1
      exact ⟨j, r, by omega, a2, a3, by rw [tk, List.getElem?_append_left (by omega)]; exact a4⟩
    · exact ⟨i, x - pl code c i, by omega, by omega, by omega, by rw [tk, List.getElem?_append_right (by omega), hl]⟩
theorem opOf_small {n : Int} (h : 1 ≤ n ∧ n ≤ 12) : opOf n ≠ 20 ∧ opOf n ≠ 18 := by
  rcases (show n = 1 ∨ n = 2 ∨ n = 3 ∨ n = 4 ∨ n = 5 ∨ n = 6 ∨ n = 7 ∨ n = 8 ∨ n = 9 ∨ n = 10 ∨ n = 11 ∨ n = 12 by omega) with rfl | rfl | rfl | rfl | rfl | rfl | rfl | rfl | rfl | rfl | rfl | rfl <;> decide
theorem quad_jumps {q : Quad} {m c off : Int} (hq : QOk m q) {r : Nat} {x : Instr} (h : (quadL q c off)[r]? = some x) : (x.Op = 20 → (q.Op = 4 ∨ q.Op = 5) ∧ x.Imm = off - 4 * r) ∧ (x.Op = 18 → q.Op = 5 ∧ x.Imm = 8 ∧ r + 2 = (quadL q c off).length) := by
  have rd : ∀ p s, ∀ y ∈ rdL c p s, y.Op = 14 := fun p s y hy => by unfold rdL at hy; split at hy <;> simp at hy; rw [hy]
  have wr : ∀ p, ∀ y ∈ wrL c p, y.Op = 16 := fun p y hy => by unfold wrL at hy; split at hy <;> simp at hy; rw [hy]
  have ct : ∀ r n, ∀ y ∈ constL r n, y.Op = 12 ∨ y.Op = 19 := fun r n y hy => by unfold constL at hy; split at hy <;> simp at hy <;> rcases hy with rfl | rfl <;> simp
  have cl : ∀ n, ∀ y ∈ callL n, y.Op = 12 ∨ y.Op = 15 := fun n y hy => by unfold callL at hy; simp at hy; rcases hy with rfl | rfl <;> simp
  have hm := List.mem_of_getElem? h
  have none : (x.Op ≠ 20 ∧ x.Op ≠ 18) → (x.Op = 20 → (q.Op = 4 ∨ q.Op = 5) ∧ x.Imm = off - 4 * r) ∧ (x.Op = 18 → q.Op = 5 ∧ x.Imm = 8 ∧ r + 2 = (quadL q c off).length) := fun hh => ⟨fun h => absurd h hh.1, fun h => absurd h hh.2⟩
  by_cases h4 : q.Op = 4
  · have e : quadL q c off = [⟨20, 0, 0, 0, off⟩] := by simp [quadL, h4]
    rw [e] at h ⊢
    cases r with
    | zero => simp at h; subst h; simp [h4]
    | succ r => simp at h
  by_cases h5 : q.Op = 5
  · have e : quadL q c off = rdL c q.A 5 ++ [⟨18, 0, rgOf c q.A 5, 0, 8⟩] ++ [⟨20, 0, 0, 0, off - 4 * ((rdL c q.A 5).length + 1)⟩] := by simp [quadL, h5]
    rw [e] at h ⊢
    unfold rdL at *
    split at h
    · rename_i hlt
      simp only [hlt, if_true] at *
      rcases r with _ | _ | r
      · simp at h; subst h; simp [h5]
      · simp at h; subst h; simp [h5]
      · simp at h
    · rename_i hlt
      simp only [hlt, if_false] at *
      rcases r with _ | _ | _ | r
      · simp at h; subst h; simp
      · simp at h; subst h; simp [h5]
      · simp at h; subst h; simp [h5]
      · simp at h
  · refine none ?_
    have hd := hq
    unfold QOk at hq
    unfold quadL at hm
    simp only [h4, h5, if_false] at hm
    split at hm
    · simp only [List.mem_append] at hm
      rcases hm with hm | hm
      · rcases ct _ _ x hm with h | h <;> omega
      · have := wr _ x hm; omega
    split at hm
    · simp only [List.mem_append, List.mem_singleton] at hm
      rcases hm with (hm | hm) | hm
      · have := rd _ _ x hm; omega
      · rw [hm]; simp
      · have := wr _ x hm; omega
    split at hm
    · rename_i h3
      simp [h3] at hq
      simp only [List.mem_append, List.mem_singleton] at hm
      rcases hm with (((hm | hm) | hm) | hm) | hm
      · have := rd _ _ x hm; omega
      · have := rd _ _ x hm; omega
      · rw [hm]; exact opOf_small hq.2.2.2
      · split at hm <;> simp at hm; rw [hm]; simp
      · have := wr _ x hm; omega
    split at hm
    · simp only [List.mem_append, List.mem_cons, List.not_mem_nil, or_false] at hm
      rcases hm with (hm | hm | hm) | hm
      · have := rd _ _ x hm; omega
      · rw [hm]; simp
      · rw [hm]; simp
      · rcases cl _ x hm with h | h <;> omega
    split at hm
    · simp only [List.mem_append, List.mem_singleton] at hm
      rcases hm with ((hm | hm) | hm) | hm
      · rw [hm]; simp
      · rcases cl _ x hm with h | h <;> omega
      · rw [hm]; simp
      · have := wr _ x hm; omega
    split at hm
    · rcases cl _ x hm with h | h <;> omega
    split at hm
    · simp only [List.mem_append, List.mem_singleton] at hm
      rcases hm with (hm | hm) | hm
      · have := rd _ _ x hm; omega
      · rw [hm]; simp
      · rcases cl _ x hm with h | h <;> omega
    · rcases cl _ x hm with h | h <;> omega
theorem hasint_true {l : List Int} {n : Int} (hl : l.length ≤ 1000000) (hn : n ∈ l) : laws_hasInt l n = some true := by
  refine Tot.eq ?_
  unfold laws_hasInt
  refine .bind (P := fun z => z = .inl true) (.iter (fun i : Int => 0 ≤ i ∧ i ≤ l.length ∧ ∀ (j : Nat) (x : Int), (j : Int) < i → l[j]? = some x → x ≠ n) (fun i => (l.length - i).toNat) ⟨by omega, by omega, fun j q h => by omega⟩ fun i ⟨h0, h1, h2⟩ => ?_) fun z hz => by subst hz; exact .pure rfl
  unfold laws_hasInt_b1
  refine .sel (fun h => ?_) fun h => ?_
  · simp only [decide_eq_true_eq] at h
    refine .bind (.nth h0 h) fun x ⟨hx, hm⟩ => .sel (fun he => .inr rfl) fun he => .inl ?_
    simp only [beq_eq_false_iff_ne, ne_eq] at he
    rw [w64_up h0 (by omega)]
    refine ⟨⟨by omega, by omega, fun j y hj hy => ?_⟩, by omega⟩
    by_cases e : (j : Int) = i
    · obtain rfl : j = i.toNat := by omega
      rw [hx] at hy; injection hy with hy; exact hy ▸ he
    · exact h2 j y (by omega) hy
  · simp only [decide_eq_false_iff_not] at h
    obtain ⟨j, hj, rfl⟩ := List.getElem_of_mem hn
    exact absurd rfl (h2 j _ (by omega) (List.getElem?_eq_getElem hj))
theorem pl_strict (code : List Quad) (c : Int) {j i : Nat} (h : j < i) : pl code c j + (blk code c j).length ≤ pl code c i := by
  have hb : (blk code c j).length = (quadL (qAt code j) c 0).length := (quadL_len _ _ _).2.2
  induction i with
  | zero => omega
  | succ i ih =>
    by_cases e : j = i
    · subst e; simp only [pl]; omega
    · have := ih (by omega); simp only [pl]; omega
theorem law_jumps {k : Nat} (hk : 20 ≤ k) {a0 : List Int} (h : ∀ x ∈ a0, 0 ≤ x ∧ x ≤ 255) : laws_FnTaskJumps k a0 = some true := by
  refine Tot.eq ?_
  unfold laws_FnTaskJumps
  refine .sel (fun _ => .pure rfl) fun _ => .bind (drawTask_tot hk h) fun y ⟨h1, h2, h3⟩ => .of (law_head (by omega) ⟨h2, h3⟩ fun hc hr => ?_) rfl
  obtain ⟨code, c⟩ := y
  simp only at h1 h2 h3 hc hr
  refine Tot.eq ?_
  dsimp only
  rw [iplaces_eq hc hr, Option.bind_some]
  have hlen := tk_len code c code.length
  have h6 := pl_le code c code.length
  refine .bind (P := fun z => z = .inr ()) (.iter (fun i : Int => 0 ≤ i ∧ i ≤ (tk code c code.length).length) (fun i => ((tk code c code.length).length - i).toNat) ⟨by omega, by omega⟩ fun i ⟨g0, g1⟩ => ?_) fun z hz => by subst hz; exact .pure rfl
  unfold laws_FnTaskJumps_b1
  dsimp only
  refine .sel (fun hlt => ?_) fun _ => .inr rfl
  simp only [decide_eq_true_eq] at hlt
  refine .bind (.nth g0 hlt) fun x ⟨hx, _⟩ => ?_
  obtain ⟨j, r, a1, a2, a3, a4⟩ := tk_at code c code.length i.toNat (by omega)
  rw [hx] at a4
  obtain ⟨q, e1, e2, hq⟩ := hc.at (i := (j : Int)) (by omega) (by omega)
  rw [show ((j : Int)).toNat = j by omega] at e2
  have hst := pl_strict code c a1
  have a5 := a4.symm
  unfold blk at a5
  rw [e2] at a5
  obtain ⟨j20, j18⟩ := quad_jumps hq a5
  have hN : q.Op = 4 ∨ q.Op = 5 → 0 ≤ q.N ∧ q.N < code.length := fun ho => by unfold QOk at hq; rcases ho with h | h <;> simp [h] at hq <;> omega
  refine .bind (P := fun b => b = false) (.sel (fun h => ?_) fun _ => .pure rfl) fun b hb => ?_
  · simp only [beq_iff_eq] at h
    obtain ⟨ho, him⟩ := j20 h
    have hN := hN ho
    refine .bind (.nth g0 hlt) fun x' ⟨hx', _⟩ => ?_
    obtain rfl : x = x' := Option.some.inj (hx.symm.trans hx')
    have hoff : offL code c j = 4 * ((pl code c q.N.toNat : Int) - pl code c j) := by unfold offL; rw [e2, if_pos ho]
    have h7 := pl_le code c q.N.toNat
    have h8 := pl_le code c j
    have himm : x.Imm = 4 * ((pl code c q.N.toNat : Int) - pl code c j - r) := by rw [him, hoff]; omega
    have hdv : Int.tdiv x.Imm 4 = (pl code c q.N.toNat : Int) - pl code c j - r := by rw [himm]; exact Int.mul_tdiv_cancel_left _ (by omega)
    rw [hdv, w64_s (i := _ - _ - _) (by omega) (by omega), w64_s (by omega) (by omega)]
    rw [show i + ((pl code c q.N.toNat : Int) - pl code c j - r) = pl code c q.N.toNat by omega]
    rw [hasint_true (by rw [plL_len]; omega) (by unfold plL; exact List.mem_map.2 ⟨q.N.toNat, List.mem_range.2 (by omega), rfl⟩)]
    exact .pure rfl
  · subst hb
    refine .bind (P := fun b => b = false) (.sf rfl (.bind (.nth g0 hlt) fun x' ⟨hx', _⟩ => ?_)) fun b hb => .sf hb (.inl ?_)
    · obtain rfl : x = x' := Option.some.inj (hx.symm.trans hx')
      refine .bind (P := fun b => b = false) (.sel (fun h => .bind (.nth g0 hlt) fun x' ⟨hx', _⟩ => ?_) fun _ => .pure rfl) fun b hb => .pure hb
      obtain rfl : x = x' := Option.some.inj (hx.symm.trans hx')
      simp only [beq_iff_eq] at h
      obtain ⟨ho, him, hr2⟩ := j18 h
      refine .pure ?_
      rw [him, show Int.tdiv 8 4 = 2 from rfl, w64_s (i := 2) (by omega) (by omega), w64_s (by omega) (by omega)]
      have hj1 : j + 1 < code.length := by
        have hjc : code[j]? = some q := by
          obtain ⟨_, _, hh⟩ := nth_some e1
          simpa using hh
        exact hc.nxt hjc (by omega) (by omega)
      have hst2 := pl_strict code c hj1
      have hb2 : 1 ≤ (blk code c (j + 1)).length := (quadL_len _ _ _).1
      have hbl : (blk code c j).length = (quadL q c (offL code c j)).length := by unfold blk; rw [e2]
      have hpl : pl code c (j + 1) = pl code c j + (blk code c j).length := by simp only [pl]; rw [show (blk code c j).length = (quadL (qAt code j) c 0).length from (quadL_len _ _ _).2.2]
      simp only [ge_iff_le, decide_eq_false_iff_not]
      omega
    · rw [w64_up g0 (by omega)]
      exact ⟨⟨by omega, by omega⟩, by omega⟩
end Go.Proofs.YtjpbdpfkhdekpaaGreatDoor.N
