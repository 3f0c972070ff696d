/- Plain laws: the instructions of a quad, of a code: the program's are the reference's. -/
import Derived.Test.YtmpplggjpmmhlaaGreatDoorK3
section
set_option linter.unusedVariables false
namespace Go.Proofs.YtmpplggjpmmhlaaGreatDoor.N
open Go.Proofs.YtmpplggjpmmhlaaGreatDoor.X
def binInstrs : List Int := [7, 8, 6, 8, 11, 9, 10, 1, 2, 3, 4, 5]
def colorRegs : List Int := [8, 9, 18, 19, 20, 21, 22, 23]
def rgOf (c p s : Int) : Int := if p < c then (colorRegs[p.toNat]?).getD 0 else s
def rdL (c p s : Int) : List Instr := if p < c then [] else [⟨14, s, 2, 0, 4 * (p - c)⟩]
def wrL (c p : Int) : List Instr := if p < c then [] else [⟨16, 0, 2, 7, 4 * (p - c)⟩]
def callL (n : Int) : List Instr := [⟨12, 17, 0, 0, n⟩, ⟨15, 1, 0, 0, 0⟩]
def opOf (n : Int) : Int := (binInstrs[(n - 1).toNat]?).getD 0
def quadL (q : Quad) (c off : Int) : List Instr :=
  if q.Op = 1 then constL (rgOf c q.Dst 7) q.N ++ wrL c q.Dst
  else if q.Op = 2 then rdL c q.A 5 ++ [⟨12, rgOf c q.Dst 7, rgOf c q.A 5, 0, 0⟩] ++ wrL c q.Dst
  else if q.Op = 3 then rdL c q.A 5 ++ rdL c q.B 6 ++ [⟨opOf q.N, rgOf c q.Dst 7, rgOf c q.A 5, rgOf c q.B 6, 0⟩] ++ (if q.N = 4 then [⟨13, rgOf c q.Dst 7, rgOf c q.Dst 7, 0, 1⟩] else []) ++ wrL c q.Dst
  else if q.Op = 4 then [⟨20, 0, 0, 0, off⟩]
  else if q.Op = 5 then rdL c q.A 5 ++ [⟨18, 0, rgOf c q.A 5, 0, 8⟩] ++ [⟨20, 0, 0, 0, off - 4 * ((rdL c q.A 5).length + 1)⟩]
  else if q.Op = 6 then rdL c q.A 5 ++ [⟨12, 10, rgOf c q.A 5, 0, 0⟩, ⟨12, 11, 0, 0, q.N⟩] ++ callL 1
  else if q.Op = 7 then [⟨12, 11, 0, 0, q.N⟩] ++ callL 2 ++ [⟨12, rgOf c q.Dst 7, 10, 0, 0⟩] ++ wrL c q.Dst
  else if q.Op = 8 then callL 3
  else if q.Op = 9 then rdL c q.A 5 ++ [⟨12, 10, rgOf c q.A 5, 0, 0⟩] ++ callL 4
  else callL 5
theorem rd_len (c p s : Int) : (rdL c p s).length ≤ 1 := by unfold rdL; split <;> simp
theorem wr_len (c p : Int) : (wrL c p).length ≤ 1 := by unfold wrL; split <;> simp
theorem const_len (r n : Int) : 1 ≤ (constL r n).length ∧ (constL r n).length ≤ 2 := by unfold constL; split <;> simp
theorem sreg_eq {c p s : Int} (hc : 1 ≤ c ∧ c ≤ 8) (hp : Rg p) : spec_l43Reg p c s = some (rgOf c p s) := by
  refine Tot.eq ?_
  unfold spec_l43Reg rgOf Rg at *
  refine .sel (fun h => .pure (by simp at h; rw [if_neg (by omega)])) fun h => ?_
  simp at h
  refine .bind (.nth (by omega) (by simp; omega)) fun x ⟨hx, _⟩ => .pure ?_
  rw [if_pos h]
  show x = ((colorRegs[p.toNat]?).getD 0)
  unfold colorRegs
  rw [hx]; rfl
theorem sread_eq {c p s : Int} (hc : 1 ≤ c ∧ c ≤ 8) (hp : Rg p) : spec_l43Read p c s = some (rdL c p s) := by
  refine Tot.eq ?_
  unfold spec_l43Read rdL Rg at *
  refine .sel (fun h => .pure (by simp at h; rw [if_pos h])) fun h => .pure ?_
  simp at h
  rw [if_neg (by omega), w64_s (i := p - c) (by omega) (by omega), w64_s (by omega) (by omega)]
theorem swrite_eq {c p : Int} (hc : 1 ≤ c ∧ c ≤ 8) (hp : Rg p) {l : List Instr} (hl : l.length ≤ 1000) : spec_l43Write l p c = some (l ++ wrL c p) := by
  refine Tot.eq ?_
  unfold spec_l43Write wrL Rg at *
  refine .sel (fun h => .pure (by simp at h; rw [if_pos h, List.append_nil])) fun h => ?_
  simp at h
  rw [if_neg (by omega), w64_s (i := p - c) (by omega) (by omega), w64_s (by omega) (by omega)]
  exact .bind (.app (by simp; omega)) fun r hr => .pure hr
theorem scall_eq {n : Int} {l : List Instr} (hl : l.length ≤ 1000) : spec_l43Call l n = some (l ++ callL n) := by
  refine Tot.eq ?_
  unfold spec_l43Call
  refine .bind (.app (by simp; omega)) fun r hr => .bind (.app (by subst hr; simp; omega)) fun r2 hr2 => .pure ?_
  subst hr hr2; simp [callL]
theorem opnth {n : Int} (h : 1 ≤ n ∧ n ≤ 12) : nth binInstrs (w64 (n - 1)) = some (opOf n) := by
  rw [w64_s (by omega) (by omega)]
  refine (Tot.nth (l := binInstrs) (i := n - 1) (by omega) (by simp [binInstrs]; omega)).mono (Q := fun x => x = opOf n) (fun x ⟨hx, _⟩ => ?_) |>.eq
  unfold opOf; rw [hx]; rfl
theorem sop_eq {n : Int} (h : 1 ≤ n ∧ n ≤ 12) : spec_l43Op n = some (opOf n) := by
  unfold spec_l43Op
  have := opnth h
  unfold binInstrs at this
  rw [this]; rfl
theorem sgive_eq {c p : Int} (hc : 1 ≤ c ∧ c ≤ 8) (hp : Rg p) : spec_l43Give p c = some (rdL c p 5 ++ [⟨12, 10, rgOf c p 5, 0, 0⟩]) := by
  refine Tot.eq ?_
  unfold spec_l43Give spec_l43Move
  rw [sread_eq hc hp, sreg_eq hc hp]
  simp only [Option.bind_some]
  have := rd_len c p 5
  exact .bind (.app (by simp; omega)) fun r hr => .pure hr
theorem squad_eq {q : Quad} {m c off : Int} (hq : QOk m q) (hc : 1 ≤ c ∧ c ≤ 8) (ho : -1000000 ≤ off ∧ off ≤ 1000000) : spec_l43Quad q c off = some (quadL q c off) := by
  have hd : Rg q.Dst := by unfold QOk at hq; unfold Rg at *; omega
  have l1 := rd_len c q.A 5
  have l2 := rd_len c q.B 6
  refine Tot.eq ?_
  unfold spec_l43Quad quadL
  rw [sreg_eq hc hd, Option.bind_some]
  refine .sel (fun h => ?_) fun h1 => .sel (fun h => ?_) fun h2 => .sel (fun h => ?_) fun h3 => .sel (fun h => ?_) fun h4 => .sel (fun h => ?_) fun h5 => .sel (fun h => ?_) fun h6 => .sel (fun h => ?_) fun h7 => .sel (fun h => ?_) fun h8 => .sel (fun h => ?_) fun h9 => ?_
  all_goals
    simp only [beq_iff_eq, beq_eq_false_iff_ne, ne_eq] at *
    unfold QOk at hq
  · simp [h] at hq
    have := const_len (rgOf c q.Dst 7) q.N
    rw [if_pos h, const_eq hq.2.2.2, Option.bind_some, swrite_eq hc hd (by omega)]; exact .pure rfl
  · simp [h] at hq
    rw [if_neg h1, if_pos h, sread_eq hc hq.2.1, sreg_eq hc hq.2.1]
    simp only [Option.bind_some, spec_l43Move]
    refine .bind (.app (by simp; omega)) fun r hr => ?_
    rw [swrite_eq hc hd (by subst hr; simp; omega), hr]; exact .pure rfl
  · simp [h] at hq
    rw [if_neg h1, if_neg h2, if_pos h]
    refine .bind (P := fun r => r = _) ?_ fun r hr => .pure hr
    unfold spec_l43Bin
    rw [sread_eq hc hq.2.1, sread_eq hc hq.2.2.1, sreg_eq hc hq.2.1, sreg_eq hc hq.2.2.1, sreg_eq hc hd, sop_eq hq.2.2.2]
    simp only [Option.bind_some]
    refine .bind (.app (by omega)) fun r hr => .bind (.app (by subst hr; simp; omega)) fun r2 hr2 => ?_
    have e2 : r2.length ≤ 3 := by subst hr hr2; simp; omega
    refine .bind (P := fun y => y = r2 ++ (if q.N = 4 then [⟨13, rgOf c q.Dst 7, rgOf c q.Dst 7, 0, 1⟩] else []) ∧ y.length ≤ 4) (.sel (fun h => .bind (.app (by simp; omega)) fun r3 hr3 => .pure ?_) fun h => .pure ?_) fun y ⟨hy, hyl⟩ => ?_
    · simp at h; rw [if_pos h, hr3]; exact ⟨rfl, by simp; omega⟩
    · simp at h; rw [if_neg h, List.append_nil]; exact ⟨rfl, by omega⟩
    · rw [swrite_eq hc hd (by omega), hy, hr2, hr]
      exact .pure (by simp)
  · rw [if_neg h1, if_neg h2, if_neg h3, if_pos h]; exact .pure rfl
  · simp [h] at hq
    rw [if_neg h1, if_neg h2, if_neg h3, if_neg h4, if_pos h]
    refine .bind (P := fun r => r = _) ?_ fun r hr => .pure hr
    unfold spec_l43Zero
    rw [sread_eq hc hq.2.1, sreg_eq hc hq.2.1]
    simp only [Option.bind_some]
    refine .bind (.app (by simp; omega)) fun r hr => ?_
    have e1 : r.length = (rdL c q.A 5).length + 1 := by subst hr; simp
    rw [w64_s (i := 4 * (r.length : Int)) (by omega) (by omega), w64_s (by omega) (by omega)]
    refine .bind (.app (by simp; omega)) fun r2 hr2 => .pure ?_
    rw [hr2, e1, hr]; simp
  · simp [h] at hq
    rw [if_neg h1, if_neg h2, if_neg h3, if_neg h4, if_neg h5, if_pos h, sgive_eq hc hq.2.1]
    simp only [Option.bind_some, spec_l43Box]
    refine .bind (.app (by simp; omega)) fun r hr => ?_
    rw [scall_eq (by subst hr; simp; omega), hr]; exact .pure (by simp)
  · simp [h] at hq
    rw [if_neg h1, if_neg h2, if_neg h3, if_neg h4, if_neg h5, if_neg h6, if_pos h]
    simp only [Option.bind_some, spec_l43Box, spec_l43Move]
    rw [scall_eq (by simp), Option.bind_some]
    refine .bind (.app (by simp [callL])) fun r hr => ?_
    rw [swrite_eq hc hd (by subst hr; simp [callL]), hr]; exact .pure (by simp)
  · rw [if_neg h1, if_neg h2, if_neg h3, if_neg h4, if_neg h5, if_neg h6, if_neg h7, if_pos h, scall_eq (by simp)]; exact .pure (by simp)
  · simp [h] at hq
    rw [if_neg h1, if_neg h2, if_neg h3, if_neg h4, if_neg h5, if_neg h6, if_neg h7, if_neg h8, if_pos h, sgive_eq hc hq.2.1, Option.bind_some, scall_eq (by simp; omega)]; exact .pure (by simp)
  · rw [if_neg h1, if_neg h2, if_neg h3, if_neg h4, if_neg h5, if_neg h6, if_neg h7, if_neg h8, if_neg h9, scall_eq (by simp)]; exact .pure (by simp)
theorem quadL_len (q : Quad) (c off : Int) : 1 ≤ (quadL q c off).length ∧ (quadL q c off).length ≤ 6 ∧ (quadL q c off).length = (quadL q c 0).length := by
  have l1 := rd_len c q.A 5
  have l2 := rd_len c q.B 6
  have l3 := wr_len c q.Dst
  have l4 := const_len (rgOf c q.Dst 7) q.N
  unfold quadL callL
  split
  · simp; omega
  split
  · simp; omega
  split
  · split <;> simp <;> omega
  split
  · simp
  split
  · simp; omega
  split
  · simp; omega
  split
  · simp; omega
  split
  · simp
  split
  · simp; omega
  · simp
end Go.Proofs.YtmpplggjpmmhlaaGreatDoor.N
end
section
/- Plain laws: the instructions of a code: the program's are the reference's; places, jumps, colors. -/
set_option linter.unusedVariables false
namespace Go.Proofs.YtmpplggjpmmhlaaGreatDoor.N
open Go.Proofs.YtmpplggjpmmhlaaGreatDoor.X
def qAt (code : List Quad) (i : Nat) : Quad := (code[i]?).getD ⟨0, 0, 0, 0, 0⟩
theorem qAt_of {code : List Quad} {i : Nat} {q : Quad} (h : code[i]? = some q) : qAt code i = q := by unfold qAt; rw [h]; rfl
def pl (code : List Quad) (c : Int) : Nat → Nat
  | 0 => 0
  | i + 1 => pl code c i + (quadL (qAt code i) c 0).length
def offL (code : List Quad) (c : Int) (i : Nat) : Int := if (qAt code i).Op = 4 ∨ (qAt code i).Op = 5 then 4 * ((pl code c (qAt code i).N.toNat : Int) - pl code c i) else 0
def blk (code : List Quad) (c : Int) (i : Nat) : List Instr := quadL (qAt code i) c (offL code c i)
def tk (code : List Quad) (c : Int) : Nat → List Instr
  | 0 => []
  | i + 1 => tk code c i ++ blk code c i
def plL (code : List Quad) (c : Int) (n : Nat) : List Int := (List.range n).map fun i => (pl code c i : Int)
theorem pl_le (code : List Quad) (c : Int) : ∀ i, pl code c i ≤ 6 * i
  | 0 => Nat.le_refl _
  | i + 1 => by have := pl_le code c i; have := (quadL_len (qAt code i) c 0).2.1; simp only [pl]; omega
theorem tk_len (code : List Quad) (c : Int) : ∀ i, (tk code c i).length = pl code c i
  | 0 => rfl
  | i + 1 => by simp only [tk, pl, List.length_append, tk_len code c i, blk, (quadL_len (qAt code i) c (offL code c i)).2.2]
theorem plL_get {code : List Quad} {c : Int} {n i : Nat} (h : i < n) : (plL code c n)[i]? = some (pl code c i : Int) := by simp [plL, h]
theorem plL_len (code : List Quad) (c : Int) (n : Nat) : (plL code c n).length = n := by simp [plL]
theorem plL_nth {code : List Quad} {c : Int} {n : Nat} {i : Int} (h0 : 0 ≤ i) (h : i < n) : nth (plL code c n) i = some (pl code c i.toNat : Int) := by
  refine (Tot.nth (l := plL code c n) h0 (by rw [plL_len]; exact h)).mono (Q := fun x => x = (pl code c i.toNat : Int)) (fun x ⟨hx, _⟩ => ?_) |>.eq
  rw [plL_get (by omega)] at hx
  injection hx with hx
  exact hx.symm
theorem plL_succ (code : List Quad) (c : Int) (n : Nat) : plL code c (n + 1) = plL code c n ++ [(pl code c n : Int)] := by simp [plL, List.range_succ]
theorem COk.at {code : List Quad} (hc : COk code) {i : Int} (h0 : 0 ≤ i) (h1 : i < code.length) : ∃ q, nth code i = some q ∧ qAt code i.toNat = q ∧ QOk code.length q := by
  obtain ⟨q, e, h2, h3⟩ := Tot.nth (l := code) h0 h1
  exact ⟨q, e, qAt_of h2, hc.q q h3⟩
theorem splaces_eq {code : List Quad} (hc : COk code) {c : Int} (h : 1 ≤ c ∧ c ≤ 8) : spec_l43Places code c = some (plL code c code.length) := by
  have hmx := hc.max
  refine Tot.eq ?_
  unfold spec_l43Places
  refine .bind (P := fun r => r = plL code c code.length) (.iter (fun s => 0 ≤ s.2.2 ∧ s.2.2 ≤ (code.length : Int) ∧ s.1 = plL code c s.2.2.toNat ∧ s.2.1 = (pl code c s.2.2.toNat : Int)) (fun s => ((code.length : Int) - s.2.2).toNat) ⟨by simp, by simp, rfl, rfl⟩ fun s hs => ?_) fun r hr => .pure hr
  obtain ⟨out, a, i⟩ := s
  obtain ⟨g0, g1, g2, g3⟩ := hs
  simp only at g0 g1 g2 g3
  unfold spec_l43Places_b1
  refine .sel (fun hlt => ?_) fun hge => .inr (show out = _ from ?_)
  · simp only [decide_eq_true_eq] at hlt
    obtain ⟨q, e1, e2, hq⟩ := hc.at g0 hlt
    have hl := plL_len code c i.toNat
    have h6 := pl_le code c i.toNat
    have hql := (quadL_len q c 0).2.1
    refine .bind (.app (by subst g2; simp; omega)) fun r hr => ?_
    dsimp only
    rw [e1, Option.bind_some, squad_eq hq h (by omega), Option.bind_some, w64_up g0 (by omega), w64_s (by omega) (by omega)]
    have e3 : (i + 1).toNat = i.toNat + 1 := by omega
    refine .inl ⟨⟨by simp only; omega, by simp only; omega, ?_, ?_⟩, by simp only; omega⟩
    · simp only; rw [e3, plL_succ, hr, g2, g3]
    · simp only; rw [e3, pl, e2, g3]; simp
  · simp only [decide_eq_false_iff_not] at hge
    rw [g2, show i.toNat = code.length by omega]
theorem off_small {code : List Quad} (hc : COk code) {c : Int} {i : Nat} (hi : i < code.length) : -1000000 ≤ offL code c i ∧ offL code c i ≤ 1000000 := by
  have hmx := hc.max
  have hq := hc.q _ (List.mem_of_getElem? (List.getElem?_eq_getElem hi))
  have e : qAt code i = code[i] := qAt_of (List.getElem?_eq_getElem hi)
  unfold offL
  rw [e]
  split
  · rename_i h
    have hN : 0 ≤ (code[i]).N ∧ (code[i]).N < code.length := by unfold QOk at hq; rcases h with h | h <;> simp [h] at hq <;> omega
    have h1 := pl_le code c (code[i]).N.toNat
    have h2 := pl_le code c i
    omega
  · omega
theorem stask_eq {code : List Quad} (hc : COk code) {c : Int} (h : 1 ≤ c ∧ c ≤ 8) : spec_l43Task code c = some (tk code c code.length) := by
  have hmx := hc.max
  refine Tot.eq ?_
  unfold spec_l43Task
  rw [splaces_eq hc h, Option.bind_some]
  refine .bind (P := fun r => r = tk code c code.length) (.iter (fun s => 0 ≤ s.2 ∧ s.2 ≤ (code.length : Int) ∧ s.1 = tk code c s.2.toNat) (fun s => ((code.length : Int) - s.2).toNat) ⟨by simp, by simp, rfl⟩ fun s hs => ?_) fun r hr => .pure hr
  obtain ⟨out, i⟩ := s
  obtain ⟨g0, g1, g2⟩ := hs
  simp only at g0 g1 g2
  unfold spec_l43Task_b1
  refine .sel (fun hlt => ?_) fun hge => .inr (show out = _ from ?_)
  · simp only [decide_eq_true_eq] at hlt
    obtain ⟨q, e1, e2, hq⟩ := hc.at g0 hlt
    have h6 := pl_le code c i.toNat
    have hql := (quadL_len q c (offL code c i.toNat)).2.1
    have hof := off_small hc (c := c) (i := i.toNat) (by omega)
    dsimp only
    rw [e1]
    simp only [Option.bind_some]
    refine .bind (P := fun y => y = offL code c i.toNat) (.bind (P := fun b => b = true ↔ (q.Op = 4 ∨ q.Op = 5)) (.sel (fun h => .pure ?_) fun h => .pure ?_) fun b hb => .sel (fun h => ?_) fun h => .pure ?_) fun y hy => ?_
    · simp at h; simp [h]
    · simp at h; simp [h]
    · have ho := hb.1 h
      have hN : 0 ≤ q.N ∧ q.N < code.length := by unfold QOk at hq; rcases ho with h | h <;> simp [h] at hq <;> omega
      have h7 := pl_le code c q.N.toNat
      rw [plL_nth hN.1 hN.2, plL_nth g0 hlt, Option.bind_some, Option.bind_some, w64_s (i := _ - _) (by omega) (by omega), w64_s (by omega) (by omega)]
      unfold offL
      rw [e2, if_pos ho]; exact .pure rfl
    · unfold offL; rw [e2, if_neg (fun hh => by rw [hb.2 hh] at h; cases h)]
    · subst hy
      rw [squad_eq hq h hof, Option.bind_some]
      refine .bind (.app (by subst g2; rw [tk_len]; omega)) fun r hr => .inl ?_
      rw [w64_up g0 (by omega)]
      refine ⟨⟨by simp only; omega, by simp only; omega, ?_⟩, by simp only; omega⟩
      simp only
      rw [show (i + 1).toNat = i.toNat + 1 by omega, tk, hr, g2, blk, e2]
  · simp only [decide_eq_false_iff_not] at hge
    rw [g2, show i.toNat = code.length by omega]
theorem bytes_wf {l : List Int} (h : ∀ x ∈ l, (fun n => (Lit.int .u8 n).wf = true) x) : ∀ x ∈ l, 0 ≤ x ∧ x ≤ 255 := fun x hx => by
  have h1 : (Lit.int .u8 x).wf = true := h x hx
  simp [Lit.wf, IntKind.min, IntKind.max, IntKind.signed, IntKind.bits] at h1
  omega
end Go.Proofs.YtmpplggjpmmhlaaGreatDoor.N
end
section
/- Plain laws: the instructions of a valid quad, of a valid code, are valid. -/
set_option linter.unusedVariables false
namespace Go.Proofs.YtmpplggjpmmhlaaGreatDoor.N
open Go.Proofs.YtmpplggjpmmhlaaGreatDoor.X
theorem rgOf_bd {c p s : Int} (hc : 1 ≤ c ∧ c ≤ 8) (hp : Rg p) (hs : 0 ≤ s ∧ s ≤ 31) : 0 ≤ rgOf c p s ∧ rgOf c p s ≤ 31 := by
  unfold rgOf
  split
  · rename_i h
    unfold Rg at hp
    rcases (by omega : p = 0 ∨ p = 1 ∨ p = 2 ∨ p = 3 ∨ p = 4 ∨ p = 5 ∨ p = 6 ∨ p = 7) with rfl | rfl | rfl | rfl | rfl | rfl | rfl | rfl <;> decide
  · exact hs
theorem opOf_bd {n : Int} (h : 1 ≤ n ∧ n ≤ 12) : 1 ≤ opOf n ∧ opOf n ≤ 11 := by
  rcases (by omega : n = 1 ∨ n = 2 ∨ n = 3 ∨ n = 4 ∨ n = 5 ∨ n = 6 ∨ n = 7 ∨ n = 8 ∨ n = 9 ∨ n = 10 ∨ n = 11 ∨ n = 12) with rfl | rfl | rfl | rfl | rfl | rfl | rfl | rfl | rfl | rfl | rfl | rfl <;> decide
def All (l : List Instr) : Prop := ∀ x ∈ l, IOk x
theorem All.nil : All [] := fun x h => by cases h
theorem All.cons {x : Instr} {l : List Instr} (h : IOk x) (k : All l) : All (x :: l) := fun y hy => by
  rcases List.mem_cons.1 hy with rfl | hy
  · exact h
  · exact k y hy
theorem All.app {l l' : List Instr} (h : All l) (k : All l') : All (l ++ l') := fun y hy => (List.mem_append.1 hy).elim (h y) (k y)
theorem q0 : (0 : Int) ≤ 0 ∧ (0 : Int) ≤ 31 := by decide
theorem q2 : (0 : Int) ≤ 2 ∧ (2 : Int) ≤ 31 := by decide
theorem q7 : (0 : Int) ≤ 7 ∧ (7 : Int) ≤ 31 := by decide
theorem io_addi {d s i : Int} (hd : 0 ≤ d ∧ d ≤ 31) (hs : 0 ≤ s ∧ s ≤ 31) (hi : -2048 ≤ i ∧ i ≤ 2047) {op : Int} (ho : 12 ≤ op ∧ op ≤ 15) : IOk ⟨op, d, s, 0, i⟩ := ⟨hd, hs, q0, .inr (.inl ⟨ho.1, ho.2, rfl, hi.1, hi.2⟩)⟩
theorem rdL_iok {c p s : Int} (hc : 1 ≤ c ∧ c ≤ 8) (hp : Rg p) (hs : 0 ≤ s ∧ s ≤ 31) : All (rdL c p s) := by
  unfold rdL Rg at *
  split
  · exact .nil
  · exact .cons (io_addi hs (by omega) (by omega) (by omega)) .nil
theorem wrL_iok {c p : Int} (hc : 1 ≤ c ∧ c ≤ 8) (hp : Rg p) : All (wrL c p) := by
  unfold wrL Rg at *
  split
  · exact .nil
  · exact .cons ⟨q0, q2, q7, .inr (.inr (.inl ⟨rfl, rfl, by show -2048 ≤ 4 * (p - c); omega, by show 4 * (p - c) ≤ 2047; omega⟩))⟩ .nil
theorem callL_iok {n : Int} (h : 0 ≤ n ∧ n ≤ 5) : All (callL n) := .cons (io_addi (by omega) (by omega) (by omega) (by omega)) (.cons (io_addi (by omega) (by omega) (by omega) (by omega)) .nil)
theorem constL_iok {d n : Int} (hd : 0 ≤ d ∧ d ≤ 31) (hn : Wd n) : All (constL d n) := by
  unfold constL
  split
  · exact .cons (io_addi hd (by omega) (by omega) (by omega)) .nil
  · refine .cons ?_ (.cons (io_addi hd hd ?_ (by omega)) .nil)
    · exact ⟨hd, q0, q0, .inr (.inr (.inr (.inr (.inl ⟨rfl, rfl, rfl, by show 0 ≤ hi20 n; unfold hi20; omega, by show hi20 n ≤ 1048575; unfold hi20; omega⟩))))⟩
    · unfold lo12; split <;> omega
theorem quadL_iok {q : Quad} {m c off : Int} (hq : QOk m q) (hc : 1 ≤ c ∧ c ≤ 8) (ho : -1000000 ≤ off ∧ off ≤ 1000000) (he : off % 2 = 0) : All (quadL q c off) := by
  unfold QOk at hq
  unfold quadL
  split
  · rename_i h1
    simp [h1] at hq
    exact (constL_iok (rgOf_bd hc (hq.1) (by omega)) (hq.2.2.2)).app (wrL_iok hc (hq.1))
  split
  · rename_i h1 h2
    simp [h2] at hq
    exact ((rdL_iok hc (hq.2.1) (by omega)).app (.cons (io_addi (rgOf_bd hc (hq.1) (by omega)) (rgOf_bd hc (hq.2.1) (by omega)) (by omega) (by omega)) .nil)).app (wrL_iok hc (hq.1))
  split
  · rename_i h1 h2 h3
    simp [h3] at hq
    have r1 := rgOf_bd (c := c) (p := q.Dst) (s := 7) hc (hq.1) (by omega)
    have r2 := rgOf_bd (c := c) (p := q.A) (s := 5) hc (hq.2.1) (by omega)
    have r3 := rgOf_bd (c := c) (p := q.B) (s := 6) hc (hq.2.2.1) (by omega)
    have r4 := opOf_bd (n := q.N) (by omega)
    refine (((rdL_iok hc (hq.2.1) (by omega)).app (rdL_iok hc (hq.2.2.1) (by omega))).app (.cons ⟨r1, r2, r3, .inl ⟨r4.1, r4.2, rfl⟩⟩ .nil) |>.app ?_).app (wrL_iok hc (hq.1))
    · split
      · exact .cons (io_addi r1 r1 (by omega) (by omega)) .nil
      · exact .nil
  split
  · exact .cons ⟨q0, q0, q0, .inr (.inr (.inr (.inr (.inr (.inl ⟨rfl, rfl, rfl, by show -1048576 ≤ off; omega, by show off ≤ 1048574; omega, he⟩)))))⟩ .nil
  split
  · rename_i h1 h2 h3 h4 h5
    simp [h5] at hq
    have r2 := rgOf_bd (c := c) (p := q.A) (s := 5) hc (hq.2.1) (by omega)
    have l1 := rd_len c q.A 5
    refine ((rdL_iok hc (hq.2.1) (by omega)).app (.cons ⟨q0, r2, q0, .inr (.inr (.inr (.inl ⟨.inr rfl, rfl, (by decide : (-4096 : Int) ≤ 8), (by decide : (8 : Int) ≤ 4094), (rfl : (8 : Int) % 2 = 0)⟩)))⟩ .nil)).app (.cons ?_ .nil)
    refine ⟨q0, q0, q0, .inr (.inr (.inr (.inr (.inr (.inl ⟨rfl, rfl, rfl, ?_, ?_, ?_⟩)))))⟩
    · show -1048576 ≤ off - 4 * (((rdL c q.A 5).length : Int) + 1); omega
    · show off - 4 * (((rdL c q.A 5).length : Int) + 1) ≤ 1048574; omega
    · show (off - 4 * (((rdL c q.A 5).length : Int) + 1)) % 2 = 0; omega
  split
  · rename_i h1 h2 h3 h4 h5 h6
    simp [h6] at hq
    have r2 := rgOf_bd (c := c) (p := q.A) (s := 5) hc (hq.2.1) (by omega)
    exact ((rdL_iok hc (hq.2.1) (by omega)).app (.cons (io_addi (by omega) r2 (by omega) (by omega)) (.cons (io_addi (by omega) (by omega) (by omega) (by omega)) .nil))).app (callL_iok (by omega))
  split
  · rename_i h1 h2 h3 h4 h5 h6 h7
    simp [h7] at hq
    exact (((All.cons (io_addi (by omega) (by omega) (by omega) (by omega)) .nil).app (callL_iok (by omega))).app (.cons (io_addi (rgOf_bd hc (hq.1) (by omega)) (by omega) (by omega) (by omega)) .nil)).app (wrL_iok hc (hq.1))
  split
  · exact callL_iok (by omega)
  split
  · rename_i h1 h2 h3 h4 h5 h6 h7 h8 h9
    simp [h9] at hq
    have r2 := rgOf_bd (c := c) (p := q.A) (s := 5) hc (hq.2.1) (by omega)
    exact ((rdL_iok hc (hq.2.1) (by omega)).app (.cons (io_addi (by omega) r2 (by omega) (by omega)) .nil)).app (callL_iok (by omega))
  · exact callL_iok (by omega)
theorem off_even (code : List Quad) (c : Int) (i : Nat) : offL code c i % 2 = 0 := by
  unfold offL; split <;> omega
theorem tk_iok {code : List Quad} (hc : COk code) {c : Int} (h : 1 ≤ c ∧ c ≤ 8) : ∀ i, i ≤ code.length → All (tk code c i)
  | 0, _ => .nil
  | i + 1, hi => by
    have e : qAt code i = code[i] := qAt_of (List.getElem?_eq_getElem (by omega))
    have hq := hc.q _ (List.mem_of_getElem? (List.getElem?_eq_getElem (show i < code.length by omega)))
    refine (tk_iok hc h i (by omega)).app ?_
    unfold blk
    rw [e]
    exact quadL_iok hq h (off_small hc (by omega)) (off_even code c i)
end Go.Proofs.YtmpplggjpmmhlaaGreatDoor.N
end
section
/- Plain laws: lists of instructions are drawn. -/
set_option linter.unusedVariables false
namespace Go.Proofs.YtmpplggjpmmhlaaGreatDoor.N
open Go.Proofs.YtmpplggjpmmhlaaGreatDoor.X
variable {b : List Int} {p m : Int}
theorem codes_dr (hb : By b) {k : Nat} (hk : 20 ≤ k) (h0 : 0 ≤ p) (hm : p ≤ m) (hp : m ≤ 100000) : Dr (spec_l93Codes k ⟨b, p⟩) (m + 150001) fun l => 1 ≤ l.length ∧ l.length ≤ 3 ∧ ∀ c ∈ l, COk c ∧ c.length ≤ 40 := by
  unfold spec_l93Codes
  refine .bind (pick_dr hb h0 hm (by omega) (by omega) (by omega)) fun x p1 hx h1 h2 => ?_
  dsimp only
  obtain ⟨n, hn⟩ : ∃ n : Int, n = 1 + x := ⟨_, rfl⟩
  have hw : w64 (1 + x) = n := by rw [w64_s (by omega) (by omega), hn]
  refine .tot (P := fun r => 0 ≤ r.2 ∧ r.2 ≤ m + 1 + 150000 ∧ (r.1.length : Int) = n ∧ ∀ c ∈ r.1, COk c ∧ c.length ≤ 40) (.iter (fun s => 0 ≤ s.2.1 ∧ s.2.1 ≤ n ∧ 0 ≤ s.2.2 ∧ s.2.2 ≤ m + 1 + 50000 * s.2.1 ∧ (s.1.length : Int) = s.2.1 ∧ ∀ c ∈ s.1, COk c ∧ c.length ≤ 40) (fun s => (n - s.2.1).toNat) ⟨by simp, by simp only; omega, h1, by simp only; omega, by simp, by simp⟩ fun s hs => ?_) fun r hr => ?_
  · obtain ⟨out, i, q⟩ := s
    obtain ⟨g0, g1, g2, g3, g4, g5⟩ := hs
    simp only at g0 g1 g2 g3 g4 g5
    unfold spec_l93Codes_b1
    dsimp only
    rw [hw, w64_up g0 (by omega)]
    refine .sel (fun h => ?_) fun h => .inr (show 0 ≤ q ∧ q ≤ m + 1 + 150000 ∧ (out.length : Int) = n ∧ ∀ c ∈ out, COk c ∧ c.length ≤ 40 from ?_)
    · simp only [decide_eq_true_eq] at h
      refine .bind (good_dr hb hk g2 g3 (by omega)) fun y hy => .bind (.app (l := out) (by simp; omega)) fun r hr => .inl ?_
      subst hr
      refine ⟨⟨by simp only; omega, by simp only; omega, hy.1, by have := hy.2.1; simp only; omega, by simp; omega, fun z hz => ?_⟩, by simp only; omega⟩
      simp only [List.mem_append, List.mem_singleton] at hz
      rcases hz with hz | rfl
      · exact g5 z hz
      · exact hy.2.2
    · simp only [decide_eq_false_iff_not] at h
      exact ⟨g2, by omega, by omega, g5⟩
  · exact .pure ⟨by have := hr.2.2.1; omega, by have := hr.2.2.1; omega, hr.2.2.2⟩ hr.1 (by have := hr.2.1; omega)
/-- What is drawn: the instructions of one to three codes. -/
def LOk (l : List (List Instr)) : Prop := 1 ≤ l.length ∧ l.length ≤ 3 ∧ ∀ x ∈ l, x.length ≤ 240 ∧ All x
theorem lists_dr (hb : By b) {k : Nat} (hk : 20 ≤ k) (h0 : 0 ≤ p) (hm : p ≤ m) (hp : m ≤ 100000) : Dr (spec_l94Lists k ⟨b, p⟩) (m + 150002) LOk := by
  unfold spec_l94Lists
  refine .bind (codes_dr hb hk h0 hm hp) fun l p1 hl h1 h2 => .bind (pick_dr hb h1 h2 (by omega) (by omega) (by omega)) fun x p2 hx h3 h4 => ?_
  refine .tot (P := LOk) (.iter (fun s : List (List Instr) × Int => 0 ≤ s.2 ∧ s.2 ≤ (l.length : Int) ∧ (s.1.length : Int) = s.2 ∧ ∀ x ∈ s.1, x.length ≤ 240 ∧ All x) (fun s => ((l.length : Int) - s.2).toNat) ⟨by simp, by simp only; omega, by simp, by simp⟩ fun s hs => ?_) fun r hr => .pure hr h3 (by omega)
  obtain ⟨out, i⟩ := s
  obtain ⟨g0, g1, g2, g3⟩ := hs
  simp only at g0 g1 g2 g3
  have hl1 := hl.1
  have hl2 := hl.2.1
  unfold spec_l94Lists_b1
  dsimp only
  rw [w64_s (i := 1 + x) (by omega) (by omega), w64_up g0 (by omega)]
  refine .sel (fun h => ?_) fun h => .inr (show LOk out from ?_)
  · simp only [decide_eq_true_eq] at h
    refine .bind (.nth (l := l) g0 h) fun c ⟨_, hc⟩ => ?_
    have hc' := hl.2.2 c hc
    rw [stask_eq hc'.1 (c := 1 + x) (by omega)]
    refine .bind (.pure (Q := fun y => y = tk c (1 + x) c.length) rfl) fun y hy => .bind (.app (l := out) (by simp; omega)) fun r hr => .inl ?_
    subst hr hy
    refine ⟨⟨by simp only; omega, by simp only; omega, by simp; omega, fun z hz => ?_⟩, by simp only; omega⟩
    simp only [List.mem_append, List.mem_singleton] at hz
    rcases hz with hz | rfl
    · exact g3 z hz
    · refine ⟨?_, tk_iok hc'.1 (by omega) _ (Nat.le_refl _)⟩
      rw [tk_len]
      have := pl_le c (1 + x) c.length
      have := hc'.2
      omega
  · simp only [decide_eq_false_iff_not] at h
    exact ⟨by omega, by omega, g3⟩
end Go.Proofs.YtmpplggjpmmhlaaGreatDoor.N
end
section
/- Plain laws: machines are the same as themselves; drawn images; runs. -/
set_option linter.unusedVariables false
set_option linter.unusedSimpArgs false
namespace Go.Proofs.YtmpplggjpmmhlaaGreatDoor.N
open Go.Proofs.YtmpplggjpmmhlaaGreatDoor.X
theorem sameInts_refl {l : List Int} (hl : l.length ≤ 1048576) : laws_sameInts l l = some true := by
  unfold laws_sameInts
  refine sel_to (by simp) ?_
  have e := all_loop (f := laws_sameInts_b1 l l) (l := l) (fun _ => true) (by omega) (fun i hi => by
    unfold laws_sameInts_b1
    exact sel_tt' (by simpa using hi) (bind_to (nth_at hi) (bind_to (nth_at hi) (sel_to (by simp) rfl)))) (by
    unfold laws_sameInts_b1
    exact sel_to (by simp) rfl)
  rw [show l.all (fun _ => true) = true by simp] at e
  exact bind_to e rfl
theorem sameMachine_refl {m : Machine} (h1 : m.Regs.length ≤ 1048576) (h2 : m.Mem.length ≤ 1048576) : laws_sameMachine m m = some true := by
  unfold laws_sameMachine
  exact bind_to (y := true) (sel_tt' (by simp) (bind_to (sameInts_refl h1) rfl)) (bind_to (y := true) (sel_tt' rfl (bind_to (sameInts_refl h2) rfl)) rfl)
theorem all_wd {l : List Int} (h : ∀ x ∈ l, Wd x) : l.all wdB = true := by
  rw [List.all_eq_true]
  intro x hx
  have := h x hx
  unfold Wd at this
  unfold wdB
  simp
  exact this
theorem mv_true {r : List Int} {pc : Int} {m : List Int} (hM : MOK r pc m) (h0 : r[0]? = some 0) : impl_MachineValid ⟨r, pc, m⟩ = some true ∧ spec_MachineValid ⟨r, pc, m⟩ = some true := by
  have h32 := hM.r32
  have h10 := hM.m10
  have hn := nth_at (l := r) (i := 0) (by omega)
  have g0 : (r[0]'(by omega) == 0) = true := by
    rw [List.getElem?_eq_getElem (by omega)] at h0
    rw [Option.some.inj h0]; rfl
  have w1 : impl_areWords r = some true := (iwords_ok r (by omega)).trans (by rw [all_wd hM.wr])
  have w2 : impl_areWords m = some true := (iwords_ok m (by omega)).trans (by rw [all_wd hM.wm])
  have w3 : impl_WordValid pc = some true := by
    have := hM.wp
    unfold Wd at this
    unfold impl_WordValid
    rw [decide_eq_true (by omega), decide_eq_true (by omega)]; rfl
  have key : impl_MachineValid ⟨r, pc, m⟩ = some true := by
    unfold impl_MachineValid
    exact bind_to (y := true) (sel_tt' (by simp [h32]) (bind_to w1 rfl)) (bind_to (y := true) (sel_tt' rfl (bind_to hn (congrArg some g0))) (bind_to (y := true) (sel_tt' rfl (bind_to w3 rfl)) (bind_to (y := true) (sel_tt' (by simp; omega) (bind_to w2 rfl)) rfl)))
  obtain ⟨b, v1, v2, _⟩ := mv_ok r pc m (by omega) (by omega)
  rw [v2] at key
  rw [v1, v2]
  exact ⟨key, key⟩
theorem wl_wd : ∀ {l : List Instr} {ws : List Int}, wl l = some ws → ∀ x ∈ ws, Wd x
  | [], ws, h => by simp only [wl, Option.some.injEq] at h; subst h; intro x hx; cases hx
  | x :: xs, ws, h => by
    simp only [wl] at h
    split at h
    · rename_i w ws' h1 h2
      injection h with h
      subst h
      intro y hy
      rcases List.mem_cons.1 hy with rfl | hy
      · rcases encW_cases x with ⟨r, _, _, e⟩ | ⟨r, _, _, e⟩
        · rw [e] at h1
          rw [← Option.some.inj h1]
          exact wrapW_bd r
        · rw [e] at h1; cases h1
      · exact wl_wd h2 y hy
    · cases h
end Go.Proofs.YtmpplggjpmmhlaaGreatDoor.N
end
section
/- Plain laws: what is encoded is decoded again; a new hart. -/
set_option linter.unusedVariables false
set_option linter.unusedSimpArgs false
namespace Go.Proofs.YtmpplggjpmmhlaaGreatDoor.N
open Go.Proofs.YtmpplggjpmmhlaaGreatDoor.X
theorem so_fl {k f3 f7 : Nat} (hk : k < 21) (h3 : k < 18 → f3 = t3 k) (h7 : k < 11 → f7 = t7 k) : So (tO k) f3 f7 = k + 1 := by
  rcases Nat.lt_or_ge k 11 with h | h
  · obtain rfl := h3 (by omega)
    obtain rfl := h7 h
    rcases (by omega : k = 0 ∨ k = 1 ∨ k = 2 ∨ k = 3 ∨ k = 4 ∨ k = 5 ∨ k = 6 ∨ k = 7 ∨ k = 8 ∨ k = 9 ∨ k = 10) with rfl | rfl | rfl | rfl | rfl | rfl | rfl | rfl | rfl | rfl | rfl <;> rfl
  rcases Nat.lt_or_ge k 18 with h' | h'
  · obtain rfl := h3 h'
    rcases (by omega : k = 11 ∨ k = 12 ∨ k = 13 ∨ k = 14 ∨ k = 15 ∨ k = 16 ∨ k = 17) with rfl | rfl | rfl | rfl | rfl | rfl | rfl <;> rfl
  · rcases (by omega : k = 18 ∨ k = 19 ∨ k = 20) with rfl | rfl | rfl <;> rfl
theorem dec_fl {i : Instr} {r : Nat} (hr : r < 4294967296) (h : Fl i r) (he : spec_l42Encode i = some (r : Int)) : impl_InstrDecode (r : Int) = some (i, true) := by
  obtain ⟨x, b, d1, d2, _⟩ := dec_ok r hr
  have key : spec_InstrDecode (r : Int) = some (i, true) := by
    obtain ⟨k, hk, ho, f1, f2, f3, f4⟩ := h
    have hop : spec_l42Op (r : Int) = some ((k : Int) + 1) := by
      rw [kind_ok r hr]
      have e1 : r / 2 ^ 0 % 2 ^ 7 = tO k := by simp only [Nat.pow_zero, Nat.div_one, Nat.reducePow]; exact f1
      have e2 := so_fl (f3 := r / 2 ^ 12 % 2 ^ 3) (f7 := r / 2 ^ 25 % 2 ^ 7) hk (fun h => by simp only [Nat.reducePow]; exact f2 h) (fun h => by simp only [Nat.reducePow]; exact f3 h)
      rw [e1, e2]
      rfl
    have e1 : (decide ((r : Int) ≥ 0) && decide ((r : Int) ≤ 4294967295)) = true := by rw [decide_eq_true (by omega), decide_eq_true (by omega)]; rfl
    unfold spec_InstrDecode spec_l6In
    rw [e1]
    rw [ho] at f4
    have hz : ((k : Int) + 1 == 0) = false := by simp; omega
    simp only [Option.bind_some, Bool.not_true, hop, f4, he, hz, sel, bne_self_eq_false]
  rw [d1] at key
  rw [d2]
  exact key
theorem encW_dec {x : Instr} {w : Int} (h : encW x = some w) : ∃ u : Nat, impl_Unsigned w = some (u : Int) ∧ impl_InstrDecode (u : Int) = some (x, true) := by
  obtain ⟨r, b, h1, h2, h3, h4, h5, h6, h7⟩ := enc_ok x
  unfold encW at h
  rw [h3] at h
  cases b
  · cases h
  · obtain rfl := Option.some.inj h
    have hb := wrapW_bd (r : Int)
    obtain ⟨u, u1, u2, u3, _⟩ := uns_ok (x := wrapW (r : Int)) hb.1 hb.2
    have : u = r := by
      have : wrapW (r : Int) % 4294967296 = (r : Int) := by unfold wrapW; split <;> omega
      omega
    subst this
    exact ⟨u, u3, dec_fl h1 (h7 rfl) (h4 rfl)⟩
theorem wl_dec : ∀ {l : List Instr} {ws : List Int}, wl l = some ws → ∀ (i : Nat) (x : Instr), l[i]? = some x → ∃ (w : Int) (u : Nat), ws[i]? = some w ∧ impl_Unsigned w = some (u : Int) ∧ impl_InstrDecode (u : Int) = some (x, true)
  | [], ws, h, i, x, hx => by simp at hx
  | y :: ys, ws, h, i, x, hx => by
    simp only [wl] at h
    split at h
    · rename_i w ws' h1 h2
      injection h with h
      subst h
      cases i with
      | zero =>
        obtain rfl : y = x := by simpa using hx
        obtain ⟨u, u1, u2⟩ := encW_dec h1
        exact ⟨w, u, rfl, u1, u2⟩
      | succ i => exact wl_dec h2 i x (by simpa using hx)
    · cases h
theorem hart_ok (l : List Instr) (hl : l.length ≤ 1000) : (impl_HartNew l = some (⟨[], 0, []⟩, false) ∧ spec_HartNew l = some (⟨[], 0, []⟩, false)) ∨
    ∃ ws, wl l = some ws ∧ impl_HartNew l = some (⟨(List.replicate 32 (0 : Int)).set 2 (4 * ((l.length : Int) + 1)), 4, 0 :: ws ++ List.replicate 12 0⟩, true) ∧ spec_HartNew l = some (⟨(List.replicate 32 (0 : Int)).set 2 (4 * ((l.length : Int) + 1)), 4, 0 :: ws ++ List.replicate 12 0⟩, true) := by
  have w := words_ok l (by omega)
  obtain ⟨m', c⟩ := code_words l [0] (by simp; omega)
  have hmk : mk 8 32 (0 : Int) = some (List.replicate 32 0) := rfl
  cases hw : wl l with
  | none =>
    rw [hw] at w c
    refine .inl ⟨?_, ?_⟩
    · unfold impl_HartNew
      exact bind_to w (sel_tt' rfl rfl)
    · unfold spec_HartNew
      exact sel_to (by simp; omega) (bind_to c (sel_tt' rfl rfl))
  | some ws =>
    rw [hw] at w c
    have hlen := wl_length hw
    have ha : app 8 [0] ws = some ([0] ++ ws) := app_ok (by simp; omega)
    have hz : appz 8 ([0] ++ ws) 12 0 = some ([0] ++ ws ++ List.replicate 12 0) := appz_ok (k := 12) (by simp; omega)
    have e1 : w64 (4 * ((([0] ++ ws : List Int).length : Nat) : Int)) = 4 * ((l.length : Int) + 1) := by
      rw [List.length_append, List.length_singleton, hlen, w64_id (by omega) (by omega)]; omega
    have hu : upd (List.replicate 32 (0 : Int)) 2 (w64 (4 * ((([0] ++ ws : List Int).length : Nat) : Int))) = some ((List.replicate 32 (0 : Int)).set 2 (4 * ((l.length : Int) + 1))) := by rw [e1]; rfl
    have hn : nth (List.replicate 32 (0 : Int)) 2 = some 0 := rfl
    refine .inr ⟨ws, rfl, ?_, ?_⟩
    · unfold impl_HartNew
      refine bind_to w (sel_to ?_ (bind_to hmk (bind_to ha (bind_to hn (bind_to hu (bind_to hz rfl))))))
      simp only [Bool.not_true, Bool.false_or]
      rw [w64_id (x := (ws.length : Int) + 1) (by omega) (by omega), w64_id (by omega) (by omega)]
      simp; omega
    · unfold spec_HartNew
      exact sel_to (by simp; omega) (bind_to c (sel_to rfl (bind_to hmk (bind_to hn (bind_to hu (bind_to hz rfl))))))
theorem hart_mok {l : List Instr} {ws : List Int} (hl : l.length ≤ 1000) (hw : wl l = some ws) : MOK ((List.replicate 32 (0 : Int)).set 2 (4 * ((l.length : Int) + 1))) 4 (0 :: ws ++ List.replicate 12 0) := by
  have hlen := wl_length hw
  refine ⟨rfl, by simp; omega, ?_, ?_, by unfold Wd; omega⟩
  · intro x hx
    unfold Wd
    rcases List.mem_or_eq_of_mem_set hx with hm | rfl
    · have := List.eq_of_mem_replicate hm; omega
    · omega
  · intro x hx
    rw [List.cons_append] at hx
    rcases List.mem_cons.1 hx with rfl | hx
    · unfold Wd; omega
    · rcases List.mem_append.1 hx with hx | hx
      · exact wl_wd hw x hx
      · have := List.eq_of_mem_replicate hx; unfold Wd; omega
theorem drawHart_tot {k : Nat} (hk : 20 ≤ k) {code : List Int} (h : ∀ x ∈ code, 0 ≤ x ∧ x ≤ 255) : Tot (spec_DrawHartNew k code) fun l => l.length ≤ 241 := by
  unfold spec_DrawHartNew
  refine .bind (open_tot h) fun r ⟨hb, hp⟩ => .bind (lists_dr (m := 0) hb hk (by rw [hp]; omega) (by rw [hp]; omega) (by omega)) fun z hz => ?_
  have hz1 := hz.2.2.1
  refine .bind (.nth (l := z.1) (by omega) (by omega)) fun x ⟨_, hx⟩ => .bind (pick_dr hb hz.1 hz.2.1 (by omega) (by omega) (by omega)) fun y hy => ?_
  have hl := (hz.2.2.2.2 x hx).1
  exact .sel (fun _ => .bind (.app (by simp; omega)) fun r hr => .pure (by subst hr; simp; omega)) fun _ => .pure (by omega)
theorem law_hart {k : Nat} (hk : 20 ≤ k) {a0 : List Int} (h : ∀ x ∈ a0, 0 ≤ x ∧ x ≤ 255) : laws_FnHartNew k a0 = some true := by
  refine Tot.eq ?_
  unfold laws_FnHartNew
  refine .sel (fun _ => .pure rfl) fun hlen => .bind (drawHart_tot hk h) fun l hl => ?_
  rcases hart_ok l (by omega) with ⟨e1, e2⟩ | ⟨ws, hw, e1, e2⟩
  · have hS := sameMachine_refl (m := ⟨[], 0, []⟩) (by simp) (by simp)
    exact .of (bind_to e1 (bind_to e2 (bind_to (y := false) (sel_to rfl (bind_to hS rfl)) (sel_tt' rfl (bind_to (y := true) (sel_tt' rfl (bind_to hS rfl)) rfl))))) rfl
  · have hM := hart_mok (by omega) hw
    have hwl := wl_length hw
    have hS := sameMachine_refl (m := ⟨(List.replicate 32 (0 : Int)).set 2 (4 * ((l.length : Int) + 1)), 4, 0 :: ws ++ List.replicate 12 0⟩) (by simp) (by simp; omega)
    refine .of (bind_to e1 (bind_to e2 (bind_to (y := false) (sel_to rfl (bind_to hS rfl)) (sel_to rfl ?_)))) rfl
    have loop := all_loop (f := laws_FnHartNew_b1 l (⟨(List.replicate 32 (0 : Int)).set 2 (4 * ((l.length : Int) + 1)), 4, 0 :: ws ++ List.replicate 12 0⟩, true)) (l := l) (fun _ => true) (by omega) (fun i hi => by
      obtain ⟨w, u, w1, w2, w3⟩ := wl_dec hw i l[i] (List.getElem?_eq_getElem hi)
      have wi : w64 (1 + (i : Int)) = ((i + 1 : Nat) : Int) := by rw [w64_id (by omega) (by omega)]; omega
      have hn : nth (0 :: ws ++ List.replicate 12 0) (w64 (1 + (i : Int))) = some w := by
        rw [wi]
        unfold nth
        rw [if_neg (by omega), show ((i + 1 : Nat) : Int).toNat = i + 1 by omega, List.cons_append, List.getElem?_cons_succ, List.getElem?_append_left (by omega), w1]
      unfold laws_FnHartNew_b1
      exact sel_tt' (by simpa using hi) (bind_to hn (bind_to w2 (bind_to w3 (bind_to (y := false) (sel_to rfl (bind_to (nth_at hi) (by simp))) (sel_to rfl rfl)))))) (by
      unfold laws_FnHartNew_b1
      exact sel_to (by simp) rfl)
    rw [show l.all (fun _ => true) = true by simp] at loop
    refine bind_to loop ?_
    dsimp only [both, cond_true]
    have hx3 : nth ((List.replicate 32 (0 : Int)).set 2 (4 * ((l.length : Int) + 1))) 2 = some (4 * ((l.length : Int) + 1)) := rfl
    have hv := (mv_true hM rfl).1
    have ht : Int.tdiv (4 * ((l.length : Int) + 1)) 4 = (l.length : Int) + 1 := by rw [Int.tdiv_eq_ediv_of_nonneg (by omega)]; omega
    have hw1 : w64 ((l.length : Int) + 1) = (l.length : Int) + 1 := w64_id (by omega) (by omega)
    have hw2 : w64 (1 + (l.length : Int)) = (l.length : Int) + 1 := by rw [w64_id (by omega) (by omega)]; omega
    refine bind_to hx3 (bind_to hv (bind_to (y := true) (sel_tt' rfl rfl) ?_))
    have hcut : cut (0 :: ws ++ List.replicate 12 (0 : Int)) (w64 (Int.tdiv (4 * ((l.length : Int) + 1)) 4)) ((0 :: ws ++ List.replicate 12 (0 : Int)).length : Int) = some (List.replicate 12 0) := by
      rw [ht, hw1]
      unfold cut
      rw [if_pos (by simp; omega)]
      congr 1
      rw [show (((0 :: ws ++ List.replicate 12 (0 : Int)).length : Nat) : Int).toNat = (0 :: ws ++ List.replicate 12 (0 : Int)).length by omega, List.take_length, List.drop_append_of_le_length (by simp; omega)]
      rw [List.drop_of_length_le (by simp; omega)]
      rfl
    have hmk : mk 8 12 (0 : Int) = some (List.replicate 12 0) := rfl
    have hI := sameInts_refl (l := List.replicate 12 (0 : Int)) (by simp)
    exact bind_to (y := true) (sel_tt' (by rw [ht, hw1, hw2]; simp) (bind_to hcut (bind_to hmk (bind_to hI rfl)))) rfl
end Go.Proofs.YtmpplggjpmmhlaaGreatDoor.N
end
section
/- Printed by a program of mine: that the program's functions compute it. -/
set_option linter.unusedVariables false
set_option maxRecDepth 100000
set_option maxHeartbeats 4000000
namespace Go.Proofs.YtmpplggjpmmhlaaGreatDoor.N
open Go.Proofs.YtmpplggjpmmhlaaGreatDoor.X
theorem z.{u} {α : Sort u} {a : α} : a = a := rfl
theorem spec_l6Open_ok {a0 : List Int} {v_0 : Hd} {w : World} {r : L6Rd} (h : spec_l6Open a0 = some r) (q_0 : RV w (Old No w) (sv v_0) 5 1 (D.int .u8) a0) : Calls Tryz.prog 34 #[(sv v_0)] w (Ret No w (fun s : Nat × {x : Hd // ∀ (T : Nat → Prop), RV w T (sv v_0) 5 1 (D.int .u8) a0 → RV w T (sv x) 5 1 (D.int .u8) r.b} => .pointer (some ⟨s.1, 0, none⟩)) (fun s => [.box s.1 100 [(sv s.2.1), .int .i64 r.p]])) := by
 unfold spec_l6Open at h
 refine enter Tryz.func34 z z ?_
 have hS := Sep.start w
 refine .seq (.region (.q z (.nil ?_)))
 have ⟨y1, hy1, h⟩ := bnd h
 refine .seq (CW.via (R' := fun x E' W' => x = .normal ∧ ∃ (v1 : Hd), (∀ (T : Nat → Prop), RV w T (sv v_0) 5 1 (D.int .u8) a0 → RV w T (sv v1) 5 1 (D.int .u8) y1) ∧ SubL E' [(0, (sv v1))] ∧ Sep No w W' []) ?_ ?_)
 ·have h := hy1
  refine .seq (.region (.q z (.s (lenv (hS.keep q_0) T.u22 z z) z (.q z (.nil ?_)))))
  refine .cs z h ?_ ?_ <;> intro h
  ·refine .region (.q z ?_)
   have ⟨r1, hr1, h⟩ := bnd h
   refine .s (slv hr1 q_0 T.u22 T.t5 z z z z) z (.q z (.nil ?_))
   obtain rfl := Option.some.inj h
   exact ⟨z, (cutH v_0 (Int.toNat 0) 1 r1.length), fun _ q_0 => (slv_rd hr1 q_0), sb z, hS.to [] z⟩
  refine .skip ?_
  obtain rfl := Option.some.inj h
  exact ⟨z, v_0, fun _ q_0 => q_0, sb z, hS.to [] z⟩
 intro x E W hJ
 obtain ⟨rfl, v2, q2, hE, hS⟩ := hJ
 refine ⟨_, hE.sub, ?_⟩
 refine .seq (.region (.q z (.s (bs T.s100 z z) z (.c (.box hS z z ?_ z z)))))
 intro g1 W hS
 cases h
 exact .q z (.nil (.ret (fin_ret (vs := [_]) (g1, ⟨v2, fun _ q_0 => (q2 _ q_0)⟩) (rt z rn) z (hS.to [0] z))))
theorem spec_l6Rd_pick_ok {a0 : L6Rd} {a1 : Int} {v_0_b : Hd} {g_0 : Nat} {S : Nat → Prop} {w : World} {r : Int × Int} (h : spec_l6Rd_pick a0 a1 = some r) (q_0_b : RV w (Old S w) (sv v_0_b) 5 1 (D.int .u8) a0.b) (hO : Owns w [.box g_0 100 [(sv v_0_b), .int .i64 a0.p]] S) (hlt : ∀ b, S b → b < w.heap.size) : Calls Tryz.prog 36 #[.pointer (some ⟨g_0, 0, none⟩), .int .i64 a1] w (Ret S w (fun s : Unit => .int .i64 r.1) (fun s => [.box g_0 100 [(sv v_0_b), .int .i64 r.2]])) := by
 unfold spec_l6Rd_pick at h
 refine enter Tryz.func36 z z ?_
 have hS := Sep.startM hO hlt
 refine .seq (.region (.q z (.nil (.seq (.region (.q z (.q z (.q z (.s (fa T.f100_1 z z z) z (.s (ld T.t3 hS z z z z z) z (.q z (.q z (.s (fa T.f100_1 z z z) z (.c (.st T.t3 hS z z z ?_ z z z z z)))))))))))))))
 intro W hS
 refine .nil (.seq (.seq (.region (.q z (.q z (.q z (.chunk 7 24 ((decide (a1 < 1)) || ((a0.b.length : Int) == 0)) hS ?_ ?_)))))))
 ·refine .both (decide (a1 < 1)) (fun hb => ?_) (fun hb => ?_)
  ·exact .xx hb z (.xx hb z (.xx hb z (.xx hb z (.xx hb z (.xx hb z (.s (pkt hb z z z) z (.nil (ck 7 hS z (or_t hb) z z))))))))
  have hg1 := hb
  exact .g hg1 (.q z (.g hg1 (.q z (.g hg1 (.s (fa T.f100_0 z z z) z (.g hg1 (.s (ld T.t22 hS z z z z z) z (.g hg1 (.s (lenv (hS.keep q_0_b) T.u22 z z) z (.g hg1 (.q z (.s (pkf hg1 z z z) z (.nil (ck 7 hS z (or_f hg1) z z)))) z)) z)) z)) z)) z)) z
 intro W hS
 refine .nil ?_
 refine .cs z h ?_ ?_ <;> intro h
 ·cases h
  exact .seq (.region (.q z (.nil (.ret (fin_ret (vs := [_]) () (rt z rn) z (hS.to [0] z))))))
 refine .skip (.seq (.region (.q z (.q z (.s (fa T.f100_1 z z z) z (.s (ld T.t3 hS z z z z z) z (.q z (.q z (.nil (.seq (.seq (.region (.q z (.q z (.q z (.s (fa T.f100_0 z z z) z (.s (ld T.t22 hS z z z z z) z (.s (lenv (hS.keep q_0_b) T.u22 z z) z (.q z (.nil ?_))))))))))))))))))))
 refine .cs z h ?_ ?_ <;> intro h
 ·refine .seq (.region (.q z (.q z (.s (fa T.f100_0 z z z) z (.s (ld T.t22 hS z z z z z) z (.q z ?_))))))
  have ⟨x1, hx1, h⟩ := bnd h
  refine .s (ixv (hS.keep q_0_b) hx1 T.u22 T.t5 z z z) z (.s (lde (RV.flat (hS.keep q_0_b) hx1 z) T.t5 z z z z z) z (.s (cv T.u5 T.u3 z z) z (.q z ?_)))
  have ⟨d1, hd1, h⟩ := bnd h
  cases h
  exact .s (dr hd1 z z z) z (.q z (.nil (.ret (fin_ret (vs := [_]) () (rt z rn) z (hS.to [0] z)))))
 refine .skip (.seq (.rk 46 hS [0] T.mix ?_))
 intro W hS
 have hT := hS.to [0] z
 refine .tp 0 z z hT (by kernel_rfl) (.tp 1 z z hT (by kernel_rfl) (.ts 2 z (fun W hT => fa T.f100_0 z z z) hT z (by kernel_rfl) (.ts 3 z (fun W hT => ld T.t22 hT z z z z z) hT z (by kernel_rfl) (.tp 4 z z hT (by kernel_rfl) (.tp 5 z z hT (by kernel_rfl) (.tp 6 z z hT (by kernel_rfl) (.ts 7 z (fun W hT => fa T.f100_0 z z z) hT z (by kernel_rfl) (.ts 8 z (fun W hT => ld T.t22 hT z z z z z) hT z (by kernel_rfl) (.ts 9 z (fun W hT => lenv (hS.keep q_0_b) T.u22 z z) hT z (by kernel_rfl) ?_)))))))))
 have ⟨d2, hd2, h⟩ := bnd h
 refine .ts 10 z (fun W hT => dr hd2 z z z) hT z (by kernel_rfl) ?_
 have ⟨x2, hx2, h⟩ := bnd h
 refine .ts 11 z (fun W hT => ixv (hS.keep q_0_b) hx2 T.u22 T.t5 z z z) hT z (by kernel_rfl) (.ts 12 z (fun W hT => lde (RV.flat (hT.keep q_0_b) hx2 z) T.t5 z z z z z) hT z (by kernel_rfl) (.ts 13 z (fun W hT => cv T.u5 T.u3 z z) hT z (by kernel_rfl) (.tp 14 z z hT (by kernel_rfl) (.tp 15 z z hT (by kernel_rfl) (.tp 16 z z hT (by kernel_rfl) (.ts 17 z (fun W hT => fa T.f100_0 z z z) hT z (by kernel_rfl) (.ts 18 z (fun W hT => ld T.t22 hT z z z z z) hT z (by kernel_rfl) (.tp 19 z z hT (by kernel_rfl) (.tp 20 z z hT (by kernel_rfl) (.tp 21 z z hT (by kernel_rfl) (.tp 22 z z hT (by kernel_rfl) (.tp 23 z z hT (by kernel_rfl) (.ts 24 z (fun W hT => fa T.f100_0 z z z) hT z (by kernel_rfl) (.ts 25 z (fun W hT => ld T.t22 hT z z z z z) hT z (by kernel_rfl) (.ts 26 z (fun W hT => lenv (hS.keep q_0_b) T.u22 z z) hT z (by kernel_rfl) ?_)))))))))))))))
 have ⟨d3, hd3, h⟩ := bnd h
 refine .ts 27 z (fun W hT => dr hd3 z z z) hT z (by kernel_rfl) ?_
 have ⟨x3, hx3, h⟩ := bnd h
 refine .ts 28 z (fun W hT => ixv (hS.keep q_0_b) hx3 T.u22 T.t5 z z z) hT z (by kernel_rfl) (.ts 29 z (fun W hT => lde (RV.flat (hT.keep q_0_b) hx3 z) T.t5 z z z z z) hT z (by kernel_rfl) (.ts 30 z (fun W hT => cv T.u5 T.u3 z z) hT z (by kernel_rfl) (.tp 31 z z hT (by kernel_rfl) (.tp 32 z z hT (by kernel_rfl) (.tp 33 z z hT (by kernel_rfl) (.tp 34 z z hT (by kernel_rfl) (.tp 35 z z hT (by kernel_rfl) (.tp 36 z z hT (by kernel_rfl) (.tp 37 z z hT (by kernel_rfl) (.tp 38 z z hT (by kernel_rfl) (.ts 39 z (fun W hT => fa T.f100_0 z z z) hT z (by kernel_rfl) (.ts 40 z (fun W hT => ld T.t22 hT z z z z z) hT z (by kernel_rfl) (.ts 41 z (fun W hT => lenv (hS.keep q_0_b) T.u22 z z) hT z (by kernel_rfl) ?_)))))))))))))
 have ⟨d4, hd4, h⟩ := bnd h
 refine .ts 42 z (fun W hT => dq hd4 z z z) hT z (by kernel_rfl) (.tp 43 z z hT (by kernel_rfl) (.tp 44 z z hT (by kernel_rfl) (.tp 45 z z hT (by kernel_rfl) (.done (.seq (.region (.q z (.q z (.q z (.q z (.q z (.nil (.seq (.region (.q z (.q z ?_)))))))))))) (by kernel_rfl)))))
 have ⟨d5, hd5, h⟩ := bnd h
 cases h
 exact .s (dr hd5 z z z) z (.q z (.nil (.ret (fin_ret (vs := [_]) () (rt z rn) z (hS.to [0] z)))))
theorem spec_l93Reg_ok {a0 : L6Rd} {v_0_b : Hd} {g_0 : Nat} {S : Nat → Prop} {w : World} {r : Int × Int} (h : spec_l93Reg a0 = some r) (q_0_b : RV w (Old S w) (sv v_0_b) 5 1 (D.int .u8) a0.b) (hO : Owns w [.box g_0 100 [(sv v_0_b), .int .i64 a0.p]] S) (hlt : ∀ b, S b → b < w.heap.size) : Calls Tryz.prog 159 #[.pointer (some ⟨g_0, 0, none⟩)] w (Ret S w (fun s : Unit => .int .i64 r.1) (fun s => [.box g_0 100 [(sv v_0_b), .int .i64 r.2]])) := by
 unfold spec_l93Reg at h
 refine enter Tryz.func159 z z ?_
 have hS := Sep.startM hO hlt
 refine .seq (.region (.q z (.nil (.seq (.region (.q z ?_))))))
 have ⟨y1, hy1, h⟩ := bnd h
 refine .c (.callS2 (L0 := [.box g_0 100 [(sv v_0_b), .int .i64 a0.p]]) hS Tryz.func36 (fun S h1 h2 h3 => (spec_l6Rd_pick_ok hy1 (hS.keepS q_0_b h1) h2 (fun b hb => (h1 b hb).2))) z z ?_ z (by kernel_rfl) z z)
 rintro ⟨⟩ W hS
 cases h
 exact .q z (.nil (.ret (fin_ret (vs := [_]) () (rt z rn) z (hS.to [0] z))))
theorem spec_Wrap_ok {a0 : Int} {w : World} {r : Int} (h : spec_Wrap a0 = some r) : Calls Tryz.prog 68 #[.int .i64 a0] w (Ret No w (fun s : Unit => .int .i64 r) (fun s => [])) := by
 unfold spec_Wrap at h
 refine enter Tryz.func68 z z ?_
 have hS := Sep.start w
 refine .seq (.region (.q z (.nil (.seq (.region (.q z (.q z (.q z (.nil (.seq (.seq (.region (.q z (.q z (.nil ?_)))))))))))))))
 refine .cs z h ?_ ?_ <;> intro h
 ·cases h
  exact .seq (.region (.q z (.q z (.q z (.nil (.ret (fin_ret (vs := [_]) () (rt z rn) z (hS.to [] z))))))))
 refine .skip (.seq (.seq (.region (.q z (.q z (.nil ?_))))))
 refine .cs z h ?_ ?_ <;> intro h
 ·cases h
  exact .seq (.region (.q z (.q z (.q z (.nil (.ret (fin_ret (vs := [_]) () (rt z rn) z (hS.to [] z))))))))
 cases h
 exact .skip (.seq (.region (.q z (.q z (.nil (.ret (fin_ret (vs := [_]) () (rt z rn) z (hS.to [] z))))))))
theorem spec_l91Word_ok {a0 : L6Rd} {v_0_b : Hd} {g_0 : Nat} {S : Nat → Prop} {w : World} {r : Int × Int} (h : spec_l91Word a0 = some r) (q_0_b : RV w (Old S w) (sv v_0_b) 5 1 (D.int .u8) a0.b) (hO : Owns w [.box g_0 100 [(sv v_0_b), .int .i64 a0.p]] S) (hlt : ∀ b, S b → b < w.heap.size) : Calls Tryz.prog 160 #[.pointer (some ⟨g_0, 0, none⟩)] w (Ret S w (fun s : Unit => .int .i64 r.1) (fun s => [.box g_0 100 [(sv v_0_b), .int .i64 r.2]])) := by
 unfold spec_l91Word at h
 refine enter Tryz.func160 z z ?_
 have hS := Sep.startM hO hlt
 refine .seq (.region (.q z (.nil (.seq (.seq (.region (.q z ?_)))))))
 have ⟨y1, hy1, h⟩ := bnd h
 refine .c (.callS2 (L0 := [.box g_0 100 [(sv v_0_b), .int .i64 a0.p]]) hS Tryz.func36 (fun S h1 h2 h3 => (spec_l6Rd_pick_ok hy1 (hS.keepS q_0_b h1) h2 (fun b hb => (h1 b hb).2))) z z ?_ z (by kernel_rfl) z z)
 rintro ⟨⟩ W hS
 refine .nil (.block (.seq (.region (.q z (.q z (.nil (.cond z (fun hb => ?_) (fun hb => ?_))))))))
 ·have h := sel_t hb h
  refine .seq (.region (.c (.liv [(-2147483648), 2147483647, (-1), 0, 1, (-2147483647), 65536, (-65536)] (D.int .i64) T.u25 T.t3 hS z z z z ?_ z (fun _ => z) z z z z)))
  intro v1 W hS
  refine .q z ?_
  have ⟨y2, hy2, h⟩ := bnd h
  have hS := hS.p1
  refine .c (.callS2 (L0 := [.box g_0 100 [(sv v_0_b), .int .i64 y1.2]]) hS Tryz.func36 (fun S h1 h2 h3 => (spec_l6Rd_pick_ok hy2 (hS.keepS q_0_b h1) h2 (fun b hb => (h1 b hb).2))) z z ?_ z (by kernel_rfl) z z)
  rintro ⟨⟩ W hS
  have ⟨x1, hx1, h⟩ := bnd h
  cases h
  exact .s (ixv hS.p1.lendv hx1 T.u25 T.t3 z z z) z (.s (lde (RV.flat hS.p1.lendv hx1 z) T.t3 z z z z z) z (.q z (.nil (.ret (fin_ret (vs := [_]) () (rt z rn) z (hS.to [0] z))))))
 have h := sel_f hb h
 refine .seq (.region (.q z (.q z (.nil (.cond z (fun hb => ?_) (fun hb => ?_))))))
 ·have h := sel_t hb h
  refine .seq (.region (.q z ?_))
  have ⟨y3, hy3, h⟩ := bnd h
  refine .c (.callS2 (L0 := [.box g_0 100 [(sv v_0_b), .int .i64 y1.2]]) hS Tryz.func36 (fun S h1 h2 h3 => (spec_l6Rd_pick_ok hy3 (hS.keepS q_0_b h1) h2 (fun b hb => (h1 b hb).2))) z z ?_ z (by kernel_rfl) z z)
  rintro ⟨⟩ W hS
  refine .q z (.q z ?_)
  have ⟨y4, hy4, h⟩ := bnd h
  refine .c (.callS2 (L0 := [.box g_0 100 [(sv v_0_b), .int .i64 y3.2]]) hS Tryz.func36 (fun S h1 h2 h3 => (spec_l6Rd_pick_ok hy4 (hS.keepS q_0_b h1) h2 (fun b hb => (h1 b hb).2))) z z ?_ z (by kernel_rfl) z z)
  rintro ⟨⟩ W hS
  refine .q z (.q z (.q z ?_))
  have ⟨y5, hy5, h⟩ := bnd h
  refine .c (.callS2 (L0 := [.box g_0 100 [(sv v_0_b), .int .i64 y4.2]]) hS Tryz.func36 (fun S h1 h2 h3 => (spec_l6Rd_pick_ok hy5 (hS.keepS q_0_b h1) h2 (fun b hb => (h1 b hb).2))) z z ?_ z (by kernel_rfl) z z)
  rintro ⟨⟩ W hS
  refine .q z (.q z ?_)
  have ⟨y6, hy6, h⟩ := bnd h
  refine .c (.callS2 (L0 := [.box g_0 100 [(sv v_0_b), .int .i64 y5.2]]) hS Tryz.func36 (fun S h1 h2 h3 => (spec_l6Rd_pick_ok hy6 (hS.keepS q_0_b h1) h2 (fun b hb => (h1 b hb).2))) z z ?_ z (by kernel_rfl) z z)
  rintro ⟨⟩ W hS
  refine .q z (.q z ?_)
  have ⟨y7, hy7, h⟩ := bnd h
  refine .c (.call0 hS Tryz.func68 (spec_Wrap_ok hy7) z z ?_ z (by kernel_rfl) z z)
  intro W hS
  cases h
  exact .q z (.nil (.ret (fin_ret (vs := [_]) () (rt z rn) z (hS.to [0] z))))
 have h := sel_f hb h
 refine .seq (.region (.q z (.q z (.nil (.cond z (fun hb => ?_) (fun hb => ?_))))))
 ·have h := sel_t hb h
  refine .seq (.region (.q z ?_))
  have ⟨y8, hy8, h⟩ := bnd h
  refine .c (.callS2 (L0 := [.box g_0 100 [(sv v_0_b), .int .i64 y1.2]]) hS Tryz.func36 (fun S h1 h2 h3 => (spec_l6Rd_pick_ok hy8 (hS.keepS q_0_b h1) h2 (fun b hb => (h1 b hb).2))) z z ?_ z (by kernel_rfl) z z)
  rintro ⟨⟩ W hS
  cases h
  exact .q z (.q z (.nil (.ret (fin_ret (vs := [_]) () (rt z rn) z (hS.to [0] z)))))
 have h := sel_f hb h
 refine .skip (.seq (.region (.q z ?_)))
 have ⟨y9, hy9, h⟩ := bnd h
 refine .c (.callS2 (L0 := [.box g_0 100 [(sv v_0_b), .int .i64 y1.2]]) hS Tryz.func36 (fun S h1 h2 h3 => (spec_l6Rd_pick_ok hy9 (hS.keepS q_0_b h1) h2 (fun b hb => (h1 b hb).2))) z z ?_ z (by kernel_rfl) z z)
 rintro ⟨⟩ W hS
 cases h
 exact .q z (.nil (.ret (fin_ret (vs := [_]) () (rt z rn) z (hS.to [0] z))))
theorem spec_l91Op_ok {a0 : L6Rd} {v_0_b : Hd} {g_0 : Nat} {S : Nat → Prop} {w : World} {r : Int × Int} (h : spec_l91Op a0 = some r) (q_0_b : RV w (Old S w) (sv v_0_b) 5 1 (D.int .u8) a0.b) (hO : Owns w [.box g_0 100 [(sv v_0_b), .int .i64 a0.p]] S) (hlt : ∀ b, S b → b < w.heap.size) : Calls Tryz.prog 161 #[.pointer (some ⟨g_0, 0, none⟩)] w (Ret S w (fun s : Unit => .int .i64 r.1) (fun s => [.box g_0 100 [(sv v_0_b), .int .i64 r.2]])) := by
 unfold spec_l91Op at h
 refine enter Tryz.func161 z z ?_
 have hS := Sep.startM hO hlt
 refine .seq (.region (.q z (.nil (.seq (.region (.q z ?_))))))
 have ⟨y1, hy1, h⟩ := bnd h
 refine .c (.callS2 (L0 := [.box g_0 100 [(sv v_0_b), .int .i64 a0.p]]) hS Tryz.func36 (fun S h1 h2 h3 => (spec_l6Rd_pick_ok hy1 (hS.keepS q_0_b h1) h2 (fun b hb => (h1 b hb).2))) z z ?_ z (by kernel_rfl) z z)
 rintro ⟨⟩ W hS
 cases h
 exact .q z (.q z (.nil (.ret (fin_ret (vs := [_]) () (rt z rn) z (hS.to [0] z)))))
theorem spec_l93Quad_ok {a0 : L6Rd} {a1 : Int} {v_0_b : Hd} {g_0 : Nat} {S : Nat → Prop} {w : World} {r : Quad × Int} (h : spec_l93Quad a0 a1 = some r) (q_0_b : RV w (Old S w) (sv v_0_b) 5 1 (D.int .u8) a0.b) (hO : Owns w [.box g_0 100 [(sv v_0_b), .int .i64 a0.p]] S) (hlt : ∀ b, S b → b < w.heap.size) : Calls Tryz.prog 146 #[.pointer (some ⟨g_0, 0, none⟩), .int .i64 a1] w (Ret S w (fun s : Unit => .agg #[.int .i64 r.1.Op, .int .i64 r.1.Dst, .int .i64 r.1.A, .int .i64 r.1.B, .int .i64 r.1.N]) (fun s => [.box g_0 100 [(sv v_0_b), .int .i64 r.2]])) := by
 unfold spec_l93Quad at h
 refine enter Tryz.func146 z z ?_
 have hS := Sep.startM hO hlt
 refine .seq (.region (.c (.alloc T.t126 hS ?_ z z z)))
 intro g1 W hS
 refine .nil (.seq (.seq (.region (.q z ?_))))
 have ⟨y1, hy1, h⟩ := bnd h
 have hS := hS.p1
 refine .c (.callS2 (L0 := [.box g_0 100 [(sv v_0_b), .int .i64 a0.p]]) hS Tryz.func36 (fun S h1 h2 h3 => (spec_l6Rd_pick_ok hy1 (hS.keepS q_0_b h1) h2 (fun b hb => (h1 b hb).2))) z z ?_ z (by kernel_rfl) z z)
 rintro ⟨⟩ W hS
 refine .nil (.block ?_)
 have ⟨y2, hy2, h⟩ := bnd h
 refine .seq (CW.via (R' := fun x E' W' => x = .normal ∧ SubL E' [(0, .pointer (some ⟨g_0, 0, none⟩)), (1, .int .i64 a1), (4, .pointer (some ⟨g1, 0, none⟩)), (13, .int .i64 y1.1), (14, .bool y2)] ∧ Sep S w W' [.box g_0 100 [(sv v_0_b), .int .i64 y1.2], .box g1 126 [.int .i64 0, .int .i64 0, .int .i64 0, .int .i64 0, .int .i64 0]]) ?_ ?_)
 ·have h := hy2
  refine .seq (.region (.q z (.q z (.nil ?_))))
  refine .cs z h ?_ ?_ <;> intro h
  ·refine .skip ?_
   cases h
   exact ⟨z, sb z, hS.to [0, 0] z⟩
  refine .region (.q z (.q z (.nil ?_)))
  cases h
  exact ⟨z, sb z, hS.to [0, 0] z⟩
 intro x E W hJ
 obtain ⟨rfl, hE, hS⟩ := hJ
 refine ⟨_, hE.sub, ?_⟩
 refine .cond z (fun hb => ?_) (fun hb => ?_)
 ·have h := sel_t hb h
  refine .seq (.region (.q z ?_))
  have ⟨y3, hy3, h⟩ := bnd h
  refine .c (.callS2 (L0 := [.box g_0 100 [(sv v_0_b), .int .i64 y1.2]]) hS Tryz.func159 (fun S h1 h2 h3 => (spec_l93Reg_ok hy3 (hS.keepS q_0_b h1) h2 (fun b hb => (h1 b hb).2))) z z ?_ z (by kernel_rfl) z z)
  rintro ⟨⟩ W hS
  refine .q z ?_
  have ⟨y4, hy4, h⟩ := bnd h
  refine .c (.callS2 (L0 := [.box g_0 100 [(sv v_0_b), .int .i64 y3.2]]) hS Tryz.func160 (fun S h1 h2 h3 => (spec_l91Word_ok hy4 (hS.keepS q_0_b h1) h2 (fun b hb => (h1 b hb).2))) z z ?_ z (by kernel_rfl) z z)
  rintro ⟨⟩ W hS
  refine .c (.liv [0, 1, 2, y4.1] (D.int .i64) T.u25 T.t3 hS z z z z ?_ z (fun _ => z) z z z z)
  intro v1 W hS
  refine .q z ?_
  have ⟨y5, hy5, h⟩ := bnd h
  have hS := hS.p1
  refine .c (.callS2 (L0 := [.box g_0 100 [(sv v_0_b), .int .i64 y4.2]]) hS Tryz.func36 (fun S h1 h2 h3 => (spec_l6Rd_pick_ok hy5 (hS.keepS q_0_b h1) h2 (fun b hb => (h1 b hb).2))) z z ?_ z (by kernel_rfl) z z)
  rintro ⟨⟩ W hS
  have ⟨x1, hx1, h⟩ := bnd h
  refine .s (ixv hS.p1.lendv hx1 T.u25 T.t3 z z z) z (.s (lde (RV.flat hS.p1.lendv hx1 z) T.t3 z z z z z) z (.s (bs T.s126 z z) z (.c (.st T.t126 hS.p2 z z z ?_ z z z z z))))
  intro W hS
  cases h
  exact .nil (.ret (fin_ret (vs := [_]) () (rc hS T.t126 z rn z z) z (hS.to [1] z)))
 have h := sel_f hb h
 have ⟨y6, hy6, h⟩ := bnd h
 refine .seq (CW.via (R' := fun x E' W' => x = .normal ∧ SubL E' [(0, .pointer (some ⟨g_0, 0, none⟩)), (1, .int .i64 a1), (4, .pointer (some ⟨g1, 0, none⟩)), (13, .int .i64 y1.1), (27, .bool y6)] ∧ Sep S w W' [.box g_0 100 [(sv v_0_b), .int .i64 y1.2], .box g1 126 [.int .i64 0, .int .i64 0, .int .i64 0, .int .i64 0, .int .i64 0]]) ?_ ?_)
 ·have h := hy6
  refine .seq (.region (.q z (.q z (.nil ?_))))
  refine .cs z h ?_ ?_ <;> intro h
  ·refine .skip ?_
   cases h
   exact ⟨z, sb z, hS.to [0, 0] z⟩
  refine .region (.q z (.q z (.nil ?_)))
  cases h
  exact ⟨z, sb z, hS.to [0, 0] z⟩
 intro x E W hJ
 obtain ⟨rfl, hE, hS⟩ := hJ
 refine ⟨_, hE.sub, ?_⟩
 refine .cond z (fun hb => ?_) (fun hb => ?_)
 ·have h := sel_t hb h
  refine .seq (.region (.q z ?_))
  have ⟨y7, hy7, h⟩ := bnd h
  refine .c (.callS2 (L0 := [.box g_0 100 [(sv v_0_b), .int .i64 y1.2]]) hS Tryz.func159 (fun S h1 h2 h3 => (spec_l93Reg_ok hy7 (hS.keepS q_0_b h1) h2 (fun b hb => (h1 b hb).2))) z z ?_ z (by kernel_rfl) z z)
  rintro ⟨⟩ W hS
  refine .q z (.nil (.seq (.region (.q z (.q z ?_)))))
  have ⟨y8, hy8, h⟩ := bnd h
  refine .c (.callS2 (L0 := [.box g_0 100 [(sv v_0_b), .int .i64 y7.2]]) hS Tryz.func159 (fun S h1 h2 h3 => (spec_l93Reg_ok hy8 (hS.keepS q_0_b h1) h2 (fun b hb => (h1 b hb).2))) z z ?_ z (by kernel_rfl) z z)
  rintro ⟨⟩ W hS
  refine .s (bs T.s126 z z) z (.c (.st T.t126 hS.p1 z z z ?_ z z z z z))
  intro W hS
  cases h
  exact .nil (.ret (fin_ret (vs := [_]) () (rc hS T.t126 z rn z z) z (hS.to [1] z)))
 have h := sel_f hb h
 have ⟨y9, hy9, h⟩ := bnd h
 refine .seq (CW.via (R' := fun x E' W' => x = .normal ∧ SubL E' [(0, .pointer (some ⟨g_0, 0, none⟩)), (1, .int .i64 a1), (4, .pointer (some ⟨g1, 0, none⟩)), (13, .int .i64 y1.1), (36, .bool y9)] ∧ Sep S w W' [.box g_0 100 [(sv v_0_b), .int .i64 y1.2], .box g1 126 [.int .i64 0, .int .i64 0, .int .i64 0, .int .i64 0, .int .i64 0]]) ?_ ?_)
 ·have h := hy9
  refine .seq (.region (.q z (.q z (.nil ?_))))
  refine .cs z h ?_ ?_ <;> intro h
  ·refine .skip ?_
   cases h
   exact ⟨z, sb z, hS.to [0, 0] z⟩
  refine .seq (.region (.q z (.q z (.nil ?_))))
  refine .cs z h ?_ ?_ <;> intro h
  ·refine .skip ?_
   cases h
   exact ⟨z, sb z, hS.to [0, 0] z⟩
  refine .region (.q z (.q z (.nil ?_)))
  cases h
  exact ⟨z, sb z, hS.to [0, 0] z⟩
 intro x E W hJ
 obtain ⟨rfl, hE, hS⟩ := hJ
 refine ⟨_, hE.sub, ?_⟩
 refine .cond z (fun hb => ?_) (fun hb => ?_)
 ·have h := sel_t hb h
  refine .seq (.region (.q z ?_))
  have ⟨y10, hy10, h⟩ := bnd h
  refine .c (.callS2 (L0 := [.box g_0 100 [(sv v_0_b), .int .i64 y1.2]]) hS Tryz.func159 (fun S h1 h2 h3 => (spec_l93Reg_ok hy10 (hS.keepS q_0_b h1) h2 (fun b hb => (h1 b hb).2))) z z ?_ z (by kernel_rfl) z z)
  rintro ⟨⟩ W hS
  refine .q z (.nil (.seq (.region (.q z ?_))))
  have ⟨y11, hy11, h⟩ := bnd h
  refine .c (.callS2 (L0 := [.box g_0 100 [(sv v_0_b), .int .i64 y10.2]]) hS Tryz.func159 (fun S h1 h2 h3 => (spec_l93Reg_ok hy11 (hS.keepS q_0_b h1) h2 (fun b hb => (h1 b hb).2))) z z ?_ z (by kernel_rfl) z z)
  rintro ⟨⟩ W hS
  refine .q z (.nil (.seq (.region (.q z ?_))))
  have ⟨y12, hy12, h⟩ := bnd h
  refine .c (.callS2 (L0 := [.box g_0 100 [(sv v_0_b), .int .i64 y11.2]]) hS Tryz.func159 (fun S h1 h2 h3 => (spec_l93Reg_ok hy12 (hS.keepS q_0_b h1) h2 (fun b hb => (h1 b hb).2))) z z ?_ z (by kernel_rfl) z z)
  rintro ⟨⟩ W hS
  refine .q z (.nil (.seq (.region (.q z (.q z (.q z (.q z ?_)))))))
  have ⟨y13, hy13, h⟩ := bnd h
  refine .c (.callS2 (L0 := [.box g_0 100 [(sv v_0_b), .int .i64 y12.2]]) hS Tryz.func161 (fun S h1 h2 h3 => (spec_l91Op_ok hy13 (hS.keepS q_0_b h1) h2 (fun b hb => (h1 b hb).2))) z z ?_ z (by kernel_rfl) z z)
  rintro ⟨⟩ W hS
  refine .s (bs T.s126 z z) z (.c (.st T.t126 hS.p1 z z z ?_ z z z z z))
  intro W hS
  cases h
  exact .nil (.ret (fin_ret (vs := [_]) () (rc hS T.t126 z rn z z) z (hS.to [1] z)))
 have h := sel_f hb h
 refine .seq (.region (.q z (.q z (.nil (.cond z (fun hb => ?_) (fun hb => ?_))))))
 ·have h := sel_t hb h
  refine .seq (.region (.q z (.q z ?_)))
  have ⟨y14, hy14, h⟩ := bnd h
  refine .c (.callS2 (L0 := [.box g_0 100 [(sv v_0_b), .int .i64 y1.2]]) hS Tryz.func36 (fun S h1 h2 h3 => (spec_l6Rd_pick_ok hy14 (hS.keepS q_0_b h1) h2 (fun b hb => (h1 b hb).2))) z z ?_ z (by kernel_rfl) z z)
  rintro ⟨⟩ W hS
  refine .s (bs T.s126 z z) z (.c (.st T.t126 hS.p1 z z z ?_ z z z z z))
  intro W hS
  cases h
  exact .nil (.ret (fin_ret (vs := [_]) () (rc hS T.t126 z rn z z) z (hS.to [1] z)))
 have h := sel_f hb h
 refine .seq (.region (.q z (.q z (.nil (.cond z (fun hb => ?_) (fun hb => ?_))))))
 ·have h := sel_t hb h
  refine .seq (.region (.q z ?_))
  have ⟨y15, hy15, h⟩ := bnd h
  refine .c (.callS2 (L0 := [.box g_0 100 [(sv v_0_b), .int .i64 y1.2]]) hS Tryz.func159 (fun S h1 h2 h3 => (spec_l93Reg_ok hy15 (hS.keepS q_0_b h1) h2 (fun b hb => (h1 b hb).2))) z z ?_ z (by kernel_rfl) z z)
  rintro ⟨⟩ W hS
  refine .q z (.nil (.seq (.region (.q z (.q z (.q z ?_))))))
  have ⟨y16, hy16, h⟩ := bnd h
  refine .c (.callS2 (L0 := [.box g_0 100 [(sv v_0_b), .int .i64 y15.2]]) hS Tryz.func36 (fun S h1 h2 h3 => (spec_l6Rd_pick_ok hy16 (hS.keepS q_0_b h1) h2 (fun b hb => (h1 b hb).2))) z z ?_ z (by kernel_rfl) z z)
  rintro ⟨⟩ W hS
  refine .s (bs T.s126 z z) z (.c (.st T.t126 hS.p1 z z z ?_ z z z z z))
  intro W hS
  cases h
  exact .nil (.ret (fin_ret (vs := [_]) () (rc hS T.t126 z rn z z) z (hS.to [1] z)))
 have h := sel_f hb h
 refine .seq (.region (.q z (.q z (.nil (.cond z (fun hb => ?_) (fun hb => ?_))))))
 ·have h := sel_t hb h
  refine .seq (.region (.q z ?_))
  have ⟨y17, hy17, h⟩ := bnd h
  refine .c (.callS2 (L0 := [.box g_0 100 [(sv v_0_b), .int .i64 y1.2]]) hS Tryz.func159 (fun S h1 h2 h3 => (spec_l93Reg_ok hy17 (hS.keepS q_0_b h1) h2 (fun b hb => (h1 b hb).2))) z z ?_ z (by kernel_rfl) z z)
  rintro ⟨⟩ W hS
  refine .q z (.nil (.seq (.region (.q z (.q z ?_)))))
  have ⟨y18, hy18, h⟩ := bnd h
  refine .c (.callS2 (L0 := [.box g_0 100 [(sv v_0_b), .int .i64 y17.2]]) hS Tryz.func36 (fun S h1 h2 h3 => (spec_l6Rd_pick_ok hy18 (hS.keepS q_0_b h1) h2 (fun b hb => (h1 b hb).2))) z z ?_ z (by kernel_rfl) z z)
  rintro ⟨⟩ W hS
  refine .s (bs T.s126 z z) z (.c (.st T.t126 hS.p1 z z z ?_ z z z z z))
  intro W hS
  cases h
  exact .nil (.ret (fin_ret (vs := [_]) () (rc hS T.t126 z rn z z) z (hS.to [1] z)))
 have h := sel_f hb h
 refine .seq (.region (.q z (.q z (.nil (.cond z (fun hb => ?_) (fun hb => ?_))))))
 ·have h := sel_t hb h
  refine .seq (.region (.q z ?_))
  have ⟨y19, hy19, h⟩ := bnd h
  refine .c (.callS2 (L0 := [.box g_0 100 [(sv v_0_b), .int .i64 y1.2]]) hS Tryz.func159 (fun S h1 h2 h3 => (spec_l93Reg_ok hy19 (hS.keepS q_0_b h1) h2 (fun b hb => (h1 b hb).2))) z z ?_ z (by kernel_rfl) z z)
  rintro ⟨⟩ W hS
  refine .q z (.nil (.seq (.region (.q z (.q z ?_)))))
  have ⟨y20, hy20, h⟩ := bnd h
  refine .c (.callS2 (L0 := [.box g_0 100 [(sv v_0_b), .int .i64 y19.2]]) hS Tryz.func36 (fun S h1 h2 h3 => (spec_l6Rd_pick_ok hy20 (hS.keepS q_0_b h1) h2 (fun b hb => (h1 b hb).2))) z z ?_ z (by kernel_rfl) z z)
  rintro ⟨⟩ W hS
  refine .s (bs T.s126 z z) z (.c (.st T.t126 hS.p1 z z z ?_ z z z z z))
  intro W hS
  cases h
  exact .nil (.ret (fin_ret (vs := [_]) () (rc hS T.t126 z rn z z) z (hS.to [1] z)))
 have h := sel_f hb h
 refine .skip (.seq (.seq (.region (.q z ?_))))
 have ⟨y21, hy21, h⟩ := bnd h
 refine .c (.callS2 (L0 := [.box g_0 100 [(sv v_0_b), .int .i64 y1.2]]) hS Tryz.func36 (fun S h1 h2 h3 => (spec_l6Rd_pick_ok hy21 (hS.keepS q_0_b h1) h2 (fun b hb => (h1 b hb).2))) z z ?_ z (by kernel_rfl) z z)
 rintro ⟨⟩ W hS
 refine .q z (.nil (.cond z (fun hb => ?_) (fun hb => ?_)))
 ·have h := sel_t hb h
  refine .seq (.region (.s (bs T.s126 z z) z (.c (.st T.t126 hS.p1 z z z ?_ z z z z z))))
  intro W hS
  cases h
  exact .nil (.ret (fin_ret (vs := [_]) () (rc hS T.t126 z rn z z) z (hS.to [1] z)))
 have h := sel_f hb h
 refine .skip (.seq (.region (.q z ?_)))
 have ⟨y22, hy22, h⟩ := bnd h
 refine .c (.callS2 (L0 := [.box g_0 100 [(sv v_0_b), .int .i64 y21.2]]) hS Tryz.func159 (fun S h1 h2 h3 => (spec_l93Reg_ok hy22 (hS.keepS q_0_b h1) h2 (fun b hb => (h1 b hb).2))) z z ?_ z (by kernel_rfl) z z)
 rintro ⟨⟩ W hS
 refine .s (bs T.s126 z z) z (.c (.st T.t126 hS.p1 z z z ?_ z z z z z))
 intro W hS
 cases h
 exact .nil (.ret (fin_ret (vs := [_]) () (rc hS T.t126 z rn z z) z (hS.to [1] z)))
theorem spec_l93Random_ok {a0 : L6Rd} {v_0_b : Hd} {g_0 : Nat} {S : Nat → Prop} {w : World} {r : (List Quad) × Int} (h : spec_l93Random a0 = some r) (q_0_b : RV w (Old S w) (sv v_0_b) 5 1 (D.int .u8) a0.b) (hO : Owns w [.box g_0 100 [(sv v_0_b), .int .i64 a0.p]] S) (hlt : ∀ b, S b → b < w.heap.size) : Calls Tryz.prog 119 #[.pointer (some ⟨g_0, 0, none⟩)] w (Ret S w (fun s : Hd => (sv s)) (fun s => [.box g_0 100 [(sv v_0_b), .int .i64 r.2], rowV (sv s) 126 5 dQuad r.1])) := by
 unfold spec_l93Random at h
 refine enter Tryz.func119 z z ?_
 have hS := Sep.startM hO hlt
 refine .seq (.region (.q z (.nil (.seq (.region (.q z ?_))))))
 have ⟨y1, hy1, h⟩ := bnd h
 refine .c (.callS2 (L0 := [.box g_0 100 [(sv v_0_b), .int .i64 a0.p]]) hS Tryz.func36 (fun S h1 h2 h3 => (spec_l6Rd_pick_ok hy1 (hS.keepS q_0_b h1) h2 (fun b hb => (h1 b hb).2))) z z ?_ z (by kernel_rfl) z z)
 rintro ⟨⟩ W hS
 refine .q z (.q z (.nil (.seq (.region (.c (.liv [] dQuad T.u104 T.t126 hS z z z z ?_ z (fun _ => z) z z z z))))))
 intro v1 W hS
 refine .q z (.nil (.seq (.seq (.region (.q z (.nil (.block ?_)))))))
 have ⟨y2, hy2, h⟩ := bnd h
 refine .via (.iter (fun s1 E' W' => ∃ (v4 : Hd), SubL E' [(0, .pointer (some ⟨g_0, 0, none⟩)), (3, .int .i64 (w64 (1 + y1.1))), (4, (sv v4)), (5, .int .i64 s1.2.1)] ∧ Sep S w W' [.box g_0 100 [(sv v_0_b), .int .i64 s1.2.2], rowV (sv v4) 126 5 dQuad s1.1]) (fun y3 x E' W' => x = .exit 0 ∧ ∃ (v5 : Hd), SubL E' [(0, .pointer (some ⟨g_0, 0, none⟩)), (3, .int .i64 (w64 (1 + y1.1))), (4, (sv v5))] ∧ Sep S w W' [.box g_0 100 [(sv v_0_b), .int .i64 y3.2], rowV (sv v5) 126 5 dQuad y3.1]) hy2 ⟨v1, sb z, hS.to [1, 0] z⟩ ?_) ?_
 ·intro s1 y4 E W h hI
  obtain ⟨v3, hE, hS⟩ := hI
  refine CW.sub hE ?_
  unfold spec_l93Random_b1 at h
  refine .seq (.seq (.region (.q z (.q z (.q z (.q z (.nil (.cond z (fun hb => ?_) (fun hb => ?_)))))))))
  ·have h := sel_t hb h
   refine .skip (.seq (.block (.region (.q z (.q z (.q z ?_))))))
   have ⟨y5, hy5, h⟩ := bnd h
   refine .c (.callS2 (L0 := [.box g_0 100 [(sv v_0_b), .int .i64 s1.2.2]]) hS Tryz.func146 (fun S h1 h2 h3 => (spec_l93Quad_ok hy5 (hS.keepS q_0_b h1) h2 (fun b hb => (h1 b hb).2))) z z ?_ z (by kernel_rfl) z z)
   rintro ⟨⟩ W hS
   refine .c (.liv [y5.1] dQuad T.u104 T.t126 hS z z z z ?_ z (fun _ => z) z z z z)
   intro v6 W hS
   have ⟨r1, hr1, h⟩ := bnd h
   have hT0 := hS.p2
   refine .c (.apprv hr1 hT0 hT0.p1.lendv (fun _ => z) T.u104 T.t126 z z z ?_ z z z z z)
   intro v7 W hS
   refine .q z (.nil (.region (.q z (.q z (.q z (.nil ?_))))))
   cases h
   exact ⟨z, v7, sb z, hS.to [2, 0] z⟩
  have h := sel_f hb h
  refine .exit ?_
  cases h
  exact ⟨by simp, z, v3, sb z, hS.to [0, 0] z⟩
 intro x E W hJ
 obtain ⟨rfl, v8, hE, hS⟩ := hJ
 refine ⟨_, hE.sub, ?_⟩
 refine .seq (.seq (.region (.q z ?_)))
 have ⟨y6, hy6, h⟩ := bnd h
 refine .c (.callS2 (L0 := [.box g_0 100 [(sv v_0_b), .int .i64 y2.2]]) hS Tryz.func36 (fun S h1 h2 h3 => (spec_l6Rd_pick_ok hy6 (hS.keepS q_0_b h1) h2 (fun b hb => (h1 b hb).2))) z z ?_ z (by kernel_rfl) z z)
 rintro ⟨⟩ W hS
 refine .q z (.nil (.cond z (fun hb => ?_) (fun hb => ?_)))
 ·have h := sel_t hb h
  refine .seq (.region (.q z (.q z (.q z ?_))))
  have ⟨y7, hy7, h⟩ := bnd h
  refine .c (.callS2 (L0 := [.box g_0 100 [(sv v_0_b), .int .i64 y6.2]]) hS Tryz.func36 (fun S h1 h2 h3 => (spec_l6Rd_pick_ok hy7 (hS.keepS q_0_b h1) h2 (fun b hb => (h1 b hb).2))) z z ?_ z (by kernel_rfl) z z)
  rintro ⟨⟩ W hS
  refine .s (bs T.s126 z z) z (.c (.liv [(Quad.mk 4 0 0 0 y7.1)] dQuad T.u104 T.t126 hS z z z z ?_ z (fun _ => z) z z z z))
  intro v9 W hS
  have ⟨r2, hr2, h⟩ := bnd h
  have hT0 := hS.p2
  refine .c (.apprv hr2 hT0 hT0.p1.lendv (fun _ => z) T.u104 T.t126 z z z ?_ z z z z z)
  intro v10 W hS
  cases h
  exact .q z (.nil (.ret (fin_ret (vs := [_]) v10 (rt z rn) z (hS.to [2, 0] z))))
 have h := sel_f hb h
 refine .skip (.seq (.region (.q z (.s (bs T.s126 z z) z (.c (.liv [(Quad.mk 10 0 0 0 0)] dQuad T.u104 T.t126 hS z z z z ?_ z (fun _ => z) z z z z))))))
 intro v11 W hS
 have ⟨r3, hr3, h⟩ := bnd h
 have hT0 := hS.p2
 refine .c (.apprv hr3 hT0 hT0.p1.lendv (fun _ => z) T.u104 T.t126 z z z ?_ z z z z z)
 intro v12 W hS
 cases h
 exact .q z (.nil (.ret (fin_ret (vs := [_]) v12 (rt z rn) z (hS.to [2, 0] z))))
def spec_l11Count_C (F : List Stmt → Option (Int)) : Prop := ∀ {a0 : List Stmt} {v_0 : Hd} {w : World} {r : Int} (h : F a0 = some r) (q_0 : RV w (Old No w) (sv v_0) 160 8 dStmt a0) , Calls Tryz.prog 150 #[(sv v_0)] w (Ret No w (fun s : Unit => .int .i64 r) (fun s => []))
theorem spec_l11Count_s {k : Nat} {F_spec_l11Count : List Stmt → Option (Int)} (ih_spec_l11Count : spec_l11Count_C F_spec_l11Count) : spec_l11Count_C (spec_l11Count_R k F_spec_l11Count) := by
 intro a0 v_0 w r h q_0
 unfold spec_l11Count_R at h
 refine enter Tryz.func150 z z ?_
 have hS := Sep.start w
 refine .seq (.region (.q z (.nil (.seq (.region (.q z (.nil (.seq (.seq (.region (.q z (.nil (.block ?_)))))))))))))
 have ⟨y1, hy1, h⟩ := bnd h
 refine .via (.iter (fun s1 E' W' => SubL E' [(0, (sv v_0)), (3, .int .i64 s1.1), (4, .int .i64 s1.2)] ∧ Sep No w W' []) (fun y2 x E' W' => x = .exit 0 ∧ SubL E' [(3, .int .i64 y2)] ∧ Sep No w W' []) hy1 ⟨sb z, hS.to [] z⟩ ?_) ?_
 ·intro s1 y3 E W h hI
  obtain ⟨hE, hS⟩ := hI
  refine CW.sub hE ?_
  unfold spec_l11Count_b1 at h
  refine .seq (.seq (.region (.q z (.q z (.s (lenv (hS.keep q_0) T.u134 z z) z (.q z (.nil ?_)))))))
  refine .cs z h ?_ ?_ <;> intro h
  ·refine .skip (.seq (.block (.rk 17 hS [] T.mix ?_)))
   intro W hS
   have hT := hS.to [] z
   refine .tp 0 z z hT (by kernel_rfl) (.tp 1 z z hT (by kernel_rfl) (.tp 2 z z hT (by kernel_rfl) (.tp 3 z z hT (by kernel_rfl) ?_)))
   have ⟨x1, hx1, h⟩ := bnd h
   obtain ⟨k1, hd, hck1⟩ := RV.el2 q_0 hx1
   have hd1 := raggE (eStmt _) hd
   obtain ⟨k1, rfl, hd2⟩ := rflat q_0 z hd1
   obtain ⟨k1, rfl, hd3⟩ := rflat q_0 z hd2
   obtain ⟨k1, rfl, hd4⟩ := rflat q_0 z hd3
   have hd5 := raggE (eExpr _) hd4
   obtain ⟨k1, rfl, hd6⟩ := rflat q_0 z hd5
   obtain ⟨k1, rfl, hd7⟩ := rflat q_0 z hd6
   obtain ⟨v1, k1, rfl, q1, hd8⟩ := rrowv q_0 hd7
   obtain ⟨v2, k1, rfl, q2, hd9⟩ := rrowv q_0 hd8
   obtain ⟨v3, k1, rfl, q3, hd10⟩ := rrowv q_0 hd9
   obtain rfl := rnil q_0 hd10
   refine .ts 4 z (fun W hT => ixv (hS.keep q_0) hx1 T.u134 T.t160 z z z) hT z (by kernel_rfl) (.ts 5 z (fun W hT => fe T.f160_4 z z z) hT z (by kernel_rfl) (.ts 6 z (fun W hT => lde (hck1 _ hT.agree) T.t134 z z z z z) hT z (by kernel_rfl) (.tp 9 z z hT (by kernel_rfl) (.tp 10 z z hT (by kernel_rfl) ?_))))
   have ⟨x2, hx2, h⟩ := bnd h
   obtain ⟨k2, hd, hck2⟩ := RV.el2 q_0 hx2
   have hd1 := raggE (eStmt _) hd
   obtain ⟨k2, rfl, hd2⟩ := rflat q_0 z hd1
   obtain ⟨k2, rfl, hd3⟩ := rflat q_0 z hd2
   obtain ⟨k2, rfl, hd4⟩ := rflat q_0 z hd3
   have hd5 := raggE (eExpr _) hd4
   obtain ⟨k2, rfl, hd6⟩ := rflat q_0 z hd5
   obtain ⟨k2, rfl, hd7⟩ := rflat q_0 z hd6
   obtain ⟨v4, k2, rfl, q4, hd8⟩ := rrowv q_0 hd7
   obtain ⟨v5, k2, rfl, q5, hd9⟩ := rrowv q_0 hd8
   obtain ⟨v6, k2, rfl, q6, hd10⟩ := rrowv q_0 hd9
   obtain rfl := rnil q_0 hd10
   refine .ts 11 z (fun W hT => ixv (hS.keep q_0) hx2 T.u134 T.t160 z z z) hT z (by kernel_rfl) (.ts 12 z (fun W hT => fe T.f160_5 z z z) hT z (by kernel_rfl) (.ts 13 z (fun W hT => lde (hck2 _ hT.agree) T.t134 z z z z z) hT z (by kernel_rfl) ?_))
   have ⟨y4, hy4, h⟩ := bnd h
   refine .by1 7 z (.call0 hS Tryz.func150 (ih_spec_l11Count hy4 (hS.keep (q2 _ q_0))) z z ?_ z (by kernel_rfl) z z) (by kernel_rfl)
   intro W hS
   have hT := hS.to [] z
   refine ⟨fun _ => hT, ?_⟩
   refine .tp 8 z z hT (by kernel_rfl) ?_
   have ⟨y5, hy5, h⟩ := bnd h
   refine .by1 14 z (.call0 hS Tryz.func150 (ih_spec_l11Count hy5 (hS.keep (q6 _ q_0))) z z ?_ z (by kernel_rfl) z z) (by kernel_rfl)
   intro W hS
   have hT := hS.to [] z
   refine ⟨fun _ => hT, ?_⟩
   refine .tp 15 z z hT (by kernel_rfl) (.tp 16 z z hT (by kernel_rfl) (.done (.region (.q z (.q z (.q z (.nil ?_))))) (by kernel_rfl)))
   cases h
   exact ⟨z, sb z, hS.to [] z⟩
  refine .exit ?_
  cases h
  exact ⟨by simp, z, sb z, hS.to [] z⟩
 intro x E W hJ
 obtain ⟨rfl, hE, hS⟩ := hJ
 refine ⟨_, hE.sub, ?_⟩
 obtain rfl := Option.some.inj h
 exact .seq (.region (.q z (.q z (.nil (.ret (fin_ret (vs := [_]) () (rt z rn) z (hS.to [] z)))))))
theorem scc_spec_l11Count_ok (k : Nat) : spec_l11Count_C (spec_l11Count k) := by
  induction k with
  | zero => exact by intro a0 v_0 w r h q_0; exact no h
  | succ k ih => exact spec_l11Count_s (k := k) ih
theorem spec_l11Count_ok {k : Nat} : spec_l11Count_C (spec_l11Count k) := (scc_spec_l11Count_ok k)
theorem spec_l6In_ok {a0 : Int} {a1 : Int} {a2 : Int} {w : World} {r : Bool} (h : spec_l6In a0 a1 a2 = some r) : Calls Tryz.prog 48 #[.int .i64 a0, .int .i64 a1, .int .i64 a2] w (Ret No w (fun s : Unit => .bool r) (fun s => [])) := by
 unfold spec_l6In at h
 refine enter Tryz.func48 z z ?_
 have hS := Sep.start w
 refine .seq (.region (.q z (.nil (.seq (.region (.q z (.q z (.q z (.q z (.chunk 4 14 ((decide (a0 ≥ a1)) && (decide (a0 ≤ a2))) hS ?_ ?_))))))))))
 ·refine .both (decide (a0 ≥ a1)) (fun hb => ?_) (fun hb => ?_)
  ·have hg1 := hb
   exact .g hg1 (.q z (.g hg1 (.q z (.g hg1 (.q z (.s (pkt hg1 z z z) z (.nil (ck 4 hS z (and_t hg1) z z)))) z)) z)) z
  exact .xx hb z (.xx hb z (.xx hb z (.s (pkf hb z z z) z (.nil (ck 4 hS z (and_f hb) z z)))))
 intro W hS
 cases h
 exact .q z (.nil (.ret (fin_ret (vs := [_]) () (rt z rn) z (hS.to [] z))))
theorem spec_l11Var_ok {a0 : Stmt} {a1 : Bool} {v_0_Expr_Args : Hd} {v_0_Body : Hd} {v_0_Else : Hd} {w : World} {r : Bool} (h : spec_l11Var a0 a1 = some r) (q_0_Expr_Args : RV w (Old No w) (sv v_0_Expr_Args) 158 3 dExpr a0.Expr.Args) (q_0_Body : RV w (Old No w) (sv v_0_Body) 160 8 dStmt a0.Body) (q_0_Else : RV w (Old No w) (sv v_0_Else) 160 8 dStmt a0.Else) : Calls Tryz.prog 193 #[.agg #[.int .i64 a0.Kind, .int .i64 a0.Var, .int .i64 a0.Box, .int .i64 a0.Expr.Op, .int .i64 a0.Expr.N, (sv v_0_Expr_Args), (sv v_0_Body), (sv v_0_Else)], .bool a1] w (Ret No w (fun s : Unit => .bool r) (fun s => [])) := by
 unfold spec_l11Var at h
 refine enter Tryz.func193 z z ?_
 have hS := Sep.start w
 refine .seq (.region (.c (.box hS z z ?_ z z)))
 intro g1 W hS
 refine .q z (.nil (.seq (.seq (.region (.q z (.nil ?_))))))
 refine .cs z h ?_ ?_ <;> intro h
 ·refine .seq (.region (.s (fa T.f160_1 z z z) z (.s (ld T.t3 hS z z z z z) z ?_)))
  have ⟨y1, hy1, h⟩ := bnd h
  refine .c (.call0 hS Tryz.func48 (spec_l6In_ok hy1) z z ?_ z (by kernel_rfl) z z)
  intro W hS
  obtain rfl := Option.some.inj h
  exact .q z (.nil (.ret (fin_ret (vs := [_]) () (rt z rn) z (hS.to [] z))))
 cases h
 exact .skip (.seq (.region (.s (fa T.f160_1 z z z) z (.s (ld T.t3 hS z z z z z) z (.q z (.q z (.nil (.ret (fin_ret (vs := [_]) () (rt z rn) z (hS.to [] z))))))))))
theorem spec_l11Box_ok {a0 : Stmt} {a1 : Bool} {v_0_Expr_Args : Hd} {v_0_Body : Hd} {v_0_Else : Hd} {w : World} {r : Bool} (h : spec_l11Box a0 a1 = some r) (q_0_Expr_Args : RV w (Old No w) (sv v_0_Expr_Args) 158 3 dExpr a0.Expr.Args) (q_0_Body : RV w (Old No w) (sv v_0_Body) 160 8 dStmt a0.Body) (q_0_Else : RV w (Old No w) (sv v_0_Else) 160 8 dStmt a0.Else) : Calls Tryz.prog 194 #[.agg #[.int .i64 a0.Kind, .int .i64 a0.Var, .int .i64 a0.Box, .int .i64 a0.Expr.Op, .int .i64 a0.Expr.N, (sv v_0_Expr_Args), (sv v_0_Body), (sv v_0_Else)], .bool a1] w (Ret No w (fun s : Unit => .bool r) (fun s => [])) := by
 unfold spec_l11Box at h
 refine enter Tryz.func194 z z ?_
 have hS := Sep.start w
 refine .seq (.region (.c (.box hS z z ?_ z z)))
 intro g1 W hS
 refine .q z (.nil (.seq (.seq (.region (.q z (.nil ?_))))))
 refine .cs z h ?_ ?_ <;> intro h
 ·refine .seq (.region (.s (fa T.f160_2 z z z) z (.s (ld T.t3 hS z z z z z) z ?_)))
  have ⟨y1, hy1, h⟩ := bnd h
  refine .c (.call0 hS Tryz.func48 (spec_l6In_ok hy1) z z ?_ z (by kernel_rfl) z z)
  intro W hS
  obtain rfl := Option.some.inj h
  exact .q z (.nil (.ret (fin_ret (vs := [_]) () (rt z rn) z (hS.to [] z))))
 cases h
 exact .skip (.seq (.region (.s (fa T.f160_2 z z z) z (.s (ld T.t3 hS z z z z z) z (.q z (.q z (.nil (.ret (fin_ret (vs := [_]) () (rt z rn) z (hS.to [] z))))))))))
theorem spec_OpValid_ok {a0 : Int} {w : World} {r : Bool} (h : spec_OpValid a0 = some r) : Calls Tryz.prog 155 #[.int .i64 a0] w (Ret No w (fun s : Unit => .bool r) (fun s => [])) := by
 unfold spec_OpValid at h
 refine enter Tryz.func155 z z ?_
 have hS := Sep.start w
 refine .seq (.region (.q z (.nil (.seq (.region (.q z ?_))))))
 have ⟨y1, hy1, h⟩ := bnd h
 refine .c (.call0 hS Tryz.func48 (spec_l6In_ok hy1) z z ?_ z (by kernel_rfl) z z)
 intro W hS
 obtain rfl := Option.some.inj h
 exact .q z (.nil (.ret (fin_ret (vs := [_]) () (rt z rn) z (hS.to [] z))))
def spec_l4Ok_C (F : Expr → Int → Option (Bool)) : Prop := ∀ {a0 : Expr} {a1 : Int} {v_0_Args : Hd} {w : World} {r : Bool} (h : F a0 a1 = some r) (q_0_Args : RV w (Old No w) (sv v_0_Args) 158 3 dExpr a0.Args) , Calls Tryz.prog 209 #[.agg #[.int .i64 a0.Op, .int .i64 a0.N, (sv v_0_Args)], .int .i64 a1] w (Ret No w (fun s : Unit => .bool r) (fun s => []))
theorem spec_l4Ok_s {k : Nat} {F_spec_l4Ok : Expr → Int → Option (Bool)} (ih_spec_l4Ok : spec_l4Ok_C F_spec_l4Ok) : spec_l4Ok_C (spec_l4Ok_R k F_spec_l4Ok) := by
 intro a0 a1 v_0_Args w r h q_0_Args
 unfold spec_l4Ok_R at h
 refine enter Tryz.func209 z z ?_
 have hS := Sep.start w
 refine .seq (.region (.c (.box hS z z ?_ z z)))
 intro g1 W hS
 refine .q z (.nil (.seq (.seq (.region (.q z (.q z (.nil ?_)))))))
 refine .cs z h ?_ ?_ <;> intro h
 ·obtain rfl := Option.some.inj h
  exact .seq (.region (.q z (.nil (.ret (fin_ret (vs := [_]) () (rt z rn) z (hS.to [] z))))))
 refine .skip (.seq (.seq (.region (.s (fa T.f158_0 z z z) z (.s (ld T.t3 hS z z z z z) z (.q z (.nil ?_)))))))
 refine .cs z h ?_ ?_ <;> intro h
 ·refine .seq (.region (.s (fa T.f158_1 z z z) z (.s (ld T.t3 hS z z z z z) z ?_)))
  have ⟨y1, hy1, h⟩ := bnd h
  refine .c (.call0 hS Tryz.func48 (spec_l6In_ok hy1) z z ?_ z (by kernel_rfl) z z)
  intro W hS
  refine .q z (.chunk 5 18 (y1 && ((a0.Args.length : Int) == 0)) hS ?_ ?_)
  ·refine .both (y1) (fun hb => ?_) (fun hb => ?_)
   ·have hg1 := hb
    exact .g hg1 (.s (fa T.f158_2 z z z) z (.g hg1 (.s (ld T.t156 hS z z z z z) z (.g hg1 (.s (lenv (hS.keep q_0_Args) T.u156 z z) z (.g hg1 (.q z (.s (pkt hg1 z z z) z (.nil (ck 5 hS z (and_t hg1) z z)))) z)) z)) z)) z
   exact .xx hb z (.xx hb z (.xx hb z (.xx hb z (.s (pkf hb z z z) z (.nil (ck 5 hS z (and_f hb) z z))))))
  intro W hS
  cases h
  exact .q z (.nil (.ret (fin_ret (vs := [_]) () (rt z rn) z (hS.to [] z))))
 refine .skip (.seq (.seq (.region (.s (fa T.f158_0 z z z) z (.s (ld T.t3 hS z z z z z) z (.q z (.nil ?_)))))))
 refine .cs z h ?_ ?_ <;> intro h
 ·refine .seq (.region (.s (fa T.f158_1 z z z) z (.s (ld T.t3 hS z z z z z) z ?_)))
  have ⟨y2, hy2, h⟩ := bnd h
  refine .c (.call0 hS Tryz.func48 (spec_l6In_ok hy2) z z ?_ z (by kernel_rfl) z z)
  intro W hS
  refine .q z (.chunk 5 30 (y2 && ((a0.Args.length : Int) == 0)) hS ?_ ?_)
  ·refine .both (y2) (fun hb => ?_) (fun hb => ?_)
   ·have hg2 := hb
    exact .g hg2 (.s (fa T.f158_2 z z z) z (.g hg2 (.s (ld T.t156 hS z z z z z) z (.g hg2 (.s (lenv (hS.keep q_0_Args) T.u156 z z) z (.g hg2 (.q z (.s (pkt hg2 z z z) z (.nil (ck 5 hS z (and_t hg2) z z)))) z)) z)) z)) z
   exact .xx hb z (.xx hb z (.xx hb z (.xx hb z (.s (pkf hb z z z) z (.nil (ck 5 hS z (and_f hb) z z))))))
  intro W hS
  cases h
  exact .q z (.nil (.ret (fin_ret (vs := [_]) () (rt z rn) z (hS.to [] z))))
 refine .skip (.seq (.region (.s (fa T.f158_0 z z z) z (.s (ld T.t3 hS z z z z z) z ?_))))
 have ⟨y3, hy3, h⟩ := bnd h
 refine .c (.call0 hS Tryz.func155 (spec_OpValid_ok hy3) z z ?_ z (by kernel_rfl) z z)
 intro W hS
 refine .q z (.chunk 4 38 (y3 && (a0.N == 0)) hS ?_ ?_)
 ·refine .both (y3) (fun hb => ?_) (fun hb => ?_)
  ·have hg3 := hb
   exact .g hg3 (.s (fa T.f158_1 z z z) z (.g hg3 (.s (ld T.t3 hS z z z z z) z (.g hg3 (.q z (.s (pkt hg3 z z z) z (.nil (ck 4 hS z (and_t hg3) z z)))) z)) z)) z
  exact .xx hb z (.xx hb z (.xx hb z (.s (pkf hb z z z) z (.nil (ck 4 hS z (and_f hb) z z)))))
 intro W hS
 refine .q z (.chunk 5 44 ((y3 && (a0.N == 0)) && ((a0.Args.length : Int) == 2)) hS ?_ ?_)
 ·refine .both (y3 && (a0.N == 0)) (fun hb => ?_) (fun hb => ?_)
  ·have hg4 := hb
   exact .g hg4 (.s (fa T.f158_2 z z z) z (.g hg4 (.s (ld T.t156 hS z z z z z) z (.g hg4 (.s (lenv (hS.keep q_0_Args) T.u156 z z) z (.g hg4 (.q z (.s (pkt hg4 z z z) z (.nil (ck 5 hS z (and_t hg4) z z)))) z)) z)) z)) z
  exact .xx hb z (.xx hb z (.xx hb z (.xx hb z (.s (pkf hb z z z) z (.nil (ck 5 hS z (and_f hb) z z))))))
 intro W hS
 refine .q z ?_
 have ⟨b1, hb1, h⟩ := bnd h
 refine .chunk 8 53 (b1) hS ?_ ?_
 ·refine .both ((y3 && (a0.N == 0)) && ((a0.Args.length : Int) == 2)) (fun hb => ?_) (fun hb => ?_)
  ·have hg5 := hb
   have h := sel_t hb hb1
   refine .g hg5 (.s (fa T.f158_2 z z z) z (.g hg5 (.s (ld T.t156 hS z z z z z) z ?_) z)) z
   have ⟨x1, hx1, h⟩ := bnd h
   obtain ⟨k1, hd, hck1⟩ := RV.el2 q_0_Args hx1
   have hd1 := raggE (eExpr _) hd
   obtain ⟨k1, rfl, hd2⟩ := rflat q_0_Args z hd1
   obtain ⟨k1, rfl, hd3⟩ := rflat q_0_Args z hd2
   obtain ⟨v1, k1, rfl, q1, hd4⟩ := rrowv q_0_Args hd3
   obtain rfl := rnil q_0_Args hd4
   refine .g hg5 (.s (ixv (hS.keep q_0_Args) hx1 T.u156 T.t158 z z z) z (.g hg5 (.s (lde (hck1 _ hS.agree) T.t158 z z z z z) z (.g hg5 (.q z (.g hg5 (.q z ?_) z)) z)) z)) z
   have ⟨y4, hy4, h⟩ := bnd h
   refine .g hg5 (.c (.call0 hS Tryz.func209 (ih_spec_l4Ok hy4 (hS.keep (q1 _ q_0_Args))) z z ?_ z (by kernel_rfl) z z)) z
   intro W hS
   refine .s (pkt hg5 z z z) z ?_
   cases h
   exact .nil (ck 8 hS z z z z)
  refine .xx hb z (.xx hb z (.xx hb z (.xx hb z (.xx hb z (.xx hb z (.xx hb z ?_))))))
  cases sel_f hb hb1
  exact .s (pkf hb z z z) z (.nil (ck 8 hS z z z z))
 intro W hS
 refine .q z ?_
 have ⟨b2, hb2, h⟩ := bnd h
 refine .chunk 8 62 (b2) hS ?_ ?_
 ·refine .both (b1) (fun hb => ?_) (fun hb => ?_)
  ·have hg6 := hb
   have h := sel_t hb hb2
   refine .g hg6 (.s (fa T.f158_2 z z z) z (.g hg6 (.s (ld T.t156 hS z z z z z) z ?_) z)) z
   have ⟨x2, hx2, h⟩ := bnd h
   obtain ⟨k2, hd, hck2⟩ := RV.el2 q_0_Args hx2
   have hd1 := raggE (eExpr _) hd
   obtain ⟨k2, rfl, hd2⟩ := rflat q_0_Args z hd1
   obtain ⟨k2, rfl, hd3⟩ := rflat q_0_Args z hd2
   obtain ⟨v2, k2, rfl, q2, hd4⟩ := rrowv q_0_Args hd3
   obtain rfl := rnil q_0_Args hd4
   refine .g hg6 (.s (ixv (hS.keep q_0_Args) hx2 T.u156 T.t158 z z z) z (.g hg6 (.s (lde (hck2 _ hS.agree) T.t158 z z z z z) z (.g hg6 (.q z (.g hg6 (.q z ?_) z)) z)) z)) z
   have ⟨y5, hy5, h⟩ := bnd h
   refine .g hg6 (.c (.call0 hS Tryz.func209 (ih_spec_l4Ok hy5 (hS.keep (q2 _ q_0_Args))) z z ?_ z (by kernel_rfl) z z)) z
   intro W hS
   refine .s (pkt hg6 z z z) z ?_
   cases h
   exact .nil (ck 8 hS z z z z)
  refine .xx hb z (.xx hb z (.xx hb z (.xx hb z (.xx hb z (.xx hb z (.xx hb z ?_))))))
  cases sel_f hb hb2
  exact .s (pkf hb z z z) z (.nil (ck 8 hS z z z z))
 intro W hS
 obtain rfl := Option.some.inj h
 exact .q z (.nil (.ret (fin_ret (vs := [_]) () (rt z rn) z (hS.to [] z))))
theorem scc_spec_l4Ok_ok (k : Nat) : spec_l4Ok_C (spec_l4Ok k) := by
  induction k with
  | zero => exact by intro a0 a1 v_0_Args w r h q_0_Args; exact no h
  | succ k ih => exact spec_l4Ok_s (k := k) ih
theorem spec_l4Ok_ok {k : Nat} : spec_l4Ok_C (spec_l4Ok k) := (scc_spec_l4Ok_ok k)
theorem spec_ExprValid_ok {k : Nat} {a0 : Expr} {v_0_Args : Hd} {w : World} {r : Bool} (h : spec_ExprValid k a0 = some r) (q_0_Args : RV w (Old No w) (sv v_0_Args) 158 3 dExpr a0.Args) : Calls Tryz.prog 195 #[.agg #[.int .i64 a0.Op, .int .i64 a0.N, (sv v_0_Args)]] w (Ret No w (fun s : Unit => .bool r) (fun s => [])) := by
 unfold spec_ExprValid at h
 refine enter Tryz.func195 z z ?_
 have hS := Sep.start w
 refine .seq (.region (.c (.box hS z z ?_ z z)))
 intro g1 W hS
 refine .q z (.nil (.seq (.region (.s (ld T.t158 hS z z z z z) z ?_))))
 have ⟨y1, hy1, h⟩ := bnd h
 refine .c (.call0 hS Tryz.func209 (spec_l4Ok_ok hy1 (hS.keep q_0_Args)) z z ?_ z (by kernel_rfl) z z)
 intro W hS
 obtain rfl := Option.some.inj h
 exact .q z (.nil (.ret (fin_ret (vs := [_]) () (rt z rn) z (hS.to [] z))))
theorem spec_l11Plain_ok {a0 : Expr} {v_0_Args : Hd} {w : World} {r : Bool} (h : spec_l11Plain a0 = some r) (q_0_Args : RV w (Old No w) (sv v_0_Args) 158 3 dExpr a0.Args) : Calls Tryz.prog 208 #[.agg #[.int .i64 a0.Op, .int .i64 a0.N, (sv v_0_Args)]] w (Ret No w (fun s : Unit => .bool r) (fun s => [])) := by
 unfold spec_l11Plain at h
 refine enter Tryz.func208 z z ?_
 have hS := Sep.start w
 refine .seq (.region (.c (.box hS z z ?_ z z)))
 intro g1 W hS
 refine .q z (.nil (.seq (.region (.s (fa T.f158_0 z z z) z (.s (ld T.t3 hS z z z z z) z (.q z (.q z (.chunk 4 10 ((a0.Op == 0) && (a0.N == 0)) hS ?_ ?_))))))))
 ·refine .both (a0.Op == 0) (fun hb => ?_) (fun hb => ?_)
  ·have hg1 := hb
   exact .g hg1 (.s (fa T.f158_1 z z z) z (.g hg1 (.s (ld T.t3 hS z z z z z) z (.g hg1 (.q z (.s (pkt hg1 z z z) z (.nil (ck 4 hS z (and_t hg1) z z)))) z)) z)) z
  exact .xx hb z (.xx hb z (.xx hb z (.s (pkf hb z z z) z (.nil (ck 4 hS z (and_f hb) z z)))))
 intro W hS
 refine .q z (.chunk 5 16 (((a0.Op == 0) && (a0.N == 0)) && ((a0.Args.length : Int) == 0)) hS ?_ ?_)
 ·refine .both ((a0.Op == 0) && (a0.N == 0)) (fun hb => ?_) (fun hb => ?_)
  ·have hg2 := hb
   exact .g hg2 (.s (fa T.f158_2 z z z) z (.g hg2 (.s (ld T.t156 hS z z z z z) z (.g hg2 (.s (lenv (hS.keep q_0_Args) T.u156 z z) z (.g hg2 (.q z (.s (pkt hg2 z z z) z (.nil (ck 5 hS z (and_t hg2) z z)))) z)) z)) z)) z
  exact .xx hb z (.xx hb z (.xx hb z (.xx hb z (.s (pkf hb z z z) z (.nil (ck 5 hS z (and_f hb) z z))))))
 intro W hS
 cases h
 exact .q z (.nil (.ret (fin_ret (vs := [_]) () (rt z rn) z (hS.to [] z))))
theorem spec_l11Simple_ok {k : Nat} {a0 : Stmt} {v_0_Expr_Args : Hd} {v_0_Body : Hd} {v_0_Else : Hd} {w : World} {r : Bool} (h : spec_l11Simple k a0 = some r) (q_0_Expr_Args : RV w (Old No w) (sv v_0_Expr_Args) 158 3 dExpr a0.Expr.Args) (q_0_Body : RV w (Old No w) (sv v_0_Body) 160 8 dStmt a0.Body) (q_0_Else : RV w (Old No w) (sv v_0_Else) 160 8 dStmt a0.Else) : Calls Tryz.prog 192 #[.agg #[.int .i64 a0.Kind, .int .i64 a0.Var, .int .i64 a0.Box, .int .i64 a0.Expr.Op, .int .i64 a0.Expr.N, (sv v_0_Expr_Args), (sv v_0_Body), (sv v_0_Else)]] w (Ret No w (fun s : Unit => .bool r) (fun s => [])) := by
 unfold spec_l11Simple at h
 refine enter Tryz.func192 z z ?_
 have hS := Sep.start w
 refine .seq (.region (.c (.box hS z z ?_ z z)))
 intro g1 W hS
 refine .q z (.nil (.seq (.seq (.region (.s (fa T.f160_4 z z z) z (.s (ld T.t134 hS z z z z z) z (.s (lenv (hS.keep q_0_Body) T.u134 z z) z (.q z (.q z (.chunk 5 12 ((decide ((a0.Body.length : Int) > 0)) || (decide ((a0.Else.length : Int) > 0))) hS ?_ ?_))))))))))
 ·refine .both (decide ((a0.Body.length : Int) > 0)) (fun hb => ?_) (fun hb => ?_)
  ·exact .xx hb z (.xx hb z (.xx hb z (.xx hb z (.s (pkt hb z z z) z (.nil (ck 5 hS z (or_t hb) z z))))))
  have hg1 := hb
  exact .g hg1 (.s (fa T.f160_5 z z z) z (.g hg1 (.s (ld T.t134 hS z z z z z) z (.g hg1 (.s (lenv (hS.keep q_0_Else) T.u134 z z) z (.g hg1 (.q z (.s (pkf hg1 z z z) z (.nil (ck 5 hS z (or_f hg1) z z)))) z)) z)) z)) z
 intro W hS
 refine .nil ?_
 refine .cs z h ?_ ?_ <;> intro h
 ·obtain rfl := Option.some.inj h
  exact .seq (.region (.q z (.nil (.ret (fin_ret (vs := [_]) () (rt z rn) z (hS.to [] z))))))
 refine .skip (.seq (.seq (.region (.s (fa T.f160_0 z z z) z (.s (ld T.t3 hS z z z z z) z (.nil (.block (.seq (.region (.q z (.q z (.nil ?_))))))))))))
 refine .cs z h ?_ ?_ <;> intro h
 ·refine .seq (.region (.s (ld T.t160 hS z z z z z) z ?_))
  have ⟨y1, hy1, h⟩ := bnd h
  refine .c (.call0 hS Tryz.func193 (spec_l11Var_ok hy1 (hS.keep q_0_Expr_Args) (hS.keep q_0_Body) (hS.keep q_0_Else)) z z ?_ z (by kernel_rfl) z z)
  intro W hS
  refine .q z ?_
  have ⟨b1, hb1, h⟩ := bnd h
  refine .chunk 3 22 (b1) hS ?_ ?_
  ·refine .both (y1) (fun hb => ?_) (fun hb => ?_)
   ·have hg2 := hb
    have h := sel_t hb hb1
    refine .g hg2 (.s (ld T.t160 hS z z z z z) z ?_) z
    have ⟨y2, hy2, h⟩ := bnd h
    refine .g hg2 (.c (.call0 hS Tryz.func194 (spec_l11Box_ok hy2 (hS.keep q_0_Expr_Args) (hS.keep q_0_Body) (hS.keep q_0_Else)) z z ?_ z (by kernel_rfl) z z)) z
    intro W hS
    refine .s (pkt hg2 z z z) z ?_
    cases h
    exact .nil (ck 3 hS z z z z)
   refine .xx hb z (.xx hb z ?_)
   cases sel_f hb hb1
   exact .s (pkf hb z z z) z (.nil (ck 3 hS z z z z))
  intro W hS
  refine .q z ?_
  have ⟨b2, hb2, h⟩ := bnd h
  refine .chunk 4 27 (b2) hS ?_ ?_
  ·refine .both (b1) (fun hb => ?_) (fun hb => ?_)
   ·have hg3 := hb
    have h := sel_t hb hb2
    refine .g hg3 (.s (fa T.f160_3 z z z) z (.g hg3 (.s (ld T.t158 hS z z z z z) z ?_) z)) z
    have ⟨y3, hy3, h⟩ := bnd h
    refine .g hg3 (.c (.call0 hS Tryz.func195 (spec_ExprValid_ok hy3 (hS.keep q_0_Expr_Args)) z z ?_ z (by kernel_rfl) z z)) z
    intro W hS
    refine .s (pkt hg3 z z z) z ?_
    cases h
    exact .nil (ck 4 hS z z z z)
   refine .xx hb z (.xx hb z (.xx hb z ?_))
   cases sel_f hb hb2
   exact .s (pkf hb z z z) z (.nil (ck 4 hS z z z z))
  intro W hS
  obtain rfl := Option.some.inj h
  exact .q z (.nil (.ret (fin_ret (vs := [_]) () (rt z rn) z (hS.to [] z))))
 refine .seq (.region (.q z (.q z (.nil ?_))))
 refine .cs z h ?_ ?_ <;> intro h
 ·refine .seq (.region (.s (ld T.t160 hS z z z z z) z ?_))
  have ⟨y4, hy4, h⟩ := bnd h
  refine .c (.call0 hS Tryz.func193 (spec_l11Var_ok hy4 (hS.keep q_0_Expr_Args) (hS.keep q_0_Body) (hS.keep q_0_Else)) z z ?_ z (by kernel_rfl) z z)
  intro W hS
  refine .q z ?_
  have ⟨b3, hb3, h⟩ := bnd h
  refine .chunk 3 35 (b3) hS ?_ ?_
  ·refine .both (y4) (fun hb => ?_) (fun hb => ?_)
   ·have hg4 := hb
    have h := sel_t hb hb3
    refine .g hg4 (.s (ld T.t160 hS z z z z z) z ?_) z
    have ⟨y5, hy5, h⟩ := bnd h
    refine .g hg4 (.c (.call0 hS Tryz.func194 (spec_l11Box_ok hy5 (hS.keep q_0_Expr_Args) (hS.keep q_0_Body) (hS.keep q_0_Else)) z z ?_ z (by kernel_rfl) z z)) z
    intro W hS
    refine .s (pkt hg4 z z z) z ?_
    cases h
    exact .nil (ck 3 hS z z z z)
   refine .xx hb z (.xx hb z ?_)
   cases sel_f hb hb3
   exact .s (pkf hb z z z) z (.nil (ck 3 hS z z z z))
  intro W hS
  refine .q z ?_
  have ⟨b4, hb4, h⟩ := bnd h
  refine .chunk 4 40 (b4) hS ?_ ?_
  ·refine .both (b3) (fun hb => ?_) (fun hb => ?_)
   ·have hg5 := hb
    have h := sel_t hb hb4
    refine .g hg5 (.s (fa T.f160_3 z z z) z (.g hg5 (.s (ld T.t158 hS z z z z z) z ?_) z)) z
    have ⟨y6, hy6, h⟩ := bnd h
    refine .g hg5 (.c (.call0 hS Tryz.func195 (spec_ExprValid_ok hy6 (hS.keep q_0_Expr_Args)) z z ?_ z (by kernel_rfl) z z)) z
    intro W hS
    refine .s (pkt hg5 z z z) z ?_
    cases h
    exact .nil (ck 4 hS z z z z)
   refine .xx hb z (.xx hb z (.xx hb z ?_))
   cases sel_f hb hb4
   exact .s (pkf hb z z z) z (.nil (ck 4 hS z z z z))
  intro W hS
  obtain rfl := Option.some.inj h
  exact .q z (.nil (.ret (fin_ret (vs := [_]) () (rt z rn) z (hS.to [] z))))
 refine .seq (.region (.q z (.q z (.nil ?_))))
 refine .cs z h ?_ ?_ <;> intro h
 ·refine .seq (.region (.s (ld T.t160 hS z z z z z) z ?_))
  have ⟨y7, hy7, h⟩ := bnd h
  refine .c (.call0 hS Tryz.func193 (spec_l11Var_ok hy7 (hS.keep q_0_Expr_Args) (hS.keep q_0_Body) (hS.keep q_0_Else)) z z ?_ z (by kernel_rfl) z z)
  intro W hS
  refine .q z ?_
  have ⟨b5, hb5, h⟩ := bnd h
  refine .chunk 3 48 (b5) hS ?_ ?_
  ·refine .both (y7) (fun hb => ?_) (fun hb => ?_)
   ·have hg6 := hb
    have h := sel_t hb hb5
    refine .g hg6 (.s (ld T.t160 hS z z z z z) z ?_) z
    have ⟨y8, hy8, h⟩ := bnd h
    refine .g hg6 (.c (.call0 hS Tryz.func194 (spec_l11Box_ok hy8 (hS.keep q_0_Expr_Args) (hS.keep q_0_Body) (hS.keep q_0_Else)) z z ?_ z (by kernel_rfl) z z)) z
    intro W hS
    refine .s (pkt hg6 z z z) z ?_
    cases h
    exact .nil (ck 3 hS z z z z)
   refine .xx hb z (.xx hb z ?_)
   cases sel_f hb hb5
   exact .s (pkf hb z z z) z (.nil (ck 3 hS z z z z))
  intro W hS
  refine .q z ?_
  have ⟨b6, hb6, h⟩ := bnd h
  refine .chunk 4 53 (b6) hS ?_ ?_
  ·refine .both (b5) (fun hb => ?_) (fun hb => ?_)
   ·have hg7 := hb
    have h := sel_t hb hb6
    refine .g hg7 (.s (fa T.f160_3 z z z) z (.g hg7 (.s (ld T.t158 hS z z z z z) z ?_) z)) z
    have ⟨y9, hy9, h⟩ := bnd h
    refine .g hg7 (.c (.call0 hS Tryz.func208 (spec_l11Plain_ok hy9 (hS.keep q_0_Expr_Args)) z z ?_ z (by kernel_rfl) z z)) z
    intro W hS
    refine .s (pkt hg7 z z z) z ?_
    cases h
    exact .nil (ck 4 hS z z z z)
   refine .xx hb z (.xx hb z (.xx hb z ?_))
   cases sel_f hb hb6
   exact .s (pkf hb z z z) z (.nil (ck 4 hS z z z z))
  intro W hS
  obtain rfl := Option.some.inj h
  exact .q z (.nil (.ret (fin_ret (vs := [_]) () (rt z rn) z (hS.to [] z))))
 refine .seq (.region (.q z (.q z (.nil ?_))))
 refine .cs z h ?_ ?_ <;> intro h
 ·refine .seq (.region (.s (ld T.t160 hS z z z z z) z ?_))
  have ⟨y10, hy10, h⟩ := bnd h
  refine .c (.call0 hS Tryz.func193 (spec_l11Var_ok hy10 (hS.keep q_0_Expr_Args) (hS.keep q_0_Body) (hS.keep q_0_Else)) z z ?_ z (by kernel_rfl) z z)
  intro W hS
  refine .q z ?_
  have ⟨b7, hb7, h⟩ := bnd h
  refine .chunk 3 61 (b7) hS ?_ ?_
  ·refine .both (y10) (fun hb => ?_) (fun hb => ?_)
   ·have hg8 := hb
    have h := sel_t hb hb7
    refine .g hg8 (.s (ld T.t160 hS z z z z z) z ?_) z
    have ⟨y11, hy11, h⟩ := bnd h
    refine .g hg8 (.c (.call0 hS Tryz.func194 (spec_l11Box_ok hy11 (hS.keep q_0_Expr_Args) (hS.keep q_0_Body) (hS.keep q_0_Else)) z z ?_ z (by kernel_rfl) z z)) z
    intro W hS
    refine .s (pkt hg8 z z z) z ?_
    cases h
    exact .nil (ck 3 hS z z z z)
   refine .xx hb z (.xx hb z ?_)
   cases sel_f hb hb7
   exact .s (pkf hb z z z) z (.nil (ck 3 hS z z z z))
  intro W hS
  refine .q z ?_
  have ⟨b8, hb8, h⟩ := bnd h
  refine .chunk 4 66 (b8) hS ?_ ?_
  ·refine .both (b7) (fun hb => ?_) (fun hb => ?_)
   ·have hg9 := hb
    have h := sel_t hb hb8
    refine .g hg9 (.s (fa T.f160_3 z z z) z (.g hg9 (.s (ld T.t158 hS z z z z z) z ?_) z)) z
    have ⟨y12, hy12, h⟩ := bnd h
    refine .g hg9 (.c (.call0 hS Tryz.func208 (spec_l11Plain_ok hy12 (hS.keep q_0_Expr_Args)) z z ?_ z (by kernel_rfl) z z)) z
    intro W hS
    refine .s (pkt hg9 z z z) z ?_
    cases h
    exact .nil (ck 4 hS z z z z)
   refine .xx hb z (.xx hb z (.xx hb z ?_))
   cases sel_f hb hb8
   exact .s (pkf hb z z z) z (.nil (ck 4 hS z z z z))
  intro W hS
  obtain rfl := Option.some.inj h
  exact .q z (.nil (.ret (fin_ret (vs := [_]) () (rt z rn) z (hS.to [] z))))
 refine .seq (.region (.q z (.q z (.nil ?_))))
 refine .cs z h ?_ ?_ <;> intro h
 ·refine .seq (.region (.s (ld T.t160 hS z z z z z) z ?_))
  have ⟨y13, hy13, h⟩ := bnd h
  refine .c (.call0 hS Tryz.func193 (spec_l11Var_ok hy13 (hS.keep q_0_Expr_Args) (hS.keep q_0_Body) (hS.keep q_0_Else)) z z ?_ z (by kernel_rfl) z z)
  intro W hS
  refine .q z ?_
  have ⟨b9, hb9, h⟩ := bnd h
  refine .chunk 3 74 (b9) hS ?_ ?_
  ·refine .both (y13) (fun hb => ?_) (fun hb => ?_)
   ·have hg10 := hb
    have h := sel_t hb hb9
    refine .g hg10 (.s (ld T.t160 hS z z z z z) z ?_) z
    have ⟨y14, hy14, h⟩ := bnd h
    refine .g hg10 (.c (.call0 hS Tryz.func194 (spec_l11Box_ok hy14 (hS.keep q_0_Expr_Args) (hS.keep q_0_Body) (hS.keep q_0_Else)) z z ?_ z (by kernel_rfl) z z)) z
    intro W hS
    refine .s (pkt hg10 z z z) z ?_
    cases h
    exact .nil (ck 3 hS z z z z)
   refine .xx hb z (.xx hb z ?_)
   cases sel_f hb hb9
   exact .s (pkf hb z z z) z (.nil (ck 3 hS z z z z))
  intro W hS
  refine .q z ?_
  have ⟨b10, hb10, h⟩ := bnd h
  refine .chunk 4 79 (b10) hS ?_ ?_
  ·refine .both (b9) (fun hb => ?_) (fun hb => ?_)
   ·have hg11 := hb
    have h := sel_t hb hb10
    refine .g hg11 (.s (fa T.f160_3 z z z) z (.g hg11 (.s (ld T.t158 hS z z z z z) z ?_) z)) z
    have ⟨y15, hy15, h⟩ := bnd h
    refine .g hg11 (.c (.call0 hS Tryz.func195 (spec_ExprValid_ok hy15 (hS.keep q_0_Expr_Args)) z z ?_ z (by kernel_rfl) z z)) z
    intro W hS
    refine .s (pkt hg11 z z z) z ?_
    cases h
    exact .nil (ck 4 hS z z z z)
   refine .xx hb z (.xx hb z (.xx hb z ?_))
   cases sel_f hb hb10
   exact .s (pkf hb z z z) z (.nil (ck 4 hS z z z z))
  intro W hS
  obtain rfl := Option.some.inj h
  exact .q z (.nil (.ret (fin_ret (vs := [_]) () (rt z rn) z (hS.to [] z))))
 obtain rfl := Option.some.inj h
 exact .skip (.seq (.region (.q z (.nil (.ret (fin_ret (vs := [_]) () (rt z rn) z (hS.to [] z)))))))
def spec_l11Blocks_C (F : List Stmt → Int → Option (Bool)) : Prop := ∀ {a0 : List Stmt} {a1 : Int} {v_0 : Hd} {w : World} {r : Bool} (h : F a0 a1 = some r) (q_0 : RV w (Old No w) (sv v_0) 160 8 dStmt a0) , Calls Tryz.prog 162 #[(sv v_0), .int .i64 a1] w (Ret No w (fun s : Unit => .bool r) (fun s => []))
def spec_l11Ok_C (F : Stmt → Int → Option (Bool)) : Prop := ∀ {a0 : Stmt} {a1 : Int} {v_0_Expr_Args : Hd} {v_0_Body : Hd} {v_0_Else : Hd} {w : World} {r : Bool} (h : F a0 a1 = some r) (q_0_Expr_Args : RV w (Old No w) (sv v_0_Expr_Args) 158 3 dExpr a0.Expr.Args) (q_0_Body : RV w (Old No w) (sv v_0_Body) 160 8 dStmt a0.Body) (q_0_Else : RV w (Old No w) (sv v_0_Else) 160 8 dStmt a0.Else) , Calls Tryz.prog 171 #[.agg #[.int .i64 a0.Kind, .int .i64 a0.Var, .int .i64 a0.Box, .int .i64 a0.Expr.Op, .int .i64 a0.Expr.N, (sv v_0_Expr_Args), (sv v_0_Body), (sv v_0_Else)], .int .i64 a1] w (Ret No w (fun s : Unit => .bool r) (fun s => []))
def spec_l11Blocks_F (w : World) (r : Bool) : Env → World → Prop := Fin Tryz.prog Tryz.f162 No w (fun s : Unit => .bool r) (fun s => []) .ret
theorem spec_l11Blocks_s {k : Nat} {F_spec_l11Blocks : List Stmt → Int → Option (Bool)} {F_spec_l11Ok : Stmt → Int → Option (Bool)} (ih_spec_l11Blocks : spec_l11Blocks_C F_spec_l11Blocks) (ih_spec_l11Ok : spec_l11Ok_C F_spec_l11Ok) : spec_l11Blocks_C (spec_l11Blocks_R k F_spec_l11Blocks F_spec_l11Ok) := by
 intro a0 a1 v_0 w r h q_0
 unfold spec_l11Blocks_R at h
 refine enter Tryz.func162 z z ?_
 have hS := Sep.start w
 refine .seq (.region (.q z (.nil (.seq (.seq (.region (.q z (.nil (.block ?_)))))))))
 have ⟨y1, hy1, h⟩ := bnd h
 refine .via (.iter (fun s1 E' W' => SubL E' [(0, (sv v_0)), (1, .int .i64 a1), (5, .int .i64 s1)] ∧ Sep No w W' []) (fun y2 x E' W' => (match y2 with | .inl o1 => x = .ret ∧ spec_l11Blocks_F w o1 E' W' | .inr o2 => x = .exit 0 ∧ SubL E' [] ∧ Sep No w W' [])) hy1 ⟨sb rfl, hS.to [] rfl⟩ ?_) ?_
 ·intro s1 y3 E W h hI
  obtain ⟨hE, hS⟩ := hI
  refine CW.sub hE ?_
  unfold spec_l11Blocks_b1 at h
  refine .seq (.seq (.region (.q z (.q z (.s (lenv (hS.keep q_0) T.u134 z z) z (.q z (.nil ?_)))))))
  refine .cs z h ?_ ?_ <;> intro h
  ·refine .skip (.seq (.block (.seq (.region (.q z (.q z ?_))))))
   have ⟨x1, hx1, h⟩ := bnd h
   obtain ⟨k1, hd, hck1⟩ := RV.el2 q_0 hx1
   have hd1 := raggE (eStmt _) hd
   obtain ⟨k1, rfl, hd2⟩ := rflat q_0 z hd1
   obtain ⟨k1, rfl, hd3⟩ := rflat q_0 z hd2
   obtain ⟨k1, rfl, hd4⟩ := rflat q_0 z hd3
   have hd5 := raggE (eExpr _) hd4
   obtain ⟨k1, rfl, hd6⟩ := rflat q_0 z hd5
   obtain ⟨k1, rfl, hd7⟩ := rflat q_0 z hd6
   obtain ⟨v1, k1, rfl, q1, hd8⟩ := rrowv q_0 hd7
   obtain ⟨v2, k1, rfl, q2, hd9⟩ := rrowv q_0 hd8
   obtain ⟨v3, k1, rfl, q3, hd10⟩ := rrowv q_0 hd9
   obtain rfl := rnil q_0 hd10
   refine .s (ixv (hS.keep q_0) hx1 T.u134 T.t160 z z z) z (.s (lde (hck1 _ hS.agree) T.t160 z z z z z) z (.q z ?_))
   have ⟨y4, hy4, h⟩ := bnd h
   refine .c (.call0 hS Tryz.func171 (ih_spec_l11Ok hy4 (hS.keep (q1 _ q_0)) (hS.keep (q2 _ q_0)) (hS.keep (q3 _ q_0))) z z ?_ z (by kernel_rfl) z z)
   intro W hS
   refine .q z (.nil ?_)
   refine .cs z h ?_ ?_ <;> intro h
   ·refine .seq (.region (.q z (.nil (.ret ?_))))
    cases h
    exact ⟨by simp, z, fin_ret (vs := [_]) () (rt z rn) z (hS.to [] z)⟩
   refine .skip (.region (.q z (.q z (.q z (.nil ?_)))))
   cases h
   exact ⟨z, sb z, hS.to [] z⟩
  refine .exit ?_
  cases h
  exact ⟨by simp, z, sb z, hS.to [] z⟩
 intro x E W hJ
 rcases y1 with o3 | o4
 ·obtain ⟨rfl, hF⟩ := hJ
  refine ⟨_, fun _ _ h => h, ?_⟩
  cases h
  exact hF
 obtain ⟨rfl, hE, hS⟩ := hJ
 refine ⟨_, hE.sub, ?_⟩
 obtain rfl := Option.some.inj h
 exact .seq (.region (.q z (.nil (.ret (fin_ret (vs := [_]) () (rt z rn) z (hS.to [] z))))))
theorem spec_l11Ok_s {k : Nat} {F_spec_l11Blocks : List Stmt → Int → Option (Bool)} {F_spec_l11Ok : Stmt → Int → Option (Bool)} (ih_spec_l11Blocks : spec_l11Blocks_C F_spec_l11Blocks) (ih_spec_l11Ok : spec_l11Ok_C F_spec_l11Ok) : spec_l11Ok_C (spec_l11Ok_R k F_spec_l11Blocks F_spec_l11Ok) := by
 intro a0 a1 v_0_Expr_Args v_0_Body v_0_Else w r h q_0_Expr_Args q_0_Body q_0_Else
 unfold spec_l11Ok_R at h
 refine enter Tryz.func171 z z ?_
 have hS := Sep.start w
 refine .seq (.region (.c (.box hS z z ?_ z z)))
 intro g1 W hS
 refine .q z (.nil (.seq (.seq (.region (.s (fa T.f160_0 z z z) z (.s (ld T.t3 hS z z z z z) z (.q z (.q z (.chunk 4 12 ((a0.Kind != 2) && (a0.Kind != 3)) hS ?_ ?_)))))))))
 ·refine .both (a0.Kind != 2) (fun hb => ?_) (fun hb => ?_)
  ·have hg1 := hb
   exact .g hg1 (.s (fa T.f160_0 z z z) z (.g hg1 (.s (ld T.t3 hS z z z z z) z (.g hg1 (.q z (.s (pkt hg1 z z z) z (.nil (ck 4 hS z (and_t hg1) z z)))) z)) z)) z
  exact .xx hb z (.xx hb z (.xx hb z (.s (pkf hb z z z) z (.nil (ck 4 hS z (and_f hb) z z)))))
 intro W hS
 refine .nil ?_
 refine .cs z h ?_ ?_ <;> intro h
 ·refine .seq (.region (.s (ld T.t160 hS z z z z z) z ?_))
  have ⟨y1, hy1, h⟩ := bnd h
  refine .c (.call0 hS Tryz.func192 (spec_l11Simple_ok hy1 (hS.keep q_0_Expr_Args) (hS.keep q_0_Body) (hS.keep q_0_Else)) z z ?_ z (by kernel_rfl) z z)
  intro W hS
  obtain rfl := Option.some.inj h
  exact .q z (.nil (.ret (fin_ret (vs := [_]) () (rt z rn) z (hS.to [] z))))
 refine .skip (.seq (.seq (.region (.q z (.q z (.q z (.chunk 10 27 ((decide (a1 < 1)) || ((a0.Kind == 3) && (decide ((a0.Else.length : Int) > 0)))) hS ?_ ?_)))))))
 ·refine .both (decide (a1 < 1)) (fun hb => ?_) (fun hb => ?_)
  ·exact .xx hb z (.xx hb z (.xx hb z (.xx hb z (.xu (.xu (.xu (.xu (.xx hb z (.s (pkt hb z z z) z (.nil (ck 10 hS z (or_t hb) z z)))) z z) z z) z z) z z))))
  have hg2 := hb
  refine .g hg2 (.s (fa T.f160_0 z z z) z (.g hg2 (.s (ld T.t3 hS z z z z z) z (.g hg2 (.q z (.g hg2 (.q z (.chunk 5 26 ((a0.Kind == 3) && (decide ((a0.Else.length : Int) > 0))) hS ?_ ?_)) z)) z)) z)) z
  ·refine .both (a0.Kind == 3) (fun hb => ?_) (fun hb => ?_)
   ·have hg3 := hb
    exact .g hg3 (.s (fa T.f160_5 z z z) z (.g hg3 (.s (ld T.t134 hS z z z z z) z (.g hg3 (.s (lenv (hS.keep q_0_Else) T.u134 z z) z (.g hg3 (.q z (.g hg2 (.s (pkt hg3 z z z) z (.nil (ck 5 hS z (and_t hg3) z z))) z)) z)) z)) z)) z
   exact .xx hb z (.xx hb z (.xx hb z (.xx hb z (.g hg2 (.s (pkf hb z z z) z (.nil (ck 5 hS z (and_f hb) z z))) z))))
  intro W hS
  exact .s (pkf hg2 z z z) z (.nil (ck 6 hS z (or_f hg2) z z))
 intro W hS
 refine .nil ?_
 refine .cs z h ?_ ?_ <;> intro h
 ·obtain rfl := Option.some.inj h
  exact .seq (.region (.q z (.nil (.ret (fin_ret (vs := [_]) () (rt z rn) z (hS.to [] z))))))
 refine .skip (.seq (.region (.s (ld T.t160 hS z z z z z) z ?_)))
 have ⟨y2, hy2, h⟩ := bnd h
 refine .c (.call0 hS Tryz.func193 (spec_l11Var_ok hy2 (hS.keep q_0_Expr_Args) (hS.keep q_0_Body) (hS.keep q_0_Else)) z z ?_ z (by kernel_rfl) z z)
 intro W hS
 refine .q z ?_
 have ⟨b1, hb1, h⟩ := bnd h
 refine .chunk 3 33 (b1) hS ?_ ?_
 ·refine .both (y2) (fun hb => ?_) (fun hb => ?_)
  ·have hg4 := hb
   have h := sel_t hb hb1
   refine .g hg4 (.s (ld T.t160 hS z z z z z) z ?_) z
   have ⟨y3, hy3, h⟩ := bnd h
   refine .g hg4 (.c (.call0 hS Tryz.func194 (spec_l11Box_ok hy3 (hS.keep q_0_Expr_Args) (hS.keep q_0_Body) (hS.keep q_0_Else)) z z ?_ z (by kernel_rfl) z z)) z
   intro W hS
   refine .s (pkt hg4 z z z) z ?_
   cases h
   exact .nil (ck 3 hS z z z z)
  refine .xx hb z (.xx hb z ?_)
  cases sel_f hb hb1
  exact .s (pkf hb z z z) z (.nil (ck 3 hS z z z z))
 intro W hS
 refine .q z ?_
 have ⟨b2, hb2, h⟩ := bnd h
 refine .chunk 4 38 (b2) hS ?_ ?_
 ·refine .both (b1) (fun hb => ?_) (fun hb => ?_)
  ·have hg5 := hb
   have h := sel_t hb hb2
   refine .g hg5 (.s (fa T.f160_3 z z z) z (.g hg5 (.s (ld T.t158 hS z z z z z) z ?_) z)) z
   have ⟨y4, hy4, h⟩ := bnd h
   refine .g hg5 (.c (.call0 hS Tryz.func195 (spec_ExprValid_ok hy4 (hS.keep q_0_Expr_Args)) z z ?_ z (by kernel_rfl) z z)) z
   intro W hS
   refine .s (pkt hg5 z z z) z ?_
   cases h
   exact .nil (ck 4 hS z z z z)
  refine .xx hb z (.xx hb z (.xx hb z ?_))
  cases sel_f hb hb2
  exact .s (pkf hb z z z) z (.nil (ck 4 hS z z z z))
 intro W hS
 refine .q z ?_
 have ⟨b3, hb3, h⟩ := bnd h
 refine .chunk 6 45 (b3) hS ?_ ?_
 ·refine .both (b2) (fun hb => ?_) (fun hb => ?_)
  ·have hg6 := hb
   have h := sel_t hb hb3
   refine .g hg6 (.s (fa T.f160_4 z z z) z (.g hg6 (.s (ld T.t134 hS z z z z z) z (.g hg6 (.q z (.g hg6 (.q z ?_) z)) z)) z)) z
   have ⟨y5, hy5, h⟩ := bnd h
   refine .g hg6 (.c (.call0 hS Tryz.func162 (ih_spec_l11Blocks hy5 (hS.keep q_0_Body)) z z ?_ z (by kernel_rfl) z z)) z
   intro W hS
   refine .s (pkt hg6 z z z) z ?_
   cases h
   exact .nil (ck 6 hS z z z z)
  refine .xx hb z (.xx hb z (.xx hb z (.xx hb z (.xx hb z ?_))))
  cases sel_f hb hb3
  exact .s (pkf hb z z z) z (.nil (ck 6 hS z z z z))
 intro W hS
 refine .q z ?_
 have ⟨b4, hb4, h⟩ := bnd h
 refine .chunk 6 52 (b4) hS ?_ ?_
 ·refine .both (b3) (fun hb => ?_) (fun hb => ?_)
  ·have hg7 := hb
   have h := sel_t hb hb4
   refine .g hg7 (.s (fa T.f160_5 z z z) z (.g hg7 (.s (ld T.t134 hS z z z z z) z (.g hg7 (.q z (.g hg7 (.q z ?_) z)) z)) z)) z
   have ⟨y6, hy6, h⟩ := bnd h
   refine .g hg7 (.c (.call0 hS Tryz.func162 (ih_spec_l11Blocks hy6 (hS.keep q_0_Else)) z z ?_ z (by kernel_rfl) z z)) z
   intro W hS
   refine .s (pkt hg7 z z z) z ?_
   cases h
   exact .nil (ck 6 hS z z z z)
  refine .xx hb z (.xx hb z (.xx hb z (.xx hb z (.xx hb z ?_))))
  cases sel_f hb hb4
  exact .s (pkf hb z z z) z (.nil (ck 6 hS z z z z))
 intro W hS
 obtain rfl := Option.some.inj h
 exact .q z (.nil (.ret (fin_ret (vs := [_]) () (rt z rn) z (hS.to [] z))))
theorem scc_spec_l11Blocks_ok (k : Nat) : spec_l11Blocks_C (spec_l11Blocks k) ∧ spec_l11Ok_C (spec_l11Ok k) := by
  induction k with
  | zero => exact ⟨by intro a0 a1 v_0 w r h q_0; exact no h, by intro a0 a1 v_0_Expr_Args v_0_Body v_0_Else w r h q_0_Expr_Args q_0_Body q_0_Else; exact no h⟩
  | succ k ih => exact ⟨spec_l11Blocks_s (k := k) ih.1 ih.2, spec_l11Ok_s (k := k) ih.1 ih.2⟩
theorem spec_l11Blocks_ok {k : Nat} : spec_l11Blocks_C (spec_l11Blocks k) := (scc_spec_l11Blocks_ok k).1
theorem spec_StmtsValid_ok {k : Nat} {a0 : List Stmt} {v_0 : Hd} {w : World} {r : Bool} (h : spec_StmtsValid k a0 = some r) (q_0 : RV w (Old No w) (sv v_0) 160 8 dStmt a0) : Calls Tryz.prog 147 #[(sv v_0)] w (Ret No w (fun s : Unit => .bool r) (fun s => [])) := by
 unfold spec_StmtsValid at h
 refine enter Tryz.func147 z z ?_
 have hS := Sep.start w
 refine .seq (.region (.q z (.nil (.seq (.region (.q z ?_))))))
 have ⟨y1, hy1, h⟩ := bnd h
 refine .c (.call0 hS Tryz.func162 (spec_l11Blocks_ok hy1 (hS.keep q_0)) z z ?_ z (by kernel_rfl) z z)
 intro W hS
 refine .q z ?_
 have ⟨b1, hb1, h⟩ := bnd h
 refine .chunk 4 9 (b1) hS ?_ ?_
 ·refine .both (y1) (fun hb => ?_) (fun hb => ?_)
  ·have hg1 := hb
   have h := sel_t hb hb1
   refine .g hg1 (.q z ?_) z
   have ⟨y2, hy2, h⟩ := bnd h
   refine .g hg1 (.c (.call0 hS Tryz.func150 (spec_l11Count_ok hy2 (hS.keep q_0)) z z ?_ z (by kernel_rfl) z z)) z
   intro W hS
   refine .g hg1 (.q z (.s (pkt hg1 z z z) z ?_)) z
   cases h
   exact .nil (ck 4 hS z z z z)
  refine .xx hb z (.xx hb z (.xx hb z ?_))
  cases sel_f hb hb1
  exact .s (pkf hb z z z) z (.nil (ck 4 hS z z z z))
 intro W hS
 obtain rfl := Option.some.inj h
 exact .q z (.nil (.ret (fin_ret (vs := [_]) () (rt z rn) z (hS.to [] z))))
def spec_l22Expr_C (F : Expr → Int → Option ((List Quad))) : Prop := ∀ {a0 : Expr} {a1 : Int} {v_0_Args : Hd} {w : World} {r : (List Quad)} (h : F a0 a1 = some r) (q_0_Args : RV w (Old No w) (sv v_0_Args) 158 3 dExpr a0.Args) , Calls Tryz.prog 172 #[.agg #[.int .i64 a0.Op, .int .i64 a0.N, (sv v_0_Args)], .int .i64 a1] w (Ret No w (fun s : Hd => (sv s)) (fun s => [rowV (sv s) 126 5 dQuad r]))
theorem spec_l22Expr_s {k : Nat} {F_spec_l22Expr : Expr → Int → Option ((List Quad))} (ih_spec_l22Expr : spec_l22Expr_C F_spec_l22Expr) : spec_l22Expr_C (spec_l22Expr_R k F_spec_l22Expr) := by
 intro a0 a1 v_0_Args w r h q_0_Args
 unfold spec_l22Expr_R at h
 refine enter Tryz.func172 z z ?_
 have hS := Sep.start w
 refine .seq (.region (.c (.box hS z z ?_ z z)))
 intro g1 W hS
 refine .q z (.nil (.seq (.seq (.region (.s (fa T.f158_0 z z z) z (.s (ld T.t3 hS z z z z z) z (.q z (.nil ?_))))))))
 refine .cs z h ?_ ?_ <;> intro h
 ·refine .seq (.region (.q z (.s (fa T.f158_1 z z z) z (.s (ld T.t3 hS z z z z z) z (.s (bs T.s126 z z) z (.c (.liv [(Quad.mk 1 a1 0 0 a0.N)] dQuad T.u104 T.t126 hS z z z z ?_ z (fun _ => z) z z z z)))))))
  intro v1 W hS
  cases h
  exact .q z (.nil (.ret (fin_ret (vs := [_]) v1 (rt z rn) z (hS.to [0] z))))
 refine .skip (.seq (.seq (.region (.s (fa T.f158_0 z z z) z (.s (ld T.t3 hS z z z z z) z (.q z (.nil ?_)))))))
 refine .cs z h ?_ ?_ <;> intro h
 ·refine .seq (.region (.q z (.s (fa T.f158_1 z z z) z (.s (ld T.t3 hS z z z z z) z (.s (bs T.s126 z z) z (.c (.liv [(Quad.mk 2 a1 a0.N 0 0)] dQuad T.u104 T.t126 hS z z z z ?_ z (fun _ => z) z z z z)))))))
  intro v2 W hS
  cases h
  exact .q z (.nil (.ret (fin_ret (vs := [_]) v2 (rt z rn) z (hS.to [0] z))))
 refine .skip (.seq (.rk 15 hS [0] T.mix ?_))
 intro W hS
 have hT := hS.to [0] z
 refine .ts 0 z (fun W hT => fa T.f158_2 z z z) hT z (by kernel_rfl) (.ts 1 z (fun W hT => ld T.t156 hT z z z z z) hT z (by kernel_rfl) ?_)
 have ⟨x1, hx1, h⟩ := bnd h
 obtain ⟨k1, hd, hck1⟩ := RV.el2 q_0_Args hx1
 have hd1 := raggE (eExpr _) hd
 obtain ⟨k1, rfl, hd2⟩ := rflat q_0_Args z hd1
 obtain ⟨k1, rfl, hd3⟩ := rflat q_0_Args z hd2
 obtain ⟨v3, k1, rfl, q1, hd4⟩ := rrowv q_0_Args hd3
 obtain rfl := rnil q_0_Args hd4
 refine .ts 2 z (fun W hT => ixv (hS.keep q_0_Args) hx1 T.u156 T.t158 z z z) hT z (by kernel_rfl) (.ts 3 z (fun W hT => lde (hck1 _ hT.agree) T.t158 z z z z z) hT z (by kernel_rfl) (.tp 4 z z hT (by kernel_rfl) (.ts 6 z (fun W hT => fa T.f158_2 z z z) hT z (by kernel_rfl) (.ts 7 z (fun W hT => ld T.t156 hT z z z z z) hT z (by kernel_rfl) ?_))))
 have ⟨x2, hx2, h⟩ := bnd h
 obtain ⟨k2, hd, hck2⟩ := RV.el2 q_0_Args hx2
 have hd1 := raggE (eExpr _) hd
 obtain ⟨k2, rfl, hd2⟩ := rflat q_0_Args z hd1
 obtain ⟨k2, rfl, hd3⟩ := rflat q_0_Args z hd2
 obtain ⟨v4, k2, rfl, q2, hd4⟩ := rrowv q_0_Args hd3
 obtain rfl := rnil q_0_Args hd4
 refine .ts 8 z (fun W hT => ixv (hS.keep q_0_Args) hx2 T.u156 T.t158 z z z) hT z (by kernel_rfl) (.ts 9 z (fun W hT => lde (hck2 _ hT.agree) T.t158 z z z z z) hT z (by kernel_rfl) (.tp 10 z z hT (by kernel_rfl) (.tp 11 z z hT (by kernel_rfl) ?_)))
 have ⟨y1, hy1, h⟩ := bnd h
 refine .by1 5 z (.call1v hS Tryz.func172 (ih_spec_l22Expr hy1 (hS.keep (q1 _ q_0_Args))) z z ?_ z (by kernel_rfl) z z) (by kernel_rfl)
 intro v5 W hS
 have hT := hS.to [1] z
 refine ⟨fun _ => hT, ?_⟩
 have ⟨y2, hy2, h⟩ := bnd h
 refine .by1 12 z (.call1v hS Tryz.func172 (ih_spec_l22Expr hy2 (hS.keep (q2 _ q_0_Args))) z z ?_ z (by kernel_rfl) z z) (by kernel_rfl)
 intro v6 W hS
 have hT := hS.to [2] z
 refine ⟨fun _ => hT, ?_⟩
 have ⟨r1, hr1, h⟩ := bnd h
 have hT0 := hS.p1
 refine .by1 13 z (.apprv hr1 hT0 hT0.p1.lendv (fun _ => z) T.u104 T.t126 z z z ?_ z z z z z) (by kernel_rfl)
 intro v7 W hS
 have hT := hS.to [2] z
 refine ⟨fun _ => hT, ?_⟩
 refine .tp 14 z z hT (by kernel_rfl) (.done (.seq (.region (.q z (.q z (.q z (.q z (.q z (.s (fa T.f158_0 z z z) z (.s (ld T.t3 hS.p2 z z z z z) z (.s (bs T.s126 z z) z (.c (.liv [(Quad.mk 3 a1 a1 (w64 (a1 + 1)) a0.Op)] dQuad T.u104 T.t126 hS z z z z ?_ z (fun _ => z) z z z z)))))))))))) (by kernel_rfl))
 intro v8 W hS
 have ⟨r2, hr2, h⟩ := bnd h
 have hT0 := hS.p1
 refine .c (.apprv hr2 hT0 hT0.p1.lendv (fun _ => z) T.u104 T.t126 z z z ?_ z z z z z)
 intro v9 W hS
 obtain rfl := Option.some.inj h
 exact .q z (.nil (.ret (fin_ret (vs := [_]) v9 (rt z rn) z (hS.to [0] z))))
theorem scc_spec_l22Expr_ok (k : Nat) : spec_l22Expr_C (spec_l22Expr k) := by
  induction k with
  | zero => exact by intro a0 a1 v_0_Args w r h q_0_Args; exact no h
  | succ k ih => exact spec_l22Expr_s (k := k) ih
theorem spec_l22Expr_ok {k : Nat} : spec_l22Expr_C (spec_l22Expr k) := (scc_spec_l22Expr_ok k)
def spec_l22List_C (F : List Stmt → Int → Option ((List Quad))) : Prop := ∀ {a0 : List Stmt} {a1 : Int} {v_0 : Hd} {w : World} {r : (List Quad)} (h : F a0 a1 = some r) (q_0 : RV w (Old No w) (sv v_0) 160 8 dStmt a0) , Calls Tryz.prog 148 #[(sv v_0), .int .i64 a1] w (Ret No w (fun s : Hd => (sv s)) (fun s => [rowV (sv s) 126 5 dQuad r]))
def spec_l22Stmt_C (F : Stmt → Int → Option ((List Quad))) : Prop := ∀ {a0 : Stmt} {a1 : Int} {v_0_Expr_Args : Hd} {v_0_Body : Hd} {v_0_Else : Hd} {w : World} {r : (List Quad)} (h : F a0 a1 = some r) (q_0_Expr_Args : RV w (Old No w) (sv v_0_Expr_Args) 158 3 dExpr a0.Expr.Args) (q_0_Body : RV w (Old No w) (sv v_0_Body) 160 8 dStmt a0.Body) (q_0_Else : RV w (Old No w) (sv v_0_Else) 160 8 dStmt a0.Else) , Calls Tryz.prog 163 #[.agg #[.int .i64 a0.Kind, .int .i64 a0.Var, .int .i64 a0.Box, .int .i64 a0.Expr.Op, .int .i64 a0.Expr.N, (sv v_0_Expr_Args), (sv v_0_Body), (sv v_0_Else)], .int .i64 a1] w (Ret No w (fun s : Hd => (sv s)) (fun s => [rowV (sv s) 126 5 dQuad r]))
def spec_l22If_C (F : Stmt → Int → Option ((List Quad))) : Prop := ∀ {a0 : Stmt} {a1 : Int} {v_0_Expr_Args : Hd} {v_0_Body : Hd} {v_0_Else : Hd} {w : World} {r : (List Quad)} (h : F a0 a1 = some r) (q_0_Expr_Args : RV w (Old No w) (sv v_0_Expr_Args) 158 3 dExpr a0.Expr.Args) (q_0_Body : RV w (Old No w) (sv v_0_Body) 160 8 dStmt a0.Body) (q_0_Else : RV w (Old No w) (sv v_0_Else) 160 8 dStmt a0.Else) , Calls Tryz.prog 173 #[.agg #[.int .i64 a0.Kind, .int .i64 a0.Var, .int .i64 a0.Box, .int .i64 a0.Expr.Op, .int .i64 a0.Expr.N, (sv v_0_Expr_Args), (sv v_0_Body), (sv v_0_Else)], .int .i64 a1] w (Ret No w (fun s : Hd => (sv s)) (fun s => [rowV (sv s) 126 5 dQuad r]))
def spec_l22While_C (F : Stmt → Int → Option ((List Quad))) : Prop := ∀ {a0 : Stmt} {a1 : Int} {v_0_Expr_Args : Hd} {v_0_Body : Hd} {v_0_Else : Hd} {w : World} {r : (List Quad)} (h : F a0 a1 = some r) (q_0_Expr_Args : RV w (Old No w) (sv v_0_Expr_Args) 158 3 dExpr a0.Expr.Args) (q_0_Body : RV w (Old No w) (sv v_0_Body) 160 8 dStmt a0.Body) (q_0_Else : RV w (Old No w) (sv v_0_Else) 160 8 dStmt a0.Else) , Calls Tryz.prog 174 #[.agg #[.int .i64 a0.Kind, .int .i64 a0.Var, .int .i64 a0.Box, .int .i64 a0.Expr.Op, .int .i64 a0.Expr.N, (sv v_0_Expr_Args), (sv v_0_Body), (sv v_0_Else)], .int .i64 a1] w (Ret No w (fun s : Hd => (sv s)) (fun s => [rowV (sv s) 126 5 dQuad r]))
theorem spec_l22List_s {k : Nat} {F_spec_l22List : List Stmt → Int → Option ((List Quad))} {F_spec_l22Stmt : Stmt → Int → Option ((List Quad))} {F_spec_l22If : Stmt → Int → Option ((List Quad))} {F_spec_l22While : Stmt → Int → Option ((List Quad))} (ih_spec_l22List : spec_l22List_C F_spec_l22List) (ih_spec_l22Stmt : spec_l22Stmt_C F_spec_l22Stmt) (ih_spec_l22If : spec_l22If_C F_spec_l22If) (ih_spec_l22While : spec_l22While_C F_spec_l22While) : spec_l22List_C (spec_l22List_R k F_spec_l22List F_spec_l22Stmt F_spec_l22If F_spec_l22While) := by
 intro a0 a1 v_0 w r h q_0
 unfold spec_l22List_R at h
 refine enter Tryz.func148 z z ?_
 have hS := Sep.start w
 refine .seq (.region (.q z (.nil (.seq (.region (.c (.liv [] dQuad T.u104 T.t126 hS z z z z ?_ z (fun _ => z) z z z z)))))))
 intro v1 W hS
 refine .q z (.nil (.seq (.seq (.region (.q z (.nil (.block ?_)))))))
 have ⟨y1, hy1, h⟩ := bnd h
 refine .via (.iter (fun s1 E' W' => ∃ (v4 : Hd), SubL E' [(0, (sv v_0)), (1, .int .i64 a1), (5, (sv v4)), (6, .int .i64 s1.2)] ∧ Sep No w W' [rowV (sv v4) 126 5 dQuad s1.1]) (fun y2 x E' W' => x = .exit 0 ∧ ∃ (v5 : Hd), SubL E' [(5, (sv v5))] ∧ Sep No w W' [rowV (sv v5) 126 5 dQuad y2]) hy1 ⟨v1, sb z, hS.to [0] z⟩ ?_) ?_
 ·intro s1 y3 E W h hI
  obtain ⟨v3, hE, hS⟩ := hI
  refine CW.sub hE ?_
  unfold spec_l22List_b1 at h
  refine .seq (.seq (.region (.q z (.q z (.s (lenv (hS.keep q_0) T.u134 z z) z (.q z (.nil ?_)))))))
  refine .cs z h ?_ ?_ <;> intro h
  ·refine .skip (.seq (.block (.region (.q z (.q z (.q z ?_))))))
   have ⟨x1, hx1, h⟩ := bnd h
   obtain ⟨k1, hd, hck1⟩ := RV.el2 q_0 hx1
   have hd1 := raggE (eStmt _) hd
   obtain ⟨k1, rfl, hd2⟩ := rflat q_0 z hd1
   obtain ⟨k1, rfl, hd3⟩ := rflat q_0 z hd2
   obtain ⟨k1, rfl, hd4⟩ := rflat q_0 z hd3
   have hd5 := raggE (eExpr _) hd4
   obtain ⟨k1, rfl, hd6⟩ := rflat q_0 z hd5
   obtain ⟨k1, rfl, hd7⟩ := rflat q_0 z hd6
   obtain ⟨v6, k1, rfl, q5, hd8⟩ := rrowv q_0 hd7
   obtain ⟨v7, k1, rfl, q6, hd9⟩ := rrowv q_0 hd8
   obtain ⟨v8, k1, rfl, q7, hd10⟩ := rrowv q_0 hd9
   obtain rfl := rnil q_0 hd10
   refine .s (ixv (hS.keep q_0) hx1 T.u134 T.t160 z z z) z (.s (lde (hck1 _ hS.agree) T.t160 z z z z z) z (.q z (.q z (.s (lenv hS.lendv T.u104 z z) z (.q z ?_)))))
   have ⟨y4, hy4, h⟩ := bnd h
   refine .c (.call1v hS Tryz.func163 (ih_spec_l22Stmt hy4 (hS.keep (q5 _ q_0)) (hS.keep (q6 _ q_0)) (hS.keep (q7 _ q_0))) z z ?_ z (by kernel_rfl) z z)
   intro v9 W hS
   have ⟨r1, hr1, h⟩ := bnd h
   have hT0 := hS.p1
   refine .c (.apprv hr1 hT0 hT0.p1.lendv (fun _ => z) T.u104 T.t126 z z z ?_ z z z z z)
   intro v10 W hS
   refine .q z (.nil (.region (.q z (.q z (.q z (.nil ?_))))))
   cases h
   exact ⟨z, v10, sb z, hS.to [0] z⟩
  refine .exit ?_
  cases h
  exact ⟨by simp, z, v3, sb z, hS.to [0] z⟩
 intro x E W hJ
 obtain ⟨rfl, v11, hE, hS⟩ := hJ
 refine ⟨_, hE.sub, ?_⟩
 obtain rfl := Option.some.inj h
 exact .seq (.region (.q z (.q z (.nil (.ret (fin_ret (vs := [_]) v11 (rt z rn) z (hS.to [0] z)))))))
theorem spec_l22Stmt_s {k : Nat} {F_spec_l22List : List Stmt → Int → Option ((List Quad))} {F_spec_l22Stmt : Stmt → Int → Option ((List Quad))} {F_spec_l22If : Stmt → Int → Option ((List Quad))} {F_spec_l22While : Stmt → Int → Option ((List Quad))} (ih_spec_l22List : spec_l22List_C F_spec_l22List) (ih_spec_l22Stmt : spec_l22Stmt_C F_spec_l22Stmt) (ih_spec_l22If : spec_l22If_C F_spec_l22If) (ih_spec_l22While : spec_l22While_C F_spec_l22While) : spec_l22Stmt_C (spec_l22Stmt_R k F_spec_l22List F_spec_l22Stmt F_spec_l22If F_spec_l22While) := by
 intro a0 a1 v_0_Expr_Args v_0_Body v_0_Else w r h q_0_Expr_Args q_0_Body q_0_Else
 unfold spec_l22Stmt_R at h
 refine enter Tryz.func163 z z ?_
 have hS := Sep.start w
 refine .seq (.region (.c (.box hS z z ?_ z z)))
 intro g1 W hS
 refine .q z (.nil (.seq (.region (.s (fa T.f160_3 z z z) z (.s (ld T.t158 hS z z z z z) z ?_)))))
 have ⟨y1, hy1, h⟩ := bnd h
 refine .c (.call1v hS Tryz.func172 (spec_l22Expr_ok hy1 (hS.keep q_0_Expr_Args)) z z ?_ z (by kernel_rfl) z z)
 intro v1 W hS
 refine .q z (.nil (.seq (.seq (.region (.s (fa T.f160_0 z z z) z (.s (ld T.t3 hS.p1 z z z z z) z (.nil (.block (.seq (.region (.q z (.q z (.nil ?_)))))))))))))
 refine .cs z h ?_ ?_ <;> intro h
 ·refine .seq (.region (.s (ld T.t160 hS.p1 z z z z z) z (.q z ?_)))
  have ⟨y2, hy2, h⟩ := bnd h
  refine .c (.call1v hS Tryz.func173 (ih_spec_l22If hy2 (hS.keep q_0_Expr_Args) (hS.keep q_0_Body) (hS.keep q_0_Else)) z z ?_ z (by kernel_rfl) z z)
  intro v2 W hS
  obtain rfl := Option.some.inj h
  exact .q z (.nil (.ret (fin_ret (vs := [_]) v2 (rt z rn) z (hS.to [0] z))))
 refine .seq (.region (.q z (.q z (.nil ?_))))
 refine .cs z h ?_ ?_ <;> intro h
 ·refine .seq (.region (.s (ld T.t160 hS.p1 z z z z z) z (.q z ?_)))
  have ⟨y3, hy3, h⟩ := bnd h
  refine .c (.call1v hS Tryz.func174 (ih_spec_l22While hy3 (hS.keep q_0_Expr_Args) (hS.keep q_0_Body) (hS.keep q_0_Else)) z z ?_ z (by kernel_rfl) z z)
  intro v3 W hS
  obtain rfl := Option.some.inj h
  exact .q z (.nil (.ret (fin_ret (vs := [_]) v3 (rt z rn) z (hS.to [0] z))))
 refine .seq (.region (.q z (.q z (.nil ?_))))
 refine .cs z h ?_ ?_ <;> intro h
 ·refine .seq (.region (.q z (.s (fa T.f160_1 z z z) z (.s (ld T.t3 hS.p1 z z z z z) z (.s (bs T.s126 z z) z (.c (.liv [(Quad.mk 2 a0.Var 4 0 0)] dQuad T.u104 T.t126 hS z z z z ?_ z (fun _ => z) z z z z)))))))
  intro v4 W hS
  have ⟨r1, hr1, h⟩ := bnd h
  have hT0 := hS.p1
  refine .c (.apprv hr1 hT0 hT0.p1.lendv (fun _ => z) T.u104 T.t126 z z z ?_ z z z z z)
  intro v5 W hS
  obtain rfl := Option.some.inj h
  exact .q z (.nil (.ret (fin_ret (vs := [_]) v5 (rt z rn) z (hS.to [0] z))))
 refine .seq (.region (.q z (.q z (.nil ?_))))
 refine .cs z h ?_ ?_ <;> intro h
 ·refine .seq (.region (.q z (.s (fa T.f160_2 z z z) z (.s (ld T.t3 hS.p1 z z z z z) z (.s (bs T.s126 z z) z (.c (.liv [(Quad.mk 6 0 4 0 a0.Box)] dQuad T.u104 T.t126 hS z z z z ?_ z (fun _ => z) z z z z)))))))
  intro v6 W hS
  have ⟨r2, hr2, h⟩ := bnd h
  have hT0 := hS.p1
  refine .c (.apprv hr2 hT0 hT0.p1.lendv (fun _ => z) T.u104 T.t126 z z z ?_ z z z z z)
  intro v7 W hS
  obtain rfl := Option.some.inj h
  exact .q z (.nil (.ret (fin_ret (vs := [_]) v7 (rt z rn) z (hS.to [0] z))))
 refine .seq (.region (.q z (.q z (.nil ?_))))
 refine .cs z h ?_ ?_ <;> intro h
 ·refine .seq (.region (.q z (.s (bs T.s126 z z) z (.c (.liv [(Quad.mk 9 0 4 0 0)] dQuad T.u104 T.t126 hS z z z z ?_ z (fun _ => z) z z z z)))))
  intro v8 W hS
  have ⟨r3, hr3, h⟩ := bnd h
  have hT0 := hS.p1
  refine .c (.apprv hr3 hT0 hT0.p1.lendv (fun _ => z) T.u104 T.t126 z z z ?_ z z z z z)
  intro v9 W hS
  obtain rfl := Option.some.inj h
  exact .q z (.nil (.ret (fin_ret (vs := [_]) v9 (rt z rn) z (hS.to [0] z))))
 refine .seq (.region (.q z (.q z (.nil ?_))))
 refine .cs z h ?_ ?_ <;> intro h
 ·refine .seq (.region (.s (fa T.f160_1 z z z) z (.s (ld T.t3 hS.p1 z z z z z) z (.s (fa T.f160_2 z z z) z (.s (ld T.t3 hS.p1 z z z z z) z (.s (bs T.s126 z z) z (.c (.liv [(Quad.mk 7 a0.Var 0 0 a0.Box)] dQuad T.u104 T.t126 hS z z z z ?_ z (fun _ => z) z z z z))))))))
  intro v10 W hS
  cases h
  exact .q z (.nil (.ret (fin_ret (vs := [_]) v10 (rt z rn) z (hS.to [0] z))))
 refine .skip (.seq (.region (.s (bs T.s126 z z) z (.c (.liv [(Quad.mk 8 0 0 0 0)] dQuad T.u104 T.t126 hS z z z z ?_ z (fun _ => z) z z z z)))))
 intro v11 W hS
 cases h
 exact .q z (.nil (.ret (fin_ret (vs := [_]) v11 (rt z rn) z (hS.to [0] z))))
theorem spec_l22If_s {k : Nat} {F_spec_l22List : List Stmt → Int → Option ((List Quad))} {F_spec_l22Stmt : Stmt → Int → Option ((List Quad))} {F_spec_l22If : Stmt → Int → Option ((List Quad))} {F_spec_l22While : Stmt → Int → Option ((List Quad))} (ih_spec_l22List : spec_l22List_C F_spec_l22List) (ih_spec_l22Stmt : spec_l22Stmt_C F_spec_l22Stmt) (ih_spec_l22If : spec_l22If_C F_spec_l22If) (ih_spec_l22While : spec_l22While_C F_spec_l22While) : spec_l22If_C (spec_l22If_R k F_spec_l22List F_spec_l22Stmt F_spec_l22If F_spec_l22While) := by
 intro a0 a1 v_0_Expr_Args v_0_Body v_0_Else w r h q_0_Expr_Args q_0_Body q_0_Else
 unfold spec_l22If_R at h
 refine enter Tryz.func173 z z ?_
 have hS := Sep.start w
 refine .seq (.region (.c (.box hS z z ?_ z z)))
 intro g1 W hS
 refine .q z (.nil (.seq (.region (.s (fa T.f160_3 z z z) z (.s (ld T.t158 hS z z z z z) z ?_)))))
 have ⟨y1, hy1, h⟩ := bnd h
 refine .c (.call1v hS Tryz.func172 (spec_l22Expr_ok hy1 (hS.keep q_0_Expr_Args)) z z ?_ z (by kernel_rfl) z z)
 intro v1 W hS
 refine .q z (.nil (.seq (.region (.s (fa T.f160_4 z z z) z (.s (ld T.t134 hS.p1 z z z z z) z (.q z (.q z (.s (lenv hS.lendv T.u104 z z) z (.q z (.q z ?_))))))))))
 have ⟨y2, hy2, h⟩ := bnd h
 refine .c (.call1v hS Tryz.func148 (ih_spec_l22List hy2 (hS.keep q_0_Body)) z z ?_ z (by kernel_rfl) z z)
 intro v2 W hS
 refine .q z (.nil (.seq (.region (.q z (.q z (.s (lenv hS.p1.lendv T.u104 z z) z (.q z (.q z (.q z (.s (lenv hS.lendv T.u104 z z) z (.q z (.q z (.nil (.seq (.seq (.region (.s (fa T.f160_5 z z z) z (.s (ld T.t134 hS.p2 z z z z z) z (.s (lenv (hS.keep q_0_Else) T.u134 z z) z (.q z (.nil ?_)))))))))))))))))))))
 refine .cs z h ?_ ?_ <;> intro h
 ·refine .seq (.region (.q z (.q z (.s (bs T.s126 z z) z (.c (.liv [(Quad.mk 5 0 4 0 (w64 ((w64 ((w64 (a1 + (y1.length : Int))) + 1)) + (y2.length : Int))))] dQuad T.u104 T.t126 hS z z z z ?_ z (fun _ => z) z z z z))))))
  intro v3 W hS
  have ⟨r1, hr1, h⟩ := bnd h
  have hT0 := hS.p2
  refine .c (.apprv hr1 hT0 hT0.p1.lendv (fun _ => z) T.u104 T.t126 z z z ?_ z z z z z)
  intro v4 W hS
  refine .q z (.nil (.seq (.region (.q z (.q z ?_)))))
  have ⟨r2, hr2, h⟩ := bnd h
  have hT0 := hS
  refine .c (.apprv hr2 hT0 hT0.p2.lendv (fun _ => z) T.u104 T.t126 z z z ?_ z z z z z)
  intro v5 W hS
  obtain rfl := Option.some.inj h
  exact .q z (.nil (.ret (fin_ret (vs := [_]) v5 (rt z rn) z (hS.to [0] z))))
 refine .skip (.seq (.region (.s (fa T.f160_5 z z z) z (.s (ld T.t134 hS.p2 z z z z z) z (.q z (.q z ?_))))))
 have ⟨y3, hy3, h⟩ := bnd h
 refine .c (.call1v hS Tryz.func148 (ih_spec_l22List hy3 (hS.keep q_0_Else)) z z ?_ z (by kernel_rfl) z z)
 intro v6 W hS
 refine .q z (.nil (.seq (.region (.q z (.q z (.q z (.s (bs T.s126 z z) z (.c (.liv [(Quad.mk 5 0 4 0 (w64 ((w64 ((w64 ((w64 (a1 + (y1.length : Int))) + 1)) + (y2.length : Int))) + 1)))] dQuad T.u104 T.t126 hS z z z z ?_ z (fun _ => z) z z z z)))))))))
 intro v7 W hS
 have ⟨r3, hr3, h⟩ := bnd h
 have hT0 := hS.p3
 refine .c (.apprv hr3 hT0 hT0.p1.lendv (fun _ => z) T.u104 T.t126 z z z ?_ z z z z z)
 intro v8 W hS
 refine .q z (.nil (.seq (.region (.q z (.q z ?_)))))
 have ⟨r4, hr4, h⟩ := bnd h
 have hT0 := hS
 refine .c (.apprv hr4 hT0 hT0.p3.lendv (fun _ => z) T.u104 T.t126 z z z ?_ z z z z z)
 intro v9 W hS
 refine .q z (.nil (.seq (.region (.q z (.q z (.q z (.q z (.s (lenv hS.p2.lendv T.u104 z z) z (.q z (.s (bs T.s126 z z) z (.c (.liv [(Quad.mk 4 0 0 0 (w64 ((w64 ((w64 ((w64 ((w64 (a1 + (y1.length : Int))) + 1)) + (y2.length : Int))) + 1)) + (y3.length : Int))))] dQuad T.u104 T.t126 hS z z z z ?_ z (fun _ => z) z z z z))))))))))))
 intro v10 W hS
 have ⟨r5, hr5, h⟩ := bnd h
 have hT0 := hS.p1
 refine .c (.apprv hr5 hT0 hT0.p1.lendv (fun _ => z) T.u104 T.t126 z z z ?_ z z z z z)
 intro v11 W hS
 refine .q z (.nil (.seq (.region (.q z (.q z ?_)))))
 have ⟨r6, hr6, h⟩ := bnd h
 have hT0 := hS
 refine .c (.apprv hr6 hT0 hT0.p3.lendv (fun _ => z) T.u104 T.t126 z z z ?_ z z z z z)
 intro v12 W hS
 obtain rfl := Option.some.inj h
 exact .q z (.nil (.ret (fin_ret (vs := [_]) v12 (rt z rn) z (hS.to [0] z))))
theorem spec_l22While_s {k : Nat} {F_spec_l22List : List Stmt → Int → Option ((List Quad))} {F_spec_l22Stmt : Stmt → Int → Option ((List Quad))} {F_spec_l22If : Stmt → Int → Option ((List Quad))} {F_spec_l22While : Stmt → Int → Option ((List Quad))} (ih_spec_l22List : spec_l22List_C F_spec_l22List) (ih_spec_l22Stmt : spec_l22Stmt_C F_spec_l22Stmt) (ih_spec_l22If : spec_l22If_C F_spec_l22If) (ih_spec_l22While : spec_l22While_C F_spec_l22While) : spec_l22While_C (spec_l22While_R k F_spec_l22List F_spec_l22Stmt F_spec_l22If F_spec_l22While) := by
 intro a0 a1 v_0_Expr_Args v_0_Body v_0_Else w r h q_0_Expr_Args q_0_Body q_0_Else
 unfold spec_l22While_R at h
 refine enter Tryz.func174 z z ?_
 have hS := Sep.start w
 refine .seq (.region (.c (.box hS z z ?_ z z)))
 intro g1 W hS
 refine .q z (.nil (.seq (.region (.s (fa T.f160_3 z z z) z (.s (ld T.t158 hS z z z z z) z ?_)))))
 have ⟨y1, hy1, h⟩ := bnd h
 refine .c (.call1v hS Tryz.func172 (spec_l22Expr_ok hy1 (hS.keep q_0_Expr_Args)) z z ?_ z (by kernel_rfl) z z)
 intro v1 W hS
 refine .q z (.nil (.seq (.region (.s (fa T.f160_4 z z z) z (.s (ld T.t134 hS.p1 z z z z z) z (.q z (.q z (.s (lenv hS.lendv T.u104 z z) z (.q z (.q z ?_))))))))))
 have ⟨y2, hy2, h⟩ := bnd h
 refine .c (.call1v hS Tryz.func148 (ih_spec_l22List hy2 (hS.keep q_0_Body)) z z ?_ z (by kernel_rfl) z z)
 intro v2 W hS
 refine .q z (.nil (.seq (.region (.q z (.q z (.q z (.s (lenv hS.p1.lendv T.u104 z z) z (.q z (.q z (.q z (.s (lenv hS.lendv T.u104 z z) z (.q z (.q z (.s (bs T.s126 z z) z (.c (.liv [(Quad.mk 5 0 4 0 (w64 ((w64 ((w64 ((w64 (a1 + (y1.length : Int))) + 1)) + (y2.length : Int))) + 1)))] dQuad T.u104 T.t126 hS z z z z ?_ z (fun _ => z) z z z z))))))))))))))))
 intro v3 W hS
 have ⟨r1, hr1, h⟩ := bnd h
 have hT0 := hS.p2
 refine .c (.apprv hr1 hT0 hT0.p1.lendv (fun _ => z) T.u104 T.t126 z z z ?_ z z z z z)
 intro v4 W hS
 refine .q z (.nil (.seq (.region (.q z (.q z ?_)))))
 have ⟨r2, hr2, h⟩ := bnd h
 have hT0 := hS
 refine .c (.apprv hr2 hT0 hT0.p2.lendv (fun _ => z) T.u104 T.t126 z z z ?_ z z z z z)
 intro v5 W hS
 refine .q z (.nil (.seq (.region (.q z (.q z (.s (bs T.s126 z z) z (.c (.liv [(Quad.mk 4 0 0 0 a1)] dQuad T.u104 T.t126 hS z z z z ?_ z (fun _ => z) z z z z))))))))
 intro v6 W hS
 have ⟨r3, hr3, h⟩ := bnd h
 have hT0 := hS.p1
 refine .c (.apprv hr3 hT0 hT0.p1.lendv (fun _ => z) T.u104 T.t126 z z z ?_ z z z z z)
 intro v7 W hS
 obtain rfl := Option.some.inj h
 exact .q z (.nil (.ret (fin_ret (vs := [_]) v7 (rt z rn) z (hS.to [0] z))))
theorem scc_spec_l22List_ok (k : Nat) : spec_l22List_C (spec_l22List k) ∧ spec_l22Stmt_C (spec_l22Stmt k) ∧ spec_l22If_C (spec_l22If k) ∧ spec_l22While_C (spec_l22While k) := by
  induction k with
  | zero => exact ⟨by intro a0 a1 v_0 w r h q_0; exact no h, by intro a0 a1 v_0_Expr_Args v_0_Body v_0_Else w r h q_0_Expr_Args q_0_Body q_0_Else; exact no h, by intro a0 a1 v_0_Expr_Args v_0_Body v_0_Else w r h q_0_Expr_Args q_0_Body q_0_Else; exact no h, by intro a0 a1 v_0_Expr_Args v_0_Body v_0_Else w r h q_0_Expr_Args q_0_Body q_0_Else; exact no h⟩
  | succ k ih => exact ⟨spec_l22List_s (k := k) ih.1 ih.2.1 ih.2.2.1 ih.2.2.2, spec_l22Stmt_s (k := k) ih.1 ih.2.1 ih.2.2.1 ih.2.2.2, spec_l22If_s (k := k) ih.1 ih.2.1 ih.2.2.1 ih.2.2.2, spec_l22While_s (k := k) ih.1 ih.2.1 ih.2.2.1 ih.2.2.2⟩
theorem spec_l22List_ok {k : Nat} : spec_l22List_C (spec_l22List k) := (scc_spec_l22List_ok k).1
theorem spec_CompileTask_ok {k : Nat} {a0 : List Stmt} {v_0 : Hd} {w : World} {r : (List Quad) × Bool} (h : spec_CompileTask k a0 = some r) (q_0 : RV w (Old No w) (sv v_0) 160 8 dStmt a0) : Calls Tryz.prog 120 #[(sv v_0)] w (Ret No w (fun s : Hd => .tuple #[(sv s), .bool r.2]) (fun s => [rowV (sv s) 126 5 dQuad r.1])) := by
 unfold spec_CompileTask at h
 refine enter Tryz.func120 z z ?_
 have hS := Sep.start w
 refine .seq (.region (.q z (.q z (.nil (.seq (.seq (.region (.q z ?_))))))))
 have ⟨y1, hy1, h⟩ := bnd h
 refine .c (.call0 hS Tryz.func147 (spec_StmtsValid_ok hy1 (hS.keep q_0)) z z ?_ z (by kernel_rfl) z z)
 intro W hS
 refine .q z (.nil ?_)
 refine .cs z h ?_ ?_ <;> intro h
 ·refine .seq (.region (.c (.liv [] dQuad T.u104 T.t126 hS z z z z ?_ z (fun _ => z) z z z z)))
  intro v1 W hS
  cases h
  exact .q z (.q z (.nil (.ret (fin_ret (vs := [_, _]) v1 (rt z (rt z rn)) z (hS.to [0] z)))))
 refine .skip (.seq (.region (.q z ?_)))
 have ⟨y2, hy2, h⟩ := bnd h
 refine .c (.call1v hS Tryz.func148 (spec_l22List_ok hy2 (hS.keep q_0)) z z ?_ z (by kernel_rfl) z z)
 intro v2 W hS
 refine .s (bs T.s126 z z) z (.c (.liv [(Quad.mk 10 0 0 0 0)] dQuad T.u104 T.t126 hS z z z z ?_ z (fun _ => z) z z z z))
 intro v3 W hS
 have ⟨r1, hr1, h⟩ := bnd h
 have hT0 := hS.p1
 refine .c (.apprv hr1 hT0 hT0.p1.lendv (fun _ => z) T.u104 T.t126 z z z ?_ z z z z z)
 intro v4 W hS
 cases h
 exact .q z (.q z (.nil (.ret (fin_ret (vs := [_, _]) v4 (rt z (rt z rn)) z (hS.to [0] z)))))
theorem spec_l4Both_ok {a0 : Int} {a1 : Expr} {a2 : Expr} {v_1_Args : Hd} {v_2_Args : Hd} {S : Nat → Prop} {w : World} {r : Expr} (h : spec_l4Both a0 a1 a2 = some r) (hO : Owns w [rowV (sv v_1_Args) 158 3 dExpr a1.Args, rowV (sv v_2_Args) 158 3 dExpr a2.Args] S) (hlt : ∀ b, S b → b < w.heap.size) : Calls Tryz.prog 196 #[.int .i64 a0, .agg #[.int .i64 a1.Op, .int .i64 a1.N, (sv v_1_Args)], .agg #[.int .i64 a2.Op, .int .i64 a2.N, (sv v_2_Args)]] w (Ret S w (fun s : Hd => .agg #[.int .i64 r.Op, .int .i64 r.N, (sv s)]) (fun s => [rowV (sv s) 158 3 dExpr r.Args])) := by
 unfold spec_l4Both at h
 refine enter Tryz.func196 z z ?_
 have hS := Sep.startM hO hlt
 refine .seq (.region (.c (.box hS z z ?_ z z)))
 intro g1 W hS
 refine .c (.box hS z z ?_ z z)
 intro g2 W hS
 refine .c (.alloc T.t158 hS ?_ z z z)
 intro g3 W hS
 refine .nil (.seq (.region (.q z (.s (ld T.t158 hS.p2 z z z z z) z (.s (ld T.t158 hS.p1 z z z z z) z (.c (.ligv (L1 := [rowV (sv v_1_Args) 158 3 dExpr a1.Args, rowV (sv v_2_Args) 158 3 dExpr a2.Args]) [(Expr.mk a1.Op a1.N a1.Args), (Expr.mk a2.Op a2.N a2.Args)] dExpr T.u156 T.t158 (hS.to [3, 3, 0, 0, 0] z) z z z (.aggE (eExpr _) (.flat (c1 := [.int .i64 a1.Op]) z (.flat (c1 := [.int .i64 a1.N]) z (.row (.aggE (eExpr _) (.flat (c1 := [.int .i64 a2.Op]) z (.flat (c1 := [.int .i64 a2.N]) z (.row .nil)))))))) ?_ z zExpr z z z z z)))))))
 intro v1 W hS
 refine .s (bs T.s158 z z) z (.c (.st T.t158 hS.p1 z z z ?_ z z z z z))
 intro W hS
 cases h
 exact .nil (.ret (fin_ret (vs := [_]) v1 (rc hS T.t158 z rn z z) z (hS.to [1] z)))
theorem spec_l4Leaf_ok {a0 : Int} {a1 : Int} {w : World} {r : Expr} (h : spec_l4Leaf a0 a1 = some r) : Calls Tryz.prog 197 #[.int .i64 a0, .int .i64 a1] w (Ret No w (fun s : Hd => .agg #[.int .i64 r.Op, .int .i64 r.N, (sv s)]) (fun s => [rowV (sv s) 158 3 dExpr r.Args])) := by
 unfold spec_l4Leaf at h
 refine enter Tryz.func197 z z ?_
 have hS := Sep.start w
 refine .seq (.region (.c (.alloc T.t158 hS ?_ z z z)))
 intro g1 W hS
 refine .nil (.seq (.region (.q z (.q z (.c (.ligv (L1 := []) [] dExpr T.u156 T.t158 (hS.to [0] z) z z z (.nil) ?_ z zExpr z z z z z))))))
 intro v1 W hS
 refine .s (bs T.s158 z z) z (.c (.st T.t158 hS.p1 z z z ?_ z z z z z))
 intro W hS
 cases h
 exact .nil (.ret (fin_ret (vs := [_]) v1 (rc hS T.t158 z rn z z) z (hS.to [1] z)))
theorem spec_l91Leaf_ok {a0 : L6Rd} {v_0_b : Hd} {g_0 : Nat} {S : Nat → Prop} {w : World} {r : Expr × Int} (h : spec_l91Leaf a0 = some r) (q_0_b : RV w (Old S w) (sv v_0_b) 5 1 (D.int .u8) a0.b) (hO : Owns w [.box g_0 100 [(sv v_0_b), .int .i64 a0.p]] S) (hlt : ∀ b, S b → b < w.heap.size) : Calls Tryz.prog 198 #[.pointer (some ⟨g_0, 0, none⟩)] w (Ret S w (fun s : Hd => .agg #[.int .i64 r.1.Op, .int .i64 r.1.N, (sv s)]) (fun s => [.box g_0 100 [(sv v_0_b), .int .i64 r.2], rowV (sv s) 158 3 dExpr r.1.Args])) := by
 unfold spec_l91Leaf at h
 refine enter Tryz.func198 z z ?_
 have hS := Sep.startM hO hlt
 refine .seq (.region (.c (.alloc T.t158 hS ?_ z z z)))
 intro g1 W hS
 refine .nil (.seq (.seq (.region (.q z ?_))))
 have ⟨y1, hy1, h⟩ := bnd h
 have hS := hS.p1
 refine .c (.callS2 (L0 := [.box g_0 100 [(sv v_0_b), .int .i64 a0.p]]) hS Tryz.func36 (fun S h1 h2 h3 => (spec_l6Rd_pick_ok hy1 (hS.keepS q_0_b h1) h2 (fun b hb => (h1 b hb).2))) z z ?_ z (by kernel_rfl) z z)
 rintro ⟨⟩ W hS
 refine .nil (.block (.seq (.region (.q z (.q z (.nil (.cond z (fun hb => ?_) (fun hb => ?_))))))))
 ·have h := sel_t hb h
  refine .seq (.region (.q z ?_))
  have ⟨y2, hy2, h⟩ := bnd h
  refine .c (.callS2 (L0 := [.box g_0 100 [(sv v_0_b), .int .i64 y1.2]]) hS Tryz.func36 (fun S h1 h2 h3 => (spec_l6Rd_pick_ok hy2 (hS.keepS q_0_b h1) h2 (fun b hb => (h1 b hb).2))) z z ?_ z (by kernel_rfl) z z)
  rintro ⟨⟩ W hS
  have ⟨y3, hy3, h⟩ := bnd h
  refine .c (.call1v hS Tryz.func197 (spec_l4Leaf_ok hy3) z z ?_ z (by kernel_rfl) z z)
  intro v1 W hS
  refine .c (.st T.t158 hS.p2 z z z ?_ z z z z z)
  intro W hS
  cases h
  exact .nil (.ret (fin_ret (vs := [_]) v1 (rc hS T.t158 z rn z z) z (hS.to [2, 1] z)))
 have h := sel_f hb h
 refine .seq (.region (.q z (.q z (.nil (.cond z (fun hb => ?_) (fun hb => ?_))))))
 ·have h := sel_t hb h
  refine .seq (.region (.c (.liv [5, 31, 32, 100, 2047, 2048, 65536, 99999] (D.int .i64) T.u25 T.t3 hS z z z z ?_ z (fun _ => z) z z z z)))
  intro v2 W hS
  refine .q z ?_
  have ⟨y4, hy4, h⟩ := bnd h
  have hS := hS.p1
  refine .c (.callS2 (L0 := [.box g_0 100 [(sv v_0_b), .int .i64 y1.2]]) hS Tryz.func36 (fun S h1 h2 h3 => (spec_l6Rd_pick_ok hy4 (hS.keepS q_0_b h1) h2 (fun b hb => (h1 b hb).2))) z z ?_ z (by kernel_rfl) z z)
  rintro ⟨⟩ W hS
  have ⟨x1, hx1, h⟩ := bnd h
  refine .s (ixv hS.p1.lendv hx1 T.u25 T.t3 z z z) z (.s (lde (RV.flat hS.p1.lendv hx1 z) T.t3 z z z z z) z ?_)
  have ⟨y5, hy5, h⟩ := bnd h
  refine .c (.call1v hS Tryz.func197 (spec_l4Leaf_ok hy5) z z ?_ z (by kernel_rfl) z z)
  intro v3 W hS
  refine .c (.st T.t158 hS.p3 z z z ?_ z z z z z)
  intro W hS
  cases h
  exact .nil (.ret (fin_ret (vs := [_]) v3 (rc hS T.t158 z rn z z) z (hS.to [2, 1] z)))
 have h := sel_f hb h
 refine .skip (.seq (.region (.q z ?_)))
 have ⟨y6, hy6, h⟩ := bnd h
 refine .c (.callS2 (L0 := [.box g_0 100 [(sv v_0_b), .int .i64 y1.2]]) hS Tryz.func36 (fun S h1 h2 h3 => (spec_l6Rd_pick_ok hy6 (hS.keepS q_0_b h1) h2 (fun b hb => (h1 b hb).2))) z z ?_ z (by kernel_rfl) z z)
 rintro ⟨⟩ W hS
 have ⟨y7, hy7, h⟩ := bnd h
 refine .c (.call1v hS Tryz.func197 (spec_l4Leaf_ok hy7) z z ?_ z (by kernel_rfl) z z)
 intro v4 W hS
 refine .c (.st T.t158 hS.p2 z z z ?_ z z z z z)
 intro W hS
 cases h
 exact .nil (.ret (fin_ret (vs := [_]) v4 (rc hS T.t158 z rn z z) z (hS.to [2, 1] z)))
def spec_l91Expr_C (F : L6Rd → Int → Option (Expr × Int)) : Prop := ∀ {a0 : L6Rd} {a1 : Int} {v_0_b : Hd} {g_0 : Nat} {S : Nat → Prop} {w : World} {r : Expr × Int} (h : F a0 a1 = some r) (q_0_b : RV w (Old S w) (sv v_0_b) 5 1 (D.int .u8) a0.b) (hO : Owns w [.box g_0 100 [(sv v_0_b), .int .i64 a0.p]] S) (hlt : ∀ b, S b → b < w.heap.size) , Calls Tryz.prog 179 #[.pointer (some ⟨g_0, 0, none⟩), .int .i64 a1] w (Ret S w (fun s : Hd => .agg #[.int .i64 r.1.Op, .int .i64 r.1.N, (sv s)]) (fun s => [.box g_0 100 [(sv v_0_b), .int .i64 r.2], rowV (sv s) 158 3 dExpr r.1.Args]))
end Go.Proofs.YtmpplggjpmmhlaaGreatDoor.N
end
section
/- Printed by a program of mine: that the program's functions compute it. -/
set_option linter.unusedVariables false
set_option maxRecDepth 100000
set_option maxHeartbeats 4000000
namespace Go.Proofs.YtmpplggjpmmhlaaGreatDoor.N
open Go.Proofs.YtmpplggjpmmhlaaGreatDoor.X
theorem spec_l91Expr_s {k : Nat} {F_spec_l91Expr : L6Rd → Int → Option (Expr × Int)} (ih_spec_l91Expr : spec_l91Expr_C F_spec_l91Expr) : spec_l91Expr_C (spec_l91Expr_R k F_spec_l91Expr) := by
 intro a0 a1 v_0_b g_0 S w r h q_0_b hO hlt
 unfold spec_l91Expr_R at h
 refine enter Tryz.func179 z z ?_
 have hS := Sep.startM hO hlt
 refine .seq (.region (.c (.alloc T.t158 hS ?_ z z z)))
 intro g1 W hS
 refine .nil (.seq (.seq (.region (.q z (.q z (.q z ?_))))))
 have ⟨b1, hb1, h⟩ := bnd h
 refine .chunkL 4 13 (b1.1) (M := S) (w0 := w) (L := [.box g1 158 [.int .i64 0, .int .i64 0, (sv nilH)], .box g_0 100 [(sv v_0_b), .int .i64 b1.2]]) ?_ ?_
 ·refine .both (decide (a1 < 2)) (fun hb => ?_) (fun hb => ?_)
  ·refine .xx hb z (.xx hb z (.xx hb z ?_))
   cases sel_t hb hb1
   exact .s (pkt hb z z z) z (.nil (ck 4 (hS.to [0, 0] z) z z z z))
  have hg1 := hb
  have h := sel_f hb hb1
  refine .g hg1 (.q z ?_) z
  have ⟨y1, hy1, h⟩ := bnd h
  have hS := hS.p1
  refine .g hg1 (.c (.callS2 (L0 := [.box g_0 100 [(sv v_0_b), .int .i64 a0.p]]) hS Tryz.func36 (fun S h1 h2 h3 => (spec_l6Rd_pick_ok hy1 (hS.keepS q_0_b h1) h2 (fun b hb => (h1 b hb).2))) z z ?_ z (by kernel_rfl) z z)) z
  rintro ⟨⟩ W hS
  refine .g hg1 (.q z (.s (pkf hg1 z z z) z ?_)) z
  cases h
  exact .nil (ck 4 (hS.to [1, 0] z) z z z z)
 intro W hS
 refine .nil (.cond z (fun hb => ?_) (fun hb => ?_))
 ·have h := sel_t hb h
  refine .seq (.region (.q z ?_))
  have ⟨y2, hy2, h⟩ := bnd h
  have hS := hS.p1
  refine .c (.callS2 (L0 := [.box g_0 100 [(sv v_0_b), .int .i64 b1.2]]) hS Tryz.func198 (fun S h1 h2 h3 => (spec_l91Leaf_ok hy2 (hS.keepS q_0_b h1) h2 (fun b hb => (h1 b hb).2))) z z ?_ z (by kernel_rfl) z z)
  rintro v1 W hS
  refine .c (.st T.t158 hS.p2 z z z ?_ z z z z z)
  intro W hS
  cases h
  exact .nil (.ret (fin_ret (vs := [_]) v1 (rc hS T.t158 z rn z z) z (hS.to [1, 1] z)))
 have h := sel_f hb h
 refine .skip (.seq (.region (.q z ?_)))
 have ⟨y3, hy3, h⟩ := bnd h
 have hS := hS.p1
 refine .c (.callS2 (L0 := [.box g_0 100 [(sv v_0_b), .int .i64 b1.2]]) hS Tryz.func161 (fun S h1 h2 h3 => (spec_l91Op_ok hy3 (hS.keepS q_0_b h1) h2 (fun b hb => (h1 b hb).2))) z z ?_ z (by kernel_rfl) z z)
 rintro ⟨⟩ W hS
 refine .q z (.nil (.seq (.region (.q z (.q z (.q z ?_))))))
 have ⟨y4, hy4, h⟩ := bnd h
 refine .c (.callS2 (L0 := [.box g_0 100 [(sv v_0_b), .int .i64 y3.2]]) hS Tryz.func179 (fun S h1 h2 h3 => (ih_spec_l91Expr hy4 (hS.keepS q_0_b h1) h2 (fun b hb => (h1 b hb).2))) z z ?_ z (by kernel_rfl) z z)
 rintro v2 W hS
 refine .c (.alloc T.t158 hS ?_ z z z)
 intro g2 W hS
 refine .c (.st T.t158 hS z z z ?_ z z z z z)
 intro W hS
 refine .nil (.seq (.rk 7 hS [0, 2] T.mix ?_))
 intro W hS
 have hT := hS.to [0, 2] z
 refine .tp 0 z z hT (by kernel_rfl) (.ts 1 z (fun W hT => ld T.t158 hT z z z z z) hT z (by kernel_rfl) (.tp 2 z z hT (by kernel_rfl) (.tp 3 z z hT (by kernel_rfl) (.tp 4 z z hT (by kernel_rfl) ?_))))
 have ⟨y5, hy5, h⟩ := bnd h
 have hS := hS.p1
 refine .by1 5 z (.callS2 (L0 := [.box g_0 100 [(sv v_0_b), .int .i64 y4.2]]) hS Tryz.func179 (fun S h1 h2 h3 => (ih_spec_l91Expr hy5 (hS.keepS q_0_b h1) h2 (fun b hb => (h1 b hb).2))) z z ?_ z (by kernel_rfl) z z) (by kernel_rfl)
 rintro v3 W hS
 have hT := hS.to [2, 3] z
 refine ⟨fun _ => hT, ?_⟩
 have ⟨y6, hy6, h⟩ := bnd h
 have hS := hS.p1
 have hS := hS.p3
 refine .by1 6 z (.callS2 (L0 := [rowV (sv v2) 158 3 dExpr y4.1.Args, rowV (sv v3) 158 3 dExpr y5.1.Args]) hS Tryz.func196 (fun S h1 h2 h3 => (spec_l4Both_ok hy6 h2 (fun b hb => (h1 b hb).2))) z z ?_ z (by kernel_rfl) z z) (by kernel_rfl)
 rintro v4 W hS
 have hT := hS.to [2, 2] z
 refine ⟨fun _ => hT, ?_⟩
 refine .by1 7 z (.st T.t158 hS.p3 z z z ?_ z z z z z) (by kernel_rfl)
 intro W hS
 refine ⟨fun h => absurd z h, ?_⟩
 cases h
 exact .done (.ret (fin_ret (vs := [_]) v4 (rc hS T.t158 z rn z z) z (hS.to [2, 1] z))) (by kernel_rfl)
theorem scc_spec_l91Expr_ok (k : Nat) : spec_l91Expr_C (spec_l91Expr k) := by
  induction k with
  | zero => exact by intro a0 a1 v_0_b g_0 S w r h q_0_b hO hlt; exact no h
  | succ k ih => exact spec_l91Expr_s (k := k) ih
theorem spec_l91Expr_ok {k : Nat} : spec_l91Expr_C (spec_l91Expr k) := (scc_spec_l91Expr_ok k)
theorem spec_l92Set_ok {k : Nat} {a0 : L6Rd} {v_0_b : Hd} {g_0 : Nat} {S : Nat → Prop} {w : World} {r : Stmt × Int} (h : spec_l92Set k a0 = some r) (q_0_b : RV w (Old S w) (sv v_0_b) 5 1 (D.int .u8) a0.b) (hO : Owns w [.box g_0 100 [(sv v_0_b), .int .i64 a0.p]] S) (hlt : ∀ b, S b → b < w.heap.size) : Calls Tryz.prog 175 #[.pointer (some ⟨g_0, 0, none⟩)] w (Ret S w (fun s : Hd × Hd × Hd => .agg #[.int .i64 r.1.Kind, .int .i64 r.1.Var, .int .i64 r.1.Box, .int .i64 r.1.Expr.Op, .int .i64 r.1.Expr.N, (sv s.1), (sv s.2.1), (sv s.2.2)]) (fun s => [.box g_0 100 [(sv v_0_b), .int .i64 r.2], rowV (sv s.1) 158 3 dExpr r.1.Expr.Args, rowV (sv s.2.1) 160 8 dStmt r.1.Body, rowV (sv s.2.2) 160 8 dStmt r.1.Else])) := by
 unfold spec_l92Set at h
 refine enter Tryz.func175 z z ?_
 have hS := Sep.startM hO hlt
 refine .seq (.region (.c (.alloc T.t160 hS ?_ z z z)))
 intro g1 W hS
 refine .nil (.seq (.region (.q z ?_)))
 have ⟨y1, hy1, h⟩ := bnd h
 have hS := hS.p1
 refine .c (.callS2 (L0 := [.box g_0 100 [(sv v_0_b), .int .i64 a0.p]]) hS Tryz.func36 (fun S h1 h2 h3 => (spec_l6Rd_pick_ok hy1 (hS.keepS q_0_b h1) h2 (fun b hb => (h1 b hb).2))) z z ?_ z (by kernel_rfl) z z)
 rintro ⟨⟩ W hS
 refine .q z (.nil (.seq (.region (.q z (.q z (.q z ?_))))))
 have ⟨y2, hy2, h⟩ := bnd h
 refine .c (.callS2 (L0 := [.box g_0 100 [(sv v_0_b), .int .i64 y1.2]]) hS Tryz.func36 (fun S h1 h2 h3 => (spec_l6Rd_pick_ok hy2 (hS.keepS q_0_b h1) h2 (fun b hb => (h1 b hb).2))) z z ?_ z (by kernel_rfl) z z)
 rintro ⟨⟩ W hS
 refine .q z ?_
 have ⟨y3, hy3, h⟩ := bnd h
 refine .c (.callS2 (L0 := [.box g_0 100 [(sv v_0_b), .int .i64 y2.2]]) hS Tryz.func179 (fun S h1 h2 h3 => (spec_l91Expr_ok hy3 (hS.keepS q_0_b h1) h2 (fun b hb => (h1 b hb).2))) z z ?_ z (by kernel_rfl) z z)
 rintro v1 W hS
 refine .s (bs T.s160 z z) z (.c (.st T.t160 hS.p2 z z z ?_ z z z z z))
 intro W hS
 refine .nil (.ret ?_)
 have hS := hS.nilv 160 8 dStmt
 have hS := hS.nilv 160 8 dStmt
 cases h
 exact fin_ret (vs := [_]) (v1, nilH, nilH) (rc hS.p2 T.t160 z rn z z) z (hS.to [3, 3, 1, 0] z)
theorem spec_l92Talk_ok {k : Nat} {a0 : L6Rd} {a1 : Int} {v_0_b : Hd} {g_0 : Nat} {S : Nat → Prop} {w : World} {r : Stmt × Int} (h : spec_l92Talk k a0 a1 = some r) (q_0_b : RV w (Old S w) (sv v_0_b) 5 1 (D.int .u8) a0.b) (hO : Owns w [.box g_0 100 [(sv v_0_b), .int .i64 a0.p]] S) (hlt : ∀ b, S b → b < w.heap.size) : Calls Tryz.prog 178 #[.pointer (some ⟨g_0, 0, none⟩), .int .i64 a1] w (Ret S w (fun s : Hd × Hd × Hd => .agg #[.int .i64 r.1.Kind, .int .i64 r.1.Var, .int .i64 r.1.Box, .int .i64 r.1.Expr.Op, .int .i64 r.1.Expr.N, (sv s.1), (sv s.2.1), (sv s.2.2)]) (fun s => [.box g_0 100 [(sv v_0_b), .int .i64 r.2], rowV (sv s.1) 158 3 dExpr r.1.Expr.Args, rowV (sv s.2.1) 160 8 dStmt r.1.Body, rowV (sv s.2.2) 160 8 dStmt r.1.Else])) := by
 unfold spec_l92Talk at h
 refine enter Tryz.func178 z z ?_
 have hS := Sep.startM hO hlt
 refine .seq (.region (.c (.alloc T.t160 hS ?_ z z z)))
 intro g1 W hS
 refine .nil (.seq (.seq (.region (.q z (.q z (.nil (.cond z (fun hb => ?_) (fun hb => ?_))))))))
 ·have h := sel_t hb h
  refine .seq (.region (.q z ?_))
  have ⟨y1, hy1, h⟩ := bnd h
  have hS := hS.p1
  refine .c (.callS2 (L0 := [.box g_0 100 [(sv v_0_b), .int .i64 a0.p]]) hS Tryz.func175 (fun S h1 h2 h3 => (spec_l92Set_ok hy1 (hS.keepS q_0_b h1) h2 (fun b hb => (h1 b hb).2))) z z ?_ z (by kernel_rfl) z z)
  rintro ⟨v1, v2, v3⟩ W hS
  refine .c (.st T.t160 hS.p4 z z z ?_ z z z z z)
  intro W hS
  cases h
  exact .nil (.ret (fin_ret (vs := [_]) (v1, v2, v3) (rc hS T.t160 z rn z z) z (hS.to [1, 1, 1, 1] z)))
 have h := sel_f hb h
 refine .skip (.seq (.region (.q z (.q z ?_))))
 have ⟨y2, hy2, h⟩ := bnd h
 have hS := hS.p1
 refine .c (.callS2 (L0 := [.box g_0 100 [(sv v_0_b), .int .i64 a0.p]]) hS Tryz.func36 (fun S h1 h2 h3 => (spec_l6Rd_pick_ok hy2 (hS.keepS q_0_b h1) h2 (fun b hb => (h1 b hb).2))) z z ?_ z (by kernel_rfl) z z)
 rintro ⟨⟩ W hS
 refine .q z (.nil (.seq (.seq (.region (.q z ?_)))))
 have ⟨y3, hy3, h⟩ := bnd h
 refine .c (.callS2 (L0 := [.box g_0 100 [(sv v_0_b), .int .i64 y2.2]]) hS Tryz.func36 (fun S h1 h2 h3 => (spec_l6Rd_pick_ok hy3 (hS.keepS q_0_b h1) h2 (fun b hb => (h1 b hb).2))) z z ?_ z (by kernel_rfl) z z)
 rintro ⟨⟩ W hS
 refine .q z (.nil (.cond z (fun hb => ?_) (fun hb => ?_)))
 ·have h := sel_t hb h
  refine .seq (.region (.q z (.q z (.q z ?_))))
  have ⟨y4, hy4, h⟩ := bnd h
  refine .c (.callS2 (L0 := [.box g_0 100 [(sv v_0_b), .int .i64 y3.2]]) hS Tryz.func36 (fun S h1 h2 h3 => (spec_l6Rd_pick_ok hy4 (hS.keepS q_0_b h1) h2 (fun b hb => (h1 b hb).2))) z z ?_ z (by kernel_rfl) z z)
  rintro ⟨⟩ W hS
  refine .q z ?_
  have ⟨y5, hy5, h⟩ := bnd h
  refine .c (.callS2 (L0 := [.box g_0 100 [(sv v_0_b), .int .i64 y4.2]]) hS Tryz.func179 (fun S h1 h2 h3 => (spec_l91Expr_ok hy5 (hS.keepS q_0_b h1) h2 (fun b hb => (h1 b hb).2))) z z ?_ z (by kernel_rfl) z z)
  rintro v4 W hS
  refine .s (bs T.s160 z z) z (.c (.st T.t160 hS.p2 z z z ?_ z z z z z))
  intro W hS
  refine .nil (.ret ?_)
  have hS := hS.nilv 160 8 dStmt
  have hS := hS.nilv 160 8 dStmt
  cases h
  exact fin_ret (vs := [_]) (v4, nilH, nilH) (rc hS.p2 T.t160 z rn z z) z (hS.to [3, 3, 1, 0] z)
 have h := sel_f hb h
 refine .skip (.seq (.region (.q z (.q z ?_))))
 have ⟨y6, hy6, h⟩ := bnd h
 refine .c (.callS2 (L0 := [.box g_0 100 [(sv v_0_b), .int .i64 y3.2]]) hS Tryz.func36 (fun S h1 h2 h3 => (spec_l6Rd_pick_ok hy6 (hS.keepS q_0_b h1) h2 (fun b hb => (h1 b hb).2))) z z ?_ z (by kernel_rfl) z z)
 rintro ⟨⟩ W hS
 refine .s (bs T.s160 z z) z (.c (.st T.t160 hS.p1 z z z ?_ z z z z z))
 intro W hS
 refine .nil (.ret ?_)
 have hS := hS.nilv 158 3 dExpr
 have hS := hS.nilv 160 8 dStmt
 have hS := hS.nilv 160 8 dStmt
 cases h
 exact fin_ret (vs := [_]) (nilH, nilH, nilH) (rc hS.p3 T.t160 z rn z z) z (hS.to [4, 2, 1, 0] z)
def spec_l92Block_C (F : L6Rd → Int → Int → Int → Bool → Option ((List Stmt) × Int)) : Prop := ∀ {a0 : L6Rd} {a1 : Int} {a2 : Int} {a3 : Int} {a4 : Bool} {v_0_b : Hd} {g_0 : Nat} {S : Nat → Prop} {w : World} {r : (List Stmt) × Int} (h : F a0 a1 a2 a3 a4 = some r) (q_0_b : RV w (Old S w) (sv v_0_b) 5 1 (D.int .u8) a0.b) (hO : Owns w [.box g_0 100 [(sv v_0_b), .int .i64 a0.p]] S) (hlt : ∀ b, S b → b < w.heap.size) , Calls Tryz.prog 149 #[.pointer (some ⟨g_0, 0, none⟩), .int .i64 a1, .int .i64 a2, .int .i64 a3, .bool a4] w (Ret S w (fun s : Hd => (sv s)) (fun s => [.box g_0 100 [(sv v_0_b), .int .i64 r.2], rowV (sv s) 160 8 dStmt r.1]))
def spec_l92Stmt_C (F : L6Rd → Int → Int → Bool → Option ((List Stmt) × Int)) : Prop := ∀ {a0 : L6Rd} {a1 : Int} {a2 : Int} {a3 : Bool} {v_0_b : Hd} {g_0 : Nat} {S : Nat → Prop} {w : World} {r : (List Stmt) × Int} (h : F a0 a1 a2 a3 = some r) (q_0_b : RV w (Old S w) (sv v_0_b) 5 1 (D.int .u8) a0.b) (hO : Owns w [.box g_0 100 [(sv v_0_b), .int .i64 a0.p]] S) (hlt : ∀ b, S b → b < w.heap.size) , Calls Tryz.prog 164 #[.pointer (some ⟨g_0, 0, none⟩), .int .i64 a1, .int .i64 a2, .bool a3] w (Ret S w (fun s : Hd => (sv s)) (fun s => [.box g_0 100 [(sv v_0_b), .int .i64 r.2], rowV (sv s) 160 8 dStmt r.1]))
def spec_l92If_C (F : L6Rd → Int → Int → Bool → Option (Stmt × Int)) : Prop := ∀ {a0 : L6Rd} {a1 : Int} {a2 : Int} {a3 : Bool} {v_0_b : Hd} {g_0 : Nat} {S : Nat → Prop} {w : World} {r : Stmt × Int} (h : F a0 a1 a2 a3 = some r) (q_0_b : RV w (Old S w) (sv v_0_b) 5 1 (D.int .u8) a0.b) (hO : Owns w [.box g_0 100 [(sv v_0_b), .int .i64 a0.p]] S) (hlt : ∀ b, S b → b < w.heap.size) , Calls Tryz.prog 176 #[.pointer (some ⟨g_0, 0, none⟩), .int .i64 a1, .int .i64 a2, .bool a3] w (Ret S w (fun s : Hd × Hd × Hd => .agg #[.int .i64 r.1.Kind, .int .i64 r.1.Var, .int .i64 r.1.Box, .int .i64 r.1.Expr.Op, .int .i64 r.1.Expr.N, (sv s.1), (sv s.2.1), (sv s.2.2)]) (fun s => [.box g_0 100 [(sv v_0_b), .int .i64 r.2], rowV (sv s.1) 158 3 dExpr r.1.Expr.Args, rowV (sv s.2.1) 160 8 dStmt r.1.Body, rowV (sv s.2.2) 160 8 dStmt r.1.Else]))
def spec_l92Loop_C (F : L6Rd → Int → Int → Option ((List Stmt) × Int)) : Prop := ∀ {a0 : L6Rd} {a1 : Int} {a2 : Int} {v_0_b : Hd} {g_0 : Nat} {S : Nat → Prop} {w : World} {r : (List Stmt) × Int} (h : F a0 a1 a2 = some r) (q_0_b : RV w (Old S w) (sv v_0_b) 5 1 (D.int .u8) a0.b) (hO : Owns w [.box g_0 100 [(sv v_0_b), .int .i64 a0.p]] S) (hlt : ∀ b, S b → b < w.heap.size) , Calls Tryz.prog 177 #[.pointer (some ⟨g_0, 0, none⟩), .int .i64 a1, .int .i64 a2] w (Ret S w (fun s : Hd => (sv s)) (fun s => [.box g_0 100 [(sv v_0_b), .int .i64 r.2], rowV (sv s) 160 8 dStmt r.1]))
theorem spec_l92Block_s {k : Nat} {F_spec_l92Block : L6Rd → Int → Int → Int → Bool → Option ((List Stmt) × Int)} {F_spec_l92Stmt : L6Rd → Int → Int → Bool → Option ((List Stmt) × Int)} {F_spec_l92If : L6Rd → Int → Int → Bool → Option (Stmt × Int)} {F_spec_l92Loop : L6Rd → Int → Int → Option ((List Stmt) × Int)} (ih_spec_l92Block : spec_l92Block_C F_spec_l92Block) (ih_spec_l92Stmt : spec_l92Stmt_C F_spec_l92Stmt) (ih_spec_l92If : spec_l92If_C F_spec_l92If) (ih_spec_l92Loop : spec_l92Loop_C F_spec_l92Loop) : spec_l92Block_C (spec_l92Block_R k F_spec_l92Block F_spec_l92Stmt F_spec_l92If F_spec_l92Loop) := by
 intro a0 a1 a2 a3 a4 v_0_b g_0 S w r h q_0_b hO hlt
 unfold spec_l92Block_R at h
 refine enter Tryz.func149 z z ?_
 have hS := Sep.startM hO hlt
 refine .seq (.region (.q z (.nil (.seq (.region (.c (.ligv (L1 := []) [] dStmt T.u134 T.t160 (hS.to [0] z) z z z (.nil) ?_ z zStmt z z z z z)))))))
 intro v1 W hS
 refine .q z (.nil (.seq (.seq (.region (.q z (.nil (.block ?_)))))))
 have ⟨y1, hy1, h⟩ := bnd h
 refine .via (.iter (fun s1 E' W' => ∃ (v4 : Hd), SubL E' [(0, .pointer (some ⟨g_0, 0, none⟩)), (1, .int .i64 a1), (2, .int .i64 a2), (3, .int .i64 a3), (4, .bool a4), (11, (sv v4)), (12, .int .i64 s1.2.1)] ∧ Sep S w W' [.box g_0 100 [(sv v_0_b), .int .i64 s1.2.2], rowV (sv v4) 160 8 dStmt s1.1]) (fun y2 x E' W' => x = .exit 0 ∧ ∃ (v5 : Hd), SubL E' [(11, (sv v5))] ∧ Sep S w W' [.box g_0 100 [(sv v_0_b), .int .i64 y2.2], rowV (sv v5) 160 8 dStmt y2.1]) hy1 ⟨v1, sb z, hS.to [1, 0] z⟩ ?_) ?_
 ·intro s1 y3 E W h hI
  obtain ⟨v3, hE, hS⟩ := hI
  refine CW.sub hE ?_
  unfold spec_l92Block_b1 at h
  refine .seq (.seq (.region (.q z (.q z (.q z (.nil (.cond z (fun hb => ?_) (fun hb => ?_))))))))
  ·have h := sel_t hb h
   refine .skip (.seq (.block (.region (.q z (.q z (.q z (.q z (.q z ?_))))))))
   have ⟨y4, hy4, h⟩ := bnd h
   refine .c (.callS2 (L0 := [.box g_0 100 [(sv v_0_b), .int .i64 s1.2.2]]) hS Tryz.func164 (fun S h1 h2 h3 => (ih_spec_l92Stmt hy4 (hS.keepS q_0_b h1) h2 (fun b hb => (h1 b hb).2))) z z ?_ z (by kernel_rfl) z z)
   rintro v6 W hS
   have ⟨r1, hr1, h⟩ := bnd h
   refine .c (.appv hr1 (hS.to [2, 1, 0] z) T.u134 T.t160 z z z ?_ z z z z z)
   intro v7 W hS
   refine .q z (.nil (.region (.q z (.q z (.q z (.nil ?_))))))
   cases h
   exact ⟨z, v7, sb z, hS.to [1, 0] z⟩
  have h := sel_f hb h
  refine .exit ?_
  cases h
  exact ⟨by simp, z, v3, sb z, hS.to [0, 0] z⟩
 intro x E W hJ
 obtain ⟨rfl, v8, hE, hS⟩ := hJ
 refine ⟨_, hE.sub, ?_⟩
 cases h
 exact .seq (.region (.q z (.q z (.nil (.ret (fin_ret (vs := [_]) v8 (rt z rn) z (hS.to [0, 0] z)))))))
def spec_l92Stmt_F (w : World) (S : Nat → Prop) (v_0_b : Hd) (g_0 : Nat) (a0 : L6Rd) (a1 : Int) (a2 : Int) (a3 : Bool) (r : (List Stmt) × Int) : Env → World → Prop := Fin Tryz.prog Tryz.f164 S w (fun s : Hd => (sv s)) (fun s => [.box g_0 100 [(sv v_0_b), .int .i64 r.2], rowV (sv s) 160 8 dStmt r.1]) .ret
theorem spec_l92Stmt_s {k : Nat} {F_spec_l92Block : L6Rd → Int → Int → Int → Bool → Option ((List Stmt) × Int)} {F_spec_l92Stmt : L6Rd → Int → Int → Bool → Option ((List Stmt) × Int)} {F_spec_l92If : L6Rd → Int → Int → Bool → Option (Stmt × Int)} {F_spec_l92Loop : L6Rd → Int → Int → Option ((List Stmt) × Int)} (ih_spec_l92Block : spec_l92Block_C F_spec_l92Block) (ih_spec_l92Stmt : spec_l92Stmt_C F_spec_l92Stmt) (ih_spec_l92If : spec_l92If_C F_spec_l92If) (ih_spec_l92Loop : spec_l92Loop_C F_spec_l92Loop) : spec_l92Stmt_C (spec_l92Stmt_R k F_spec_l92Block F_spec_l92Stmt F_spec_l92If F_spec_l92Loop) := by
 intro a0 a1 a2 a3 v_0_b g_0 S w r h q_0_b hO hlt
 unfold spec_l92Stmt_R at h
 refine enter Tryz.func164 z z ?_
 have hS := Sep.startM hO hlt
 refine .seq (.region (.q z (.nil ?_)))
 have ⟨y1, hy1, h⟩ := bnd h
 refine .seq (CW.via (R' := fun x E' W' => (match y1 with | .inl o1 => x = .normal ∧ SubL E' [(0, .pointer (some ⟨g_0, 0, none⟩))] ∧ Sep S w W' [.box g_0 100 [(sv v_0_b), .int .i64 o1]] | .inr o2 => x = .ret ∧ spec_l92Stmt_F w S v_0_b g_0 a0 a1 a2 a3 o2 E' W')) ?_ ?_)
 ·have h := hy1
  refine .seq (.region (.q z ?_))
  have ⟨y2, hy2, h⟩ := bnd h
  refine .c (.callS2 (L0 := [.box g_0 100 [(sv v_0_b), .int .i64 a0.p]]) hS Tryz.func36 (fun S h1 h2 h3 => (spec_l6Rd_pick_ok hy2 (hS.keepS q_0_b h1) h2 (fun b hb => (h1 b hb).2))) z z ?_ z (by kernel_rfl) z z)
  rintro ⟨⟩ W hS
  refine .nil (.block ?_)
  have ⟨y3, hy3, h⟩ := bnd h
  refine .seq (CW.via (R' := fun x E' W' => x = .normal ∧ SubL E' [(0, .pointer (some ⟨g_0, 0, none⟩)), (1, .int .i64 a1), (2, .int .i64 a2), (3, .bool a3), (10, .int .i64 y2.1), (11, .bool y3)] ∧ Sep S w W' [.box g_0 100 [(sv v_0_b), .int .i64 y2.2]]) ?_ ?_)
  ·have h := hy3
   refine .seq (.region (.q z (.q z (.nil ?_))))
   refine .cs z h ?_ ?_ <;> intro h
   ·refine .skip ?_
    cases h
    exact ⟨z, sb z, hS.to [0] z⟩
   refine .region (.q z (.q z (.nil ?_)))
   cases h
   exact ⟨z, sb z, hS.to [0] z⟩
  intro x E W hJ
  obtain ⟨rfl, hE, hS⟩ := hJ
  refine ⟨_, hE.sub, ?_⟩
  refine .cond z (fun hb => ?_) (fun hb => ?_)
  ·have h := sel_t hb h
   refine .seq (.region (.q z ?_))
   have ⟨y4, hy4, h⟩ := bnd h
   refine .c (.callS2 (L0 := [.box g_0 100 [(sv v_0_b), .int .i64 y2.2]]) hS Tryz.func175 (fun S h1 h2 h3 => (spec_l92Set_ok hy4 (hS.keepS q_0_b h1) h2 (fun b hb => (h1 b hb).2))) z z ?_ z (by kernel_rfl) z z)
   rintro ⟨v1, v2, v3⟩ W hS
   refine .c (.ligv (L1 := [rowV (sv v1) 158 3 dExpr y4.1.Expr.Args, rowV (sv v2) 160 8 dStmt y4.1.Body, rowV (sv v3) 160 8 dStmt y4.1.Else]) [(Stmt.mk y4.1.Kind y4.1.Var y4.1.Box (Expr.mk y4.1.Expr.Op y4.1.Expr.N y4.1.Expr.Args) y4.1.Body y4.1.Else)] dStmt T.u134 T.t160 (hS.to [1, 1, 1, 0] z) z z z (.aggE (eStmt _) (.flat (c1 := [.int .i64 y4.1.Kind]) z (.flat (c1 := [.int .i64 y4.1.Var]) z (.flat (c1 := [.int .i64 y4.1.Box]) z (.aggE (eExpr _) (.flat (c1 := [.int .i64 y4.1.Expr.Op]) z (.flat (c1 := [.int .i64 y4.1.Expr.N]) z (.row (.row (.row .nil)))))))))) ?_ z zStmt z z z z z)
   intro v4 W hS
   refine .q z (.nil (.ret ?_))
   cases h
   exact ⟨z, fin_ret (vs := [_]) v4 (rt z rn) z (hS.to [1, 0] z)⟩
  have h := sel_f hb h
  refine .seq (.region (.q z (.q z (.nil ?_))))
  refine .cs z h ?_ ?_ <;> intro h
  ·refine .seq (.region (.q z (.q z (.nil (.cond z (fun hb => ?_) (fun hb => ?_))))))
   ·have h := sel_t hb h
    refine .seq (.region (.q z (.q z (.q z (.q z ?_)))))
    have ⟨y5, hy5, h⟩ := bnd h
    refine .c (.callS2 (L0 := [.box g_0 100 [(sv v_0_b), .int .i64 y2.2]]) hS Tryz.func176 (fun S h1 h2 h3 => (ih_spec_l92If hy5 (hS.keepS q_0_b h1) h2 (fun b hb => (h1 b hb).2))) z z ?_ z (by kernel_rfl) z z)
    rintro ⟨v5, v6, v7⟩ W hS
    refine .c (.ligv (L1 := [rowV (sv v5) 158 3 dExpr y5.1.Expr.Args, rowV (sv v6) 160 8 dStmt y5.1.Body, rowV (sv v7) 160 8 dStmt y5.1.Else]) [(Stmt.mk y5.1.Kind y5.1.Var y5.1.Box (Expr.mk y5.1.Expr.Op y5.1.Expr.N y5.1.Expr.Args) y5.1.Body y5.1.Else)] dStmt T.u134 T.t160 (hS.to [1, 1, 1, 0] z) z z z (.aggE (eStmt _) (.flat (c1 := [.int .i64 y5.1.Kind]) z (.flat (c1 := [.int .i64 y5.1.Var]) z (.flat (c1 := [.int .i64 y5.1.Box]) z (.aggE (eExpr _) (.flat (c1 := [.int .i64 y5.1.Expr.Op]) z (.flat (c1 := [.int .i64 y5.1.Expr.N]) z (.row (.row (.row .nil)))))))))) ?_ z zStmt z z z z z)
    intro v8 W hS
    refine .q z (.nil (.ret ?_))
    cases h
    exact ⟨z, fin_ret (vs := [_]) v8 (rt z rn) z (hS.to [1, 0] z)⟩
   have h := sel_f hb h
   refine .skip ?_
   cases h
   exact ⟨z, sb z, hS.to [0] z⟩
  refine .seq (.region (.q z (.q z (.nil ?_))))
  refine .cs z h ?_ ?_ <;> intro h
  ·refine .seq (.region (.q z (.q z (.q z (.chunk 2 33 ((decide (a2 > 0)) && a3) hS ?_ ?_)))))
   ·refine .both (decide (a2 > 0)) (fun hb => ?_) (fun hb => ?_)
    ·have hg1 := hb
     exact .g hg1 (.q z (.s (pkt hg1 z z z) z (.nil (ck 2 hS z (and_t hg1) z z)))) z
    exact .xx hb z (.s (pkf hb z z z) z (.nil (ck 2 hS z (and_f hb) z z)))
   intro W hS
   refine .nil (.cond z (fun hb => ?_) (fun hb => ?_))
   ·have h := sel_t hb h
    refine .seq (.region (.q z (.q z (.q z ?_))))
    have ⟨y6, hy6, h⟩ := bnd h
    refine .c (.callS2 (L0 := [.box g_0 100 [(sv v_0_b), .int .i64 y2.2]]) hS Tryz.func177 (fun S h1 h2 h3 => (ih_spec_l92Loop hy6 (hS.keepS q_0_b h1) h2 (fun b hb => (h1 b hb).2))) z z ?_ z (by kernel_rfl) z z)
    rintro v9 W hS
    refine .q z (.nil (.ret ?_))
    cases h
    exact ⟨z, fin_ret (vs := [_]) v9 (rt z rn) z (hS.to [0, 0] z)⟩
   have h := sel_f hb h
   refine .skip ?_
   cases h
   exact ⟨z, sb z, hS.to [0] z⟩
  have ⟨y7, hy7, h⟩ := bnd h
  refine .seq (CW.via (R' := fun x E' W' => x = .normal ∧ SubL E' [(0, .pointer (some ⟨g_0, 0, none⟩)), (1, .int .i64 a1), (10, .int .i64 y2.1), (38, .bool y7)] ∧ Sep S w W' [.box g_0 100 [(sv v_0_b), .int .i64 y2.2]]) ?_ ?_)
  ·have h := hy7
   refine .seq (.region (.q z (.q z (.nil ?_))))
   refine .cs z h ?_ ?_ <;> intro h
   ·refine .skip ?_
    cases h
    exact ⟨z, sb z, hS.to [0] z⟩
   refine .seq (.region (.q z (.q z (.nil ?_))))
   refine .cs z h ?_ ?_ <;> intro h
   ·refine .skip ?_
    cases h
    exact ⟨z, sb z, hS.to [0] z⟩
   refine .region (.q z (.q z (.nil ?_)))
   cases h
   exact ⟨z, sb z, hS.to [0] z⟩
  intro x E W hJ
  obtain ⟨rfl, hE, hS⟩ := hJ
  refine ⟨_, hE.sub, ?_⟩
  refine .cond z (fun hb => ?_) (fun hb => ?_)
  ·have h := sel_t hb h
   refine .seq (.region (.q z (.q z ?_)))
   have ⟨y8, hy8, h⟩ := bnd h
   refine .c (.callS2 (L0 := [.box g_0 100 [(sv v_0_b), .int .i64 y2.2]]) hS Tryz.func178 (fun S h1 h2 h3 => (spec_l92Talk_ok hy8 (hS.keepS q_0_b h1) h2 (fun b hb => (h1 b hb).2))) z z ?_ z (by kernel_rfl) z z)
   rintro ⟨v10, v11, v12⟩ W hS
   refine .c (.ligv (L1 := [rowV (sv v10) 158 3 dExpr y8.1.Expr.Args, rowV (sv v11) 160 8 dStmt y8.1.Body, rowV (sv v12) 160 8 dStmt y8.1.Else]) [(Stmt.mk y8.1.Kind y8.1.Var y8.1.Box (Expr.mk y8.1.Expr.Op y8.1.Expr.N y8.1.Expr.Args) y8.1.Body y8.1.Else)] dStmt T.u134 T.t160 (hS.to [1, 1, 1, 0] z) z z z (.aggE (eStmt _) (.flat (c1 := [.int .i64 y8.1.Kind]) z (.flat (c1 := [.int .i64 y8.1.Var]) z (.flat (c1 := [.int .i64 y8.1.Box]) z (.aggE (eExpr _) (.flat (c1 := [.int .i64 y8.1.Expr.Op]) z (.flat (c1 := [.int .i64 y8.1.Expr.N]) z (.row (.row (.row .nil)))))))))) ?_ z zStmt z z z z z)
   intro v13 W hS
   refine .q z (.nil (.ret ?_))
   cases h
   exact ⟨z, fin_ret (vs := [_]) v13 (rt z rn) z (hS.to [1, 0] z)⟩
  have h := sel_f hb h
  refine .seq (.region (.q z (.q z (.nil ?_))))
  refine .cs z h ?_ ?_ <;> intro h
  ·refine .seq (.region (.s (bs T.s160 z z) z ?_))
   have hS := hS.nilv 158 3 dExpr
   have hS := hS.nilv 160 8 dStmt
   have hS := hS.nilv 160 8 dStmt
   refine .c (.ligv (L1 := [rowV (sv nilH) 158 3 dExpr [], rowV (sv nilH) 160 8 dStmt [], rowV (sv nilH) 160 8 dStmt []]) [(Stmt.mk 6 0 0 (Expr.mk 0 0 []) [] [])] dStmt T.u134 T.t160 (hS.to [2, 1, 0, 0] z) z z z (.aggE (eStmt _) (.flat (c1 := [.int .i64 6]) z (.flat (c1 := [.int .i64 0]) z (.flat (c1 := [.int .i64 0]) z (.aggE (eExpr _) (.flat (c1 := [.int .i64 0]) z (.flat (c1 := [.int .i64 0]) z (.row (.row (.row .nil)))))))))) ?_ z zStmt z z z z z)
   intro v14 W hS
   refine .q z (.nil (.ret ?_))
   cases h
   exact ⟨z, fin_ret (vs := [_]) v14 (rt z rn) z (hS.to [1, 0] z)⟩
  refine .skip ?_
  cases h
  exact ⟨z, sb z, hS.to [0] z⟩
 intro x E W hJ
 rcases y1 with o3 | o4
 ·obtain ⟨rfl, hE, hS⟩ := hJ
  refine ⟨_, hE.sub, ?_⟩
  refine .seq (.region (.q z (.q z ?_)))
  have ⟨y9, hy9, h⟩ := bnd h
  refine .c (.callS2 (L0 := [.box g_0 100 [(sv v_0_b), .int .i64 o3]]) hS Tryz.func36 (fun S h1 h2 h3 => (spec_l6Rd_pick_ok hy9 (hS.keepS q_0_b h1) h2 (fun b hb => (h1 b hb).2))) z z ?_ z (by kernel_rfl) z z)
  rintro ⟨⟩ W hS
  refine .q z ?_
  have ⟨y10, hy10, h⟩ := bnd h
  refine .c (.callS2 (L0 := [.box g_0 100 [(sv v_0_b), .int .i64 y9.2]]) hS Tryz.func179 (fun S h1 h2 h3 => (spec_l91Expr_ok hy10 (hS.keepS q_0_b h1) h2 (fun b hb => (h1 b hb).2))) z z ?_ z (by kernel_rfl) z z)
  rintro v15 W hS
  refine .s (bs T.s160 z z) z ?_
  have hS := hS.nilv 160 8 dStmt
  have hS := hS.nilv 160 8 dStmt
  refine .c (.ligv (L1 := [rowV (sv v15) 158 3 dExpr y10.1.Args, rowV (sv nilH) 160 8 dStmt [], rowV (sv nilH) 160 8 dStmt []]) [(Stmt.mk 7 0 0 (Expr.mk y10.1.Op y10.1.N y10.1.Args) [] [])] dStmt T.u134 T.t160 (hS.to [3, 1, 0, 0] z) z z z (.aggE (eStmt _) (.flat (c1 := [.int .i64 7]) z (.flat (c1 := [.int .i64 0]) z (.flat (c1 := [.int .i64 0]) z (.aggE (eExpr _) (.flat (c1 := [.int .i64 y10.1.Op]) z (.flat (c1 := [.int .i64 y10.1.N]) z (.row (.row (.row .nil)))))))))) ?_ z zStmt z z z z z)
  intro v16 W hS
  cases h
  exact .q z (.nil (.ret (fin_ret (vs := [_]) v16 (rt z rn) z (hS.to [1, 0] z))))
 obtain ⟨rfl, hF⟩ := hJ
 refine ⟨_, fun _ _ h => h, ?_⟩
 cases h
 exact hF
theorem spec_l92If_s {k : Nat} {F_spec_l92Block : L6Rd → Int → Int → Int → Bool → Option ((List Stmt) × Int)} {F_spec_l92Stmt : L6Rd → Int → Int → Bool → Option ((List Stmt) × Int)} {F_spec_l92If : L6Rd → Int → Int → Bool → Option (Stmt × Int)} {F_spec_l92Loop : L6Rd → Int → Int → Option ((List Stmt) × Int)} (ih_spec_l92Block : spec_l92Block_C F_spec_l92Block) (ih_spec_l92Stmt : spec_l92Stmt_C F_spec_l92Stmt) (ih_spec_l92If : spec_l92If_C F_spec_l92If) (ih_spec_l92Loop : spec_l92Loop_C F_spec_l92Loop) : spec_l92If_C (spec_l92If_R k F_spec_l92Block F_spec_l92Stmt F_spec_l92If F_spec_l92Loop) := by
 intro a0 a1 a2 a3 v_0_b g_0 S w r h q_0_b hO hlt
 unfold spec_l92If_R at h
 refine enter Tryz.func176 z z ?_
 have hS := Sep.startM hO hlt
 refine .seq (.region (.c (.alloc T.t160 hS ?_ z z z)))
 intro g1 W hS
 refine .nil (.seq (.region (.q z (.q z ?_))))
 have ⟨y1, hy1, h⟩ := bnd h
 have hS := hS.p1
 refine .c (.callS2 (L0 := [.box g_0 100 [(sv v_0_b), .int .i64 a0.p]]) hS Tryz.func36 (fun S h1 h2 h3 => (spec_l6Rd_pick_ok hy1 (hS.keepS q_0_b h1) h2 (fun b hb => (h1 b hb).2))) z z ?_ z (by kernel_rfl) z z)
 rintro ⟨⟩ W hS
 refine .q z ?_
 have ⟨y2, hy2, h⟩ := bnd h
 refine .c (.callS2 (L0 := [.box g_0 100 [(sv v_0_b), .int .i64 y1.2]]) hS Tryz.func179 (fun S h1 h2 h3 => (spec_l91Expr_ok hy2 (hS.keepS q_0_b h1) h2 (fun b hb => (h1 b hb).2))) z z ?_ z (by kernel_rfl) z z)
 rintro v1 W hS
 refine .c (.alloc T.t158 hS ?_ z z z)
 intro g2 W hS
 refine .c (.st T.t158 hS z z z ?_ z z z z z)
 intro W hS
 refine .nil (.seq (.region (.q z (.q z (.q z (.q z (.q z ?_)))))))
 have ⟨y3, hy3, h⟩ := bnd h
 have hS := hS.p1
 refine .c (.callS2 (L0 := [.box g_0 100 [(sv v_0_b), .int .i64 y2.2]]) hS Tryz.func36 (fun S h1 h2 h3 => (spec_l6Rd_pick_ok hy3 (hS.keepS q_0_b h1) h2 (fun b hb => (h1 b hb).2))) z z ?_ z (by kernel_rfl) z z)
 rintro ⟨⟩ W hS
 refine .q z ?_
 have ⟨y4, hy4, h⟩ := bnd h
 refine .c (.callS2 (L0 := [.box g_0 100 [(sv v_0_b), .int .i64 y3.2]]) hS Tryz.func149 (fun S h1 h2 h3 => (ih_spec_l92Block hy4 (hS.keepS q_0_b h1) h2 (fun b hb => (h1 b hb).2))) z z ?_ z (by kernel_rfl) z z)
 rintro v2 W hS
 refine .q z (.nil (.seq (.rk 11 hS [1, 1, 1, 1] T.mix ?_)))
 intro W hS
 have hT := hS.to [1, 1, 1, 1] z
 refine .ts 0 z (fun W hT => ld T.t158 hT.p1 z z z z z) hT z (by kernel_rfl) (.tp 1 z z hT (by kernel_rfl) (.tp 2 z z hT (by kernel_rfl) (.tp 3 z z hT (by kernel_rfl) (.tp 4 z z hT (by kernel_rfl) (.tp 5 z z hT (by kernel_rfl) (.tp 6 z z hT (by kernel_rfl) (.tp 8 z z hT (by kernel_rfl) ?_)))))))
 have ⟨y5, hy5, h⟩ := bnd h
 refine .by1 7 z (.callS2 (L0 := [.box g_0 100 [(sv v_0_b), .int .i64 y4.2]]) hS Tryz.func36 (fun S h1 h2 h3 => (spec_l6Rd_pick_ok hy5 (hS.keepS q_0_b h1) h2 (fun b hb => (h1 b hb).2))) z z ?_ z (by kernel_rfl) z z) (by kernel_rfl)
 rintro ⟨⟩ W hS
 have hT := hS.to [1, 1, 1, 1] z
 refine ⟨fun _ => hT, ?_⟩
 have ⟨y6, hy6, h⟩ := bnd h
 refine .by1 9 z (.callS2 (L0 := [.box g_0 100 [(sv v_0_b), .int .i64 y5.2]]) hS Tryz.func149 (fun S h1 h2 h3 => (ih_spec_l92Block hy6 (hS.keepS q_0_b h1) h2 (fun b hb => (h1 b hb).2))) z z ?_ z (by kernel_rfl) z z) (by kernel_rfl)
 rintro v3 W hS
 have hT := hS.to [2, 2, 2, 2] z
 refine ⟨fun _ => hT, ?_⟩
 refine .ts 10 z (fun W hT => bs T.s160 z z) hT z (by kernel_rfl) (.by1 11 z (.st T.t160 hS.p5 z z z ?_ z z z z z) (by kernel_rfl))
 intro W hS
 refine ⟨fun h => absurd z h, ?_⟩
 cases h
 exact .done (.ret (fin_ret (vs := [_]) (v1, v2, v3) (rc hS T.t160 z rn z z) z (hS.to [1, 4, 2, 1] z))) (by kernel_rfl)
end Go.Proofs.YtmpplggjpmmhlaaGreatDoor.N
end
