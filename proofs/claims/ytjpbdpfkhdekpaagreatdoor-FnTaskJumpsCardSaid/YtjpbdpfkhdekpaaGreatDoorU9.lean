/- Plain laws: the instructions of a quad, of a code: the program's are the reference's. -/
import Derived.Test.YtjpbdpfkhdekpaaGreatDoorU8
set_option linter.unusedVariables false
namespace Go.Proofs.YtjpbdpfkhdekpaaGreatDoor.N
open Go.Proofs.YtjpbdpfkhdekpaaGreatDoor.X
def rgOf (c p s : Int) : Int := if p < c then (colorRegs[p.toNat]?).getD 0 else s
def rdL (c p s : Int) : List Instr := if p < c then [] else [⟨14, s, 2, 0, 4 * (p - c)⟩]
def wrL (c p : Int) : List Instr := if p < c then [] else [⟨16, 0, 2, 7, 4 * (p - c)⟩]
def callL (n : Int) : List Instr := [⟨12, 17, 0, 0, n⟩, ⟨15, 1, 0, 0, 0⟩]
def opOf (n : Int) : Int := (binInstrs[(n - 1).toNat]?).getD 0
def quadL (q : Quad) (c off : Int) : List Instr :=
  if q.Op = 1 then constL (rgOf c q.Dst 7) q.N ++ wrL c q.Dst
  else if q.Op = 2 then rdL c q.A 5 ++ [⟨12, rgOf c q.Dst 7, rgOf c q.A 5, 0, 0⟩] ++ wrL c q.Dst
  else if q.Op = 3 then rdL c q.A 5 ++ rdL c q.B 6 ++ [⟨opOf q.N, rgOf c q.Dst 7, rgOf c q.A 5, rgOf c q.B 6, 0⟩] ++ (if q.N = 4 then [⟨13, rgOf c q.Dst 7, rgOf c q.Dst 7, 0, 1⟩] else []) ++ wrL c q.Dst
  else if q.Op = 4 then [⟨20, 0, 0, 0, off⟩]
  else if q.Op = 5 then rdL c q.A 5 ++ [⟨18, 0, rgOf c q.A 5, 0, 8⟩] ++ [⟨20, 0, 0, 0, off - 4 * ((rdL c q.A 5).length + 1)⟩]
  else if q.Op = 6 then rdL c q.A 5 ++ [⟨12, 10, rgOf c q.A 5, 0, 0⟩, ⟨12, 11, 0, 0, q.N⟩] ++ callL 1
  else if q.Op = 7 then [⟨12, 11, 0, 0, q.N⟩] ++ callL 2 ++ [⟨12, rgOf c q.Dst 7, 10, 0, 0⟩] ++ wrL c q.Dst
  else if q.Op = 8 then callL 3
  else if q.Op = 9 then rdL c q.A 5 ++ [⟨12, 10, rgOf c q.A 5, 0, 0⟩] ++ callL 4
  else callL 5
theorem rd_len (c p s : Int) : (rdL c p s).length ≤ 1 := by unfold rdL; split <;> simp
theorem wr_len (c p : Int) : (wrL c p).length ≤ 1 := by unfold wrL; split <;> simp
theorem const_len (r n : Int) : 1 ≤ (constL r n).length ∧ (constL r n).length ≤ 2 := by unfold constL; split <;> simp
theorem sreg_eq {c p s : Int} (hc : 1 ≤ c ∧ c ≤ 8) (hp : Rg p) : spec_l43Reg p c s = some (rgOf c p s) := by
  refine Tot.eq ?_
  unfold spec_l43Reg rgOf Rg at *
  refine .sel (fun h => .pure (by simp at h; rw [if_neg (by omega)])) fun h => ?_
  simp at h
  refine .bind (.nth (by omega) (by simp; omega)) fun x ⟨hx, _⟩ => .pure ?_
  rw [if_pos h]
  show x = ((colorRegs[p.toNat]?).getD 0)
  unfold colorRegs
  rw [hx]; rfl
theorem creg_nth {c p : Int} (hc : 1 ≤ c ∧ c ≤ 8) (hp : Rg p) (h : p < c) (s : Int) : nth colorRegs p = some (rgOf c p s) := by
  unfold Rg at hp
  refine (Tot.nth (l := colorRegs) hp.1 (by simp [colorRegs]; omega)).mono (Q := fun x => x = rgOf c p s) (fun x ⟨hx, _⟩ => ?_) |>.eq
  unfold rgOf
  rw [if_pos h, hx]; rfl
theorem sread_eq {c p s : Int} (hc : 1 ≤ c ∧ c ≤ 8) (hp : Rg p) : spec_l43Read p c s = some (rdL c p s) := by
  refine Tot.eq ?_
  unfold spec_l43Read rdL Rg at *
  refine .sel (fun h => .pure (by simp at h; rw [if_pos h])) fun h => .pure ?_
  simp at h
  rw [if_neg (by omega), w64_s (i := p - c) (by omega) (by omega), w64_s (by omega) (by omega)]
theorem swrite_eq {c p : Int} (hc : 1 ≤ c ∧ c ≤ 8) (hp : Rg p) {l : List Instr} (hl : l.length ≤ 1000) : spec_l43Write l p c = some (l ++ wrL c p) := by
  refine Tot.eq ?_
  unfold spec_l43Write wrL Rg at *
  refine .sel (fun h => .pure (by simp at h; rw [if_pos h, List.append_nil])) fun h => ?_
  simp at h
  rw [if_neg (by omega), w64_s (i := p - c) (by omega) (by omega), w64_s (by omega) (by omega)]
  exact .bind (.app (by simp; omega)) fun r hr => .pure hr
theorem scall_eq {n : Int} {l : List Instr} (hl : l.length ≤ 1000) : spec_l43Call l n = some (l ++ callL n) := by
  refine Tot.eq ?_
  unfold spec_l43Call
  refine .bind (.app (by simp; omega)) fun r hr => .bind (.app (by subst hr; simp; omega)) fun r2 hr2 => .pure ?_
  subst hr hr2; simp [callL]
theorem opnth {n : Int} (h : 1 ≤ n ∧ n ≤ 12) : nth binInstrs (w64 (n - 1)) = some (opOf n) := by
  rw [w64_s (by omega) (by omega)]
  refine (Tot.nth (l := binInstrs) (i := n - 1) (by omega) (by simp [binInstrs]; omega)).mono (Q := fun x => x = opOf n) (fun x ⟨hx, _⟩ => ?_) |>.eq
  unfold opOf; rw [hx]; rfl
theorem sop_eq {n : Int} (h : 1 ≤ n ∧ n ≤ 12) : spec_l43Op n = some (opOf n) := by
  unfold spec_l43Op
  have := opnth h
  unfold binInstrs at this
  rw [this]; rfl
theorem sgive_eq {c p : Int} (hc : 1 ≤ c ∧ c ≤ 8) (hp : Rg p) : spec_l43Give p c = some (rdL c p 5 ++ [⟨12, 10, rgOf c p 5, 0, 0⟩]) := by
  refine Tot.eq ?_
  unfold spec_l43Give spec_l43Move
  rw [sread_eq hc hp, sreg_eq hc hp]
  simp only [Option.bind_some]
  have := rd_len c p 5
  exact .bind (.app (by simp; omega)) fun r hr => .pure hr
theorem squad_eq {q : Quad} {m c off : Int} (hq : QOk m q) (hc : 1 ≤ c ∧ c ≤ 8) (ho : -1000000 ≤ off ∧ off ≤ 1000000) : spec_l43Quad q c off = some (quadL q c off) := by
  have hd : Rg q.Dst := by unfold QOk at hq; unfold Rg at *; omega
  have l1 := rd_len c q.A 5
  have l2 := rd_len c q.B 6
  refine Tot.eq ?_
  unfold spec_l43Quad quadL
  rw [sreg_eq hc hd, Option.bind_some]
  refine .sel (fun h => ?_) fun h1 => .sel (fun h => ?_) fun h2 => .sel (fun h => ?_) fun h3 => .sel (fun h => ?_) fun h4 => .sel (fun h => ?_) fun h5 => .sel (fun h => ?_) fun h6 => .sel (fun h => ?_) fun h7 => .sel (fun h => ?_) fun h8 => .sel (fun h => ?_) fun h9 => ?_
  all_goals
    simp only [beq_iff_eq, beq_eq_false_iff_ne, ne_eq] at *
    unfold QOk at hq
  · simp [h] at hq
    have := const_len (rgOf c q.Dst 7) q.N
    rw [if_pos h, (const_eq hq.2.2.2).1, Option.bind_some, swrite_eq hc hd (by omega)]; exact .pure rfl
  · simp [h] at hq
    rw [if_neg h1, if_pos h, sread_eq hc hq.2.1, sreg_eq hc hq.2.1]
    simp only [Option.bind_some, spec_l43Move]
    refine .bind (.app (by simp; omega)) fun r hr => ?_
    rw [swrite_eq hc hd (by subst hr; simp; omega), hr]; exact .pure rfl
  · simp [h] at hq
    rw [if_neg h1, if_neg h2, if_pos h]
    refine .bind (P := fun r => r = _) ?_ fun r hr => .pure hr
    unfold spec_l43Bin
    rw [sread_eq hc hq.2.1, sread_eq hc hq.2.2.1, sreg_eq hc hq.2.1, sreg_eq hc hq.2.2.1, sreg_eq hc hd, sop_eq hq.2.2.2]
    simp only [Option.bind_some]
    refine .bind (.app (by omega)) fun r hr => .bind (.app (by subst hr; simp; omega)) fun r2 hr2 => ?_
    have e2 : r2.length ≤ 3 := by subst hr hr2; simp; omega
    refine .bind (P := fun y => y = r2 ++ (if q.N = 4 then [⟨13, rgOf c q.Dst 7, rgOf c q.Dst 7, 0, 1⟩] else []) ∧ y.length ≤ 4) (.sel (fun h => .bind (.app (by simp; omega)) fun r3 hr3 => .pure ?_) fun h => .pure ?_) fun y ⟨hy, hyl⟩ => ?_
    · simp at h; rw [if_pos h, hr3]; exact ⟨rfl, by simp; omega⟩
    · simp at h; rw [if_neg h, List.append_nil]; exact ⟨rfl, by omega⟩
    · rw [swrite_eq hc hd (by omega), hy, hr2, hr]
      exact .pure (by simp)
  · rw [if_neg h1, if_neg h2, if_neg h3, if_pos h]; exact .pure rfl
  · simp [h] at hq
    rw [if_neg h1, if_neg h2, if_neg h3, if_neg h4, if_pos h]
    refine .bind (P := fun r => r = _) ?_ fun r hr => .pure hr
    unfold spec_l43Zero
    rw [sread_eq hc hq.2.1, sreg_eq hc hq.2.1]
    simp only [Option.bind_some]
    refine .bind (.app (by simp; omega)) fun r hr => ?_
    have e1 : r.length = (rdL c q.A 5).length + 1 := by subst hr; simp
    rw [w64_s (i := 4 * (r.length : Int)) (by omega) (by omega), w64_s (by omega) (by omega)]
    refine .bind (.app (by simp; omega)) fun r2 hr2 => .pure ?_
    rw [hr2, e1, hr]; simp
  · simp [h] at hq
    rw [if_neg h1, if_neg h2, if_neg h3, if_neg h4, if_neg h5, if_pos h, sgive_eq hc hq.2.1]
    simp only [Option.bind_some, spec_l43Box]
    refine .bind (.app (by simp; omega)) fun r hr => ?_
    rw [scall_eq (by subst hr; simp; omega), hr]; exact .pure (by simp)
  · simp [h] at hq
    rw [if_neg h1, if_neg h2, if_neg h3, if_neg h4, if_neg h5, if_neg h6, if_pos h]
    simp only [Option.bind_some, spec_l43Box, spec_l43Move]
    rw [scall_eq (by simp), Option.bind_some]
    refine .bind (.app (by simp [callL])) fun r hr => ?_
    rw [swrite_eq hc hd (by subst hr; simp [callL]), hr]; exact .pure (by simp)
  · rw [if_neg h1, if_neg h2, if_neg h3, if_neg h4, if_neg h5, if_neg h6, if_neg h7, if_pos h, scall_eq (by simp)]; exact .pure (by simp)
  · simp [h] at hq
    rw [if_neg h1, if_neg h2, if_neg h3, if_neg h4, if_neg h5, if_neg h6, if_neg h7, if_neg h8, if_pos h, sgive_eq hc hq.2.1, Option.bind_some, scall_eq (by simp; omega)]; exact .pure (by simp)
  · rw [if_neg h1, if_neg h2, if_neg h3, if_neg h4, if_neg h5, if_neg h6, if_neg h7, if_neg h8, if_neg h9, scall_eq (by simp)]; exact .pure (by simp)
/-! ### The program's emitter -/
theorem emit_eq {c : Int} {l l2 : List Instr} (h : l.length + l2.length ≤ 1000) : impl_emitter_emit ⟨c, l⟩ l2 = some (l ++ l2) := by
  unfold impl_emitter_emit
  rw [app_ok (by simp only; omega)]; rfl
theorem read_eq {c p s : Int} (hc : 1 ≤ c ∧ c ≤ 8) (hp : Rg p) {l : List Instr} (hl : l.length ≤ 900) : impl_emitter_read ⟨c, l⟩ p s = some (rgOf c p s, l ++ rdL c p s) := by
  refine Tot.eq ?_
  unfold impl_emitter_read rdL
  refine .sel (fun h => ?_) fun h => ?_
  · simp at h
    rw [creg_nth hc hp h s, if_pos h, List.append_nil]; exact .pure rfl
  · simp at h
    unfold Rg at hp
    rw [if_neg (by omega), w64_s (i := p - c) (by omega) (by omega), w64_s (by omega) (by omega), emit_eq (by simp; omega)]
    unfold rgOf
    rw [if_neg (by omega)]; exact .pure rfl
theorem write_eq {c p : Int} (hc : 1 ≤ c ∧ c ≤ 8) (hp : Rg p) {l : List Instr} (hl : l.length ≤ 900) {f : Int → Option (List Instr)} {g : Int → List Instr} (hf : ∀ r, f r = some (g r)) (hg : ∀ r, (g r).length ≤ 2) : impl_emitter_write ⟨c, l⟩ p f = some (l ++ g (rgOf c p 7) ++ wrL c p) := by
  refine Tot.eq ?_
  unfold impl_emitter_write wrL
  simp only [hf, Option.bind_some]
  have h1 := hg (rgOf c p 7)
  refine .sel (fun h => ?_) fun h => ?_
  · simp at h
    rw [creg_nth hc hp h 7, Option.bind_some, emit_eq (by omega), if_pos h, List.append_nil]; exact .pure rfl
  · simp at h
    have e : rgOf c p 7 = 7 := by unfold rgOf; rw [if_neg (by omega)]
    rw [e] at h1 ⊢
    unfold Rg at hp
    rw [if_neg (by omega), w64_s (i := p - c) (by omega) (by omega), w64_s (by omega) (by omega), emit_eq (by omega), Option.bind_some, emit_eq (by simp; omega)]; exact .pure rfl
theorem call_eq {c n : Int} {l : List Instr} (hl : l.length ≤ 900) : impl_emitter_call ⟨c, l⟩ n = some (l ++ callL n) := by
  unfold impl_emitter_call impl_addi
  rw [Option.bind_some, emit_eq (by simp; omega)]; rfl
theorem jump_eq {c off : Int} {l : List Instr} (hl : l.length ≤ 900) (ho : -1000000 ≤ off ∧ off ≤ 1000000) : impl_emitter_jump ⟨c, l⟩ off = some (l ++ [⟨20, 0, 0, 0, off - 4 * l.length⟩]) := by
  unfold impl_emitter_jump
  simp only
  rw [w64_s (i := 4 * (l.length : Int)) (by omega) (by omega), w64_s (by omega) (by omega), emit_eq (by simp; omega)]; rfl
theorem iquadL_eq {q : Quad} {m c off : Int} (hq : QOk m q) (hc : 1 ≤ c ∧ c ≤ 8) (ho : -1000000 ≤ off ∧ off ≤ 1000000) : impl_quadInstrs q c off = some (quadL q c off) := by
  have hd : Rg q.Dst := by unfold QOk at hq; unfold Rg at *; omega
  have l1 := rd_len c q.A 5
  have l2 := rd_len c q.B 6
  refine Tot.eq ?_
  unfold impl_quadInstrs quadL
  refine .bind (P := fun r => r = _) ?_ fun r hr => .pure hr
  refine .sel (fun h => ?_) fun h1 => .sel (fun h => ?_) fun h2 => .sel (fun h => ?_) fun h3 => .sel (fun h => ?_) fun h4 => .sel (fun h => ?_) fun h5 => .sel (fun h => ?_) fun h6 => .sel (fun h => ?_) fun h7 => .sel (fun h => ?_) fun h8 => .sel (fun h => ?_) fun h9 => .sel (fun h => ?_) fun h10 => ?_
  all_goals
    simp only [beq_iff_eq, beq_eq_false_iff_ne, ne_eq] at *
    unfold QOk at hq
  · simp [h] at hq
    rw [if_pos h, write_eq hc hd (by simp) (g := fun r => constL r q.N) (fun r => by unfold impl_quadInstrs_1; rw [(const_eq hq.2.2.2).2]; rfl) fun r => (const_len r q.N).2]; exact .pure (by simp)
  · simp [h] at hq
    rw [if_neg h1, if_pos h, read_eq hc hq.2.1 (by simp)]
    simp only [Option.bind_some, List.nil_append]
    rw [write_eq hc hd (l := rdL c q.A 5) (by omega) (f := fun b0 => impl_quadInstrs_2 b0 (rgOf c q.A 5)) (g := fun r => [⟨12, r, rgOf c q.A 5, 0, 0⟩]) (fun r => rfl) fun r => by simp]; exact .pure (by simp)
  · simp [h] at hq
    rw [if_neg h1, if_neg h2, if_pos h, read_eq hc hq.2.1 (by simp)]
    simp only [Option.bind_some, List.nil_append]
    rw [read_eq hc hq.2.2.1 (by omega)]
    simp only [Option.bind_some]
    rw [write_eq hc hd (by simp; omega) (g := fun r => [⟨opOf q.N, r, rgOf c q.A 5, rgOf c q.B 6, 0⟩] ++ (if q.N = 4 then [⟨13, r, r, 0, 1⟩] else [])) (fun r => ?_) fun r => by split <;> simp]
    · exact .pure (by simp)
    · unfold impl_quadInstrs_3
      rw [opnth hq.2.2.2, Option.bind_some]
      refine Tot.eq (.sel (fun h => .bind (.app (by simp)) fun r hr => .pure ?_) fun h => .pure ?_)
      · simp at h; rw [if_pos h, hr]
      · simp at h; rw [if_neg h]; rfl
  · rw [if_neg h1, if_neg h2, if_neg h3, if_pos h, jump_eq (by simp) ho]; exact .pure (by simp)
  · simp [h] at hq
    rw [if_neg h1, if_neg h2, if_neg h3, if_neg h4, if_pos h, read_eq hc hq.2.1 (by simp)]
    simp only [Option.bind_some, List.nil_append]
    rw [emit_eq (by simp; omega), Option.bind_some, jump_eq (by simp; omega) ho]
    exact .pure (by simp)
  · simp [h] at hq
    rw [if_neg h1, if_neg h2, if_neg h3, if_neg h4, if_neg h5, if_pos h, read_eq hc hq.2.1 (by simp)]
    simp only [Option.bind_some, List.nil_append, impl_addi]
    rw [emit_eq (by simp; omega), Option.bind_some, call_eq (by simp; omega)]; exact .pure (by simp)
  · simp [h] at hq
    rw [if_neg h1, if_neg h2, if_neg h3, if_neg h4, if_neg h5, if_neg h6, if_pos h]
    simp only [Option.bind_some, impl_addi]
    rw [emit_eq (by simp), Option.bind_some, call_eq (by simp), Option.bind_some, write_eq hc hd (by simp [callL]) (f := impl_quadInstrs_4) (g := fun r => [⟨12, r, 10, 0, 0⟩]) (fun r => rfl) fun r => by simp]; exact .pure (by simp)
  · rw [if_neg h1, if_neg h2, if_neg h3, if_neg h4, if_neg h5, if_neg h6, if_neg h7, if_pos h, call_eq (by simp)]; exact .pure (by simp)
  · simp [h] at hq
    rw [if_neg h1, if_neg h2, if_neg h3, if_neg h4, if_neg h5, if_neg h6, if_neg h7, if_neg h8, if_pos h, read_eq hc hq.2.1 (by simp)]
    simp only [Option.bind_some, List.nil_append, impl_addi]
    rw [emit_eq (by simp; omega), Option.bind_some, call_eq (by simp; omega)]; exact .pure (by simp)
  · rw [if_neg h1, if_neg h2, if_neg h3, if_neg h4, if_neg h5, if_neg h6, if_neg h7, if_neg h8, if_neg h9, call_eq (by simp)]; exact .pure (by simp)
  · simp [h1, h2, h3, h4, h5, h6, h7, h8, h9, h10] at hq
theorem quadL_len (q : Quad) (c off : Int) : 1 ≤ (quadL q c off).length ∧ (quadL q c off).length ≤ 6 ∧ (quadL q c off).length = (quadL q c 0).length := by
  have l1 := rd_len c q.A 5
  have l2 := rd_len c q.B 6
  have l3 := wr_len c q.Dst
  have l4 := const_len (rgOf c q.Dst 7) q.N
  unfold quadL callL
  split
  · simp; omega
  split
  · simp; omega
  split
  · split <;> simp <;> omega
  split
  · simp
  split
  · simp; omega
  split
  · simp; omega
  split
  · simp; omega
  split
  · simp
  split
  · simp; omega
  · simp
end Go.Proofs.YtjpbdpfkhdekpaaGreatDoor.N
