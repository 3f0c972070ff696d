/- One step of the machine: reference and program alike. -/
import Derived.Test.YtdohklfimhkicaaDoorSd
import Derived.Test.YtdohklfimhkicaaDoorSe
set_option linter.unusedVariables false
set_option maxRecDepth 100000
set_option maxHeartbeats 4000000
namespace Go.Proofs.YtdohklfimhkicaaDoor.N
open Go.Proofs.YtdohklfimhkicaaDoor.X
/-- A machine's registers and memory are words. -/
structure MOK (regs : List Int) (pc : Int) (mem : List Int) : Prop where
  r32 : regs.length = 32
  m10 : mem.length ≤ 10000
  wr : ∀ x ∈ regs, Wd x
  wm : ∀ x ∈ mem, Wd x
  wp : Wd pc
theorem word_ok {mem : List Int} (r : List Int) (p : Int) {a : Int} (ha : Wd a) (hl : mem.length ≤ 10000) :
    (∃ j : Nat, ∃ h : j < mem.length, a = 4 * (j : Int) ∧ spec_l44Word mem a = some true ∧ impl_Machine_word (Machine.mk r p mem) a = some (j : Int) ∧ w64 (Int.tdiv a 4) = (j : Int)) ∨
    (spec_l44Word mem a = some false ∧ impl_Machine_word (Machine.mk r p mem) a = some (-1)) := by
  obtain ⟨h1, h2⟩ := ha
  unfold spec_l44Word impl_Machine_word
  dsimp only
  rcases Int.lt_or_le a 0 with h | h
  · right
    rw [decide_eq_false (p := a ≥ 0) (by omega), decide_eq_true (p := a < 0) (by omega)]
    exact ⟨rfl, rfl⟩
  · have t1 : Int.tmod a 4 = a % 4 := Int.tmod_eq_emod_of_nonneg h
    have t2 : Int.tdiv a 4 = a / 4 := Int.tdiv_eq_ediv_of_nonneg h
    rw [t1, t2, w64_id (x := a / 4) (by omega) (by omega), decide_eq_true (p := a ≥ 0) (by omega), decide_eq_false (p := a < 0) (by omega)]
    by_cases hm : a % 4 = 0
    · rw [hm]
      by_cases hj : a / 4 < mem.length
      · left
        rw [decide_eq_true hj, decide_eq_false (by omega)]
        refine ⟨(a / 4).toNat, by omega, by omega, rfl, ?_, by omega⟩
        refine sel_to rfl ?_
        have hn : nth mem (a / 4) = some (mem[(a / 4).toNat]'(by omega)) := by
          have := nth_at (l := mem) (i := (a / 4).toNat) (by omega)
          rw [show (((a / 4).toNat : Nat) : Int) = a / 4 by omega] at this
          exact this
        refine bind_to hn ?_
        rw [show (((a / 4).toNat : Nat) : Int) = a / 4 by omega]
      · right
        rw [decide_eq_false hj, decide_eq_true (by omega)]
        exact ⟨rfl, rfl⟩
    · right
      have e1 : (a % 4 == 0) = false := by simpa using hm
      have e2 : (a % 4 != 0) = true := by simpa using hm
      rw [e1, e2]
      exact ⟨rfl, rfl⟩
theorem set_ok {regs : List Int} (pc : Int) (mem : List Int) (h32 : regs.length = 32) (hw : ∀ x ∈ regs, Wd x) {rd : Int} (hr : 0 ≤ rd ∧ rd ≤ 31) {v : Int} (hv : Wd v) :
    ∃ r, spec_l44Set (Machine.mk regs pc mem) rd v = some r ∧ impl_Machine_set (Machine.mk regs pc mem) rd v = some r ∧ r.length = 32 ∧ ∀ x ∈ r, Wd x := by
  obtain ⟨d, rfl, hd⟩ := nat_of hr.1 hr.2
  unfold spec_l44Set impl_Machine_set
  cases h0 : ((d : Int) != 0)
  · exact ⟨regs, sel_to rfl rfl, sel_to rfl rfl, h32, hw⟩
  · have h1 := nth_at (l := regs) (i := d) (by omega)
    have h2 := upd_at (l := regs) (i := d) (by omega) v
    refine ⟨regs.set d v, sel_tt' rfl (bind_to h1 (bind_to h2 rfl)), sel_tt' rfl (bind_to h1 (bind_to h2 rfl)), by simpa using h32, fun x hx => ?_⟩
    rcases List.mem_or_eq_of_mem_set hx with h | h
    · exact hw x h
    · exact h ▸ hv
/-- A step of the program, behind the decoding. -/
def stepIn (a0 : Machine) (i : Instr) : Option (Int × (List Int) × Int × (List Int)) :=
(nth a0.Regs i.Rs).bind fun x2 =>
(nth a0.Regs i.Rt).bind fun x3 =>
(impl_Wrap (w64 (a0.Pc + 4))).bind fun y4 =>
(sel (i.Op == 21) (some (.inr (2, a0.Regs, a0.Pc, a0.Mem))) <|
sel (i.Op == 12) ((impl_Wrap (w64 (x2 + i.Imm))).bind fun y6 =>
(impl_Machine_set (Machine.mk a0.Regs a0.Pc a0.Mem) i.Rd y6).bind fun y7 =>
some (.inl (y4, y7, a0.Mem))) <|
sel (i.Op == 13) ((impl_Unsigned x2).bind fun y8 =>
(impl_Unsigned i.Imm).bind fun y9 =>
(impl_truth (decide (y8 < y9))).bind fun y10 =>
(impl_Machine_set (Machine.mk a0.Regs a0.Pc a0.Mem) i.Rd y10).bind fun y11 =>
some (.inl (y4, y11, a0.Mem))) <|
(sel (i.Op == 14) (some (i.Op == 14)) <|
some (i.Op == 16) : Option (Bool)).bind fun y12 =>
sel y12 ((impl_Wrap (w64 (x2 + i.Imm))).bind fun y13 =>
(impl_Machine_word (Machine.mk a0.Regs a0.Pc a0.Mem) y13).bind fun y14 =>
sel (decide (y14 < 0)) (some (.inr (3, a0.Regs, a0.Pc, a0.Mem))) <|
sel (i.Op == 16) ((nth a0.Mem y14).bind fun x4 =>
(upd a0.Mem y14 x3).bind fun r1 =>
some (.inl (y4, a0.Regs, r1))) <|
(nth a0.Mem y14).bind fun x5 =>
(impl_Machine_set (Machine.mk a0.Regs a0.Pc a0.Mem) i.Rd x5).bind fun y15 =>
some (.inl (y4, y15, a0.Mem))) <|
sel (i.Op == 15) ((impl_Machine_set (Machine.mk a0.Regs a0.Pc a0.Mem) i.Rd y4).bind fun y16 =>
(impl_Wrap (w64 (x2 + i.Imm))).bind fun y17 =>
some (.inl (bitsI .andNot .i64 y17 1, y16, a0.Mem))) <|
(sel (i.Op == 17) (some (i.Op == 17)) <|
some (i.Op == 18) : Option (Bool)).bind fun y18 =>
sel y18 (sel ((x2 == x3) == (i.Op == 17)) ((impl_Wrap (w64 (a0.Pc + i.Imm))).bind fun y19 =>
some (.inl (y19, a0.Regs, a0.Mem))) <|
some (.inl (y4, a0.Regs, a0.Mem))) <|
sel (i.Op == 19) ((impl_Wrap (w64 (i.Imm * 4096))).bind fun y20 =>
(impl_Machine_set (Machine.mk a0.Regs a0.Pc a0.Mem) i.Rd y20).bind fun y21 =>
some (.inl (y4, y21, a0.Mem))) <|
sel (i.Op == 20) ((impl_Machine_set (Machine.mk a0.Regs a0.Pc a0.Mem) i.Rd y4).bind fun y22 =>
(impl_Wrap (w64 (a0.Pc + i.Imm))).bind fun y23 =>
some (.inl (y23, y22, a0.Mem))) <|
(nth machineOps (w64 (i.Op - 1))).bind fun x6 =>
(impl_apply x6 x2 x3).bind fun y24 =>
(impl_Machine_set (Machine.mk a0.Regs a0.Pc a0.Mem) i.Rd y24).bind fun y25 =>
some (.inl (y4, y25, a0.Mem)) : Option ((Int × (List Int) × (List Int)) ⊕ (Int × (List Int) × Int × (List Int)))).bind fun y5 =>
both y5 (fun o3 => some (1, o3.2.1, o3.1, o3.2.2)) (fun o4 =>
some o4)
/-- Reference and program do an instruction alike. -/
def DoOK (regs : List Int) (pc : Int) (mem : List Int) (i : Instr) : Prop :=
  ∃ b r p m, spec_l44Do (Machine.mk regs pc mem) i = some (b, r, p, m) ∧ stepIn (Machine.mk regs pc mem) i = some (bif b then 1 else 3, r, p, m) ∧ MOK r p m ∧ m.length = mem.length
theorem reg_at {regs : List Int} (h32 : regs.length = 32) (hw : ∀ x ∈ regs, Wd x) {r : Int} (hr : 0 ≤ r ∧ r ≤ 31) : ∃ v, nth regs r = some v ∧ Wd v := by
  obtain ⟨d, rfl, hd⟩ := nat_of hr.1 hr.2
  exact ⟨_, nth_at (l := regs) (i := d) (by omega), hw _ (List.getElem_mem _)⟩
section
variable {regs mem : List Int} {pc : Int} {rd rs rt imm : Int}
theorem next_ok (hM : MOK regs pc mem) (h0 : 0 ≤ pc) (h1 : pc ≤ 40000) : impl_Wrap (w64 (pc + 4)) = some (pc + 4) ∧ spec_Wrap (w64 (pc + 4)) = some (pc + 4) ∧ w64 (pc + 4) = pc + 4 ∧ Wd (pc + 4) := by
  have e : w64 (pc + 4) = pc + 4 := w64_id (by omega) (by omega)
  have e2 : wrapW (pc + 4) = pc + 4 := by unfold wrapW; split <;> omega
  refine ⟨?_, ?_, e, by unfold Wd; omega⟩
  · rw [iwrap_ok, e, e2]
  · rw [swrap_ok, e, e2]
theorem do_addi (hM : MOK regs pc mem) (h0 : 0 ≤ pc) (h1 : pc ≤ 40000) (hd : 0 ≤ rd ∧ rd ≤ 31) (hs : 0 ≤ rs ∧ rs ≤ 31) (ht : 0 ≤ rt ∧ rt ≤ 31) : DoOK regs pc mem ⟨12, rd, rs, rt, imm⟩ := by
  obtain ⟨a, ha, wa⟩ := reg_at hM.r32 hM.wr hs
  obtain ⟨b, hb, wb⟩ := reg_at hM.r32 hM.wr ht
  obtain ⟨n1, n2, n3, n4⟩ := next_ok hM h0 h1
  obtain ⟨r, k1, k2, k3, k4⟩ := set_ok pc mem hM.r32 hM.wr hd (wd_wrap (w64 (a + imm)))
  refine ⟨true, r, pc + 4, mem, ?_, ?_, ⟨k3, hM.m10, k4, hM.wm, n4⟩, rfl⟩
  · exact bind_to ha (bind_to (y := .inl r) (bind_to (y := false) rfl (sel_to rfl (bind_to (y := false) rfl (sel_to rfl (sel_tt' rfl (bind_to (swrap_ok _) (bind_to k1 rfl))))))) (by show some (true, r, w64 (pc + 4), mem) = _; rw [n3]))
  · exact bind_to ha (bind_to hb (bind_to n1 (bind_to (y := .inl (pc + 4, r, mem)) (sel_to rfl (sel_tt' rfl (bind_to (iwrap_ok _) (bind_to k2 rfl)))) rfl)))
theorem do_sltiu (hM : MOK regs pc mem) (h0 : 0 ≤ pc) (h1 : pc ≤ 40000) (hd : 0 ≤ rd ∧ rd ≤ 31) (hs : 0 ≤ rs ∧ rs ≤ 31) (ht : 0 ≤ rt ∧ rt ≤ 31) (hi : -1048576 ≤ imm ∧ imm ≤ 1048575) : DoOK regs pc mem ⟨13, rd, rs, rt, imm⟩ := by
  obtain ⟨a, ha, wa⟩ := reg_at hM.r32 hM.wr hs
  obtain ⟨b, hb, wb⟩ := reg_at hM.r32 hM.wr ht
  obtain ⟨n1, n2, n3, n4⟩ := next_ok hM h0 h1
  obtain ⟨u1, _, _, p1, p2⟩ := uns_ok wa.1 wa.2
  obtain ⟨u2, _, _, p3, p4⟩ := uns_ok (x := imm) (by omega) (by omega)
  obtain ⟨v, f1, f2, f3⟩ := flag_wd (decide ((u1 : Int) < (u2 : Int)))
  obtain ⟨r, k1, k2, k3, k4⟩ := set_ok pc mem hM.r32 hM.wr hd f1
  refine ⟨true, r, pc + 4, mem, ?_, ?_, ⟨k3, hM.m10, k4, hM.wm, n4⟩, rfl⟩
  · exact bind_to ha (bind_to (y := .inl r) (bind_to (y := false) rfl (sel_to rfl (bind_to (y := false) rfl (sel_to rfl (sel_to rfl (sel_tt' rfl (bind_to p2 (bind_to p4 (bind_to f2 (bind_to k1 rfl)))))))))) (by show some (true, r, w64 (pc + 4), mem) = _; rw [n3]))
  · exact bind_to ha (bind_to hb (bind_to n1 (bind_to (y := .inl (pc + 4, r, mem)) (sel_to rfl (sel_to rfl (sel_tt' rfl (bind_to p1 (bind_to p3 (bind_to f3 (bind_to k2 rfl))))))) rfl)))
theorem do_lui (hM : MOK regs pc mem) (h0 : 0 ≤ pc) (h1 : pc ≤ 40000) (hd : 0 ≤ rd ∧ rd ≤ 31) (hs : 0 ≤ rs ∧ rs ≤ 31) (ht : 0 ≤ rt ∧ rt ≤ 31) : DoOK regs pc mem ⟨19, rd, rs, rt, imm⟩ := by
  obtain ⟨a, ha, wa⟩ := reg_at hM.r32 hM.wr hs
  obtain ⟨b, hb, wb⟩ := reg_at hM.r32 hM.wr ht
  obtain ⟨n1, n2, n3, n4⟩ := next_ok hM h0 h1
  obtain ⟨r, k1, k2, k3, k4⟩ := set_ok pc mem hM.r32 hM.wr hd (wd_wrap (w64 (imm * 4096)))
  refine ⟨true, r, pc + 4, mem, ?_, ?_, ⟨k3, hM.m10, k4, hM.wm, n4⟩, rfl⟩
  · exact bind_to ha (bind_to (y := .inl r) (bind_to (y := false) rfl (sel_to rfl (bind_to (y := false) rfl (sel_to rfl (sel_to rfl (sel_to rfl (sel_tt' rfl (bind_to (swrap_ok _) (bind_to k1 rfl))))))))) (by show some (true, r, w64 (pc + 4), mem) = _; rw [n3]))
  · exact bind_to ha (bind_to hb (bind_to n1 (bind_to (y := .inl (pc + 4, r, mem)) (sel_to rfl (sel_to rfl (sel_to rfl (bind_to (y := false) rfl (sel_to rfl (sel_to rfl (bind_to (y := false) rfl (sel_to rfl (sel_tt' rfl (bind_to (iwrap_ok _) (bind_to k2 rfl))))))))))) rfl)))
theorem do_alu {k : Nat} (hk : k < 11) (hM : MOK regs pc mem) (h0 : 0 ≤ pc) (h1 : pc ≤ 40000) (hd : 0 ≤ rd ∧ rd ≤ 31) (hs : 0 ≤ rs ∧ rs ≤ 31) (ht : 0 ≤ rt ∧ rt ≤ 31) : DoOK regs pc mem ⟨(k : Int) + 1, rd, rs, rt, imm⟩ := by
  obtain ⟨a, ha, wa⟩ := reg_at hM.r32 hM.wr hs
  obtain ⟨b, hb, wb⟩ := reg_at hM.r32 hM.wr ht
  obtain ⟨n1, n2, n3, n4⟩ := next_ok hM h0 h1
  obtain ⟨v, f1, f2, x, f3, f4⟩ := alu_ok k hk wa wb
  obtain ⟨r, k1, k2, k3, k4⟩ := set_ok pc mem hM.r32 hM.wr hd f1
  have c : ∀ n : Int, 12 ≤ n → (((k : Int) + 1) == n) = false := fun n hn => by simp; omega
  refine ⟨true, r, pc + 4, mem, ?_, ?_, ⟨k3, hM.m10, k4, hM.wm, n4⟩, rfl⟩
  · exact bind_to ha (bind_to (y := .inl r) (bind_to (y := false) (sel_to (c 14 (by decide)) (congrArg some (c 16 (by decide)))) (sel_to rfl (bind_to (y := false) (sel_to (c 15 (by decide)) (sel_to (c 20 (by decide)) (sel_to (c 17 (by decide)) (congrArg some (c 18 (by decide)))))) (sel_to rfl (sel_to (c 12 (by decide)) (sel_to (c 13 (by decide)) (sel_to (c 19 (by decide)) (bind_to hb (bind_to f2 (bind_to k1 rfl)))))))))) (by show some (true, r, w64 (pc + 4), mem) = _; rw [n3]))
  · have f3' : nth machineOps (w64 ((k : Int) + 1 - 1)) = some x := by rw [show (k : Int) + 1 - 1 = k by omega, w64_id (by omega) (by omega)]; exact f3
    exact bind_to ha (bind_to hb (bind_to n1 (bind_to (y := .inl (pc + 4, r, mem)) (sel_to (c 21 (by decide)) (sel_to (c 12 (by decide)) (sel_to (c 13 (by decide)) (bind_to (y := false) (sel_to (c 14 (by decide)) (congrArg some (c 16 (by decide)))) (sel_to rfl (sel_to (c 15 (by decide)) (bind_to (y := false) (sel_to (c 17 (by decide)) (congrArg some (c 18 (by decide)))) (sel_to rfl (sel_to (c 19 (by decide)) (sel_to (c 20 (by decide)) (bind_to f3' (bind_to f4 (bind_to k2 rfl))))))))))))) rfl)))
theorem do_lw (hM : MOK regs pc mem) (h0 : 0 ≤ pc) (h1 : pc ≤ 40000) (hd : 0 ≤ rd ∧ rd ≤ 31) (hs : 0 ≤ rs ∧ rs ≤ 31) (ht : 0 ≤ rt ∧ rt ≤ 31) : DoOK regs pc mem ⟨14, rd, rs, rt, imm⟩ := by
  obtain ⟨a, ha, wa⟩ := reg_at hM.r32 hM.wr hs
  obtain ⟨b, hb, wb⟩ := reg_at hM.r32 hM.wr ht
  obtain ⟨n1, n2, n3, n4⟩ := next_ok hM h0 h1
  rcases word_ok regs pc (wd_wrap (w64 (a + imm))) hM.m10 with ⟨j, hj, e1, e2, e3, e4⟩ | ⟨e2, e3⟩
  · have hx := nth_at hj
    obtain ⟨r, k1, k2, k3, k4⟩ := set_ok pc mem hM.r32 hM.wr hd (hM.wm _ (List.getElem_mem hj))
    have hx' : nth mem (w64 (Int.tdiv (wrapW (w64 (a + imm))) 4)) = some mem[j] := by rw [e4]; exact hx
    refine ⟨true, r, pc + 4, mem, ?_, ?_, ⟨k3, hM.m10, k4, hM.wm, n4⟩, rfl⟩
    · refine bind_to ha (bind_to (y := .inr (true, r, pc + 4, mem)) (bind_to (y := true) rfl (sel_tt' rfl (bind_to (y := (true, r, pc + 4, mem)) ?_ rfl))) rfl)
      refine bind_to ha (bind_to (swrap_ok _) (bind_to e2 (sel_to rfl (bind_to (y := (r, mem)) (sel_tt' rfl (bind_to hx' (bind_to k1 rfl))) ?_))))
      show some (true, r, w64 (pc + 4), mem) = _
      rw [n3]
    · exact bind_to ha (bind_to hb (bind_to n1 (bind_to (y := .inl (pc + 4, r, mem)) (sel_to rfl (sel_to rfl (sel_to rfl (bind_to (y := true) rfl (sel_tt' rfl (bind_to (iwrap_ok _) (bind_to e3 (sel_to (decide_eq_false (by omega)) (sel_to rfl (bind_to hx (bind_to k2 rfl))))))))))) rfl)))
  · refine ⟨false, regs, pc, mem, ?_, ?_, hM, rfl⟩
    · exact bind_to ha (bind_to (y := .inr (false, regs, pc, mem)) (bind_to (y := true) rfl (sel_tt' rfl (bind_to (y := (false, regs, pc, mem)) (bind_to ha (bind_to (swrap_ok _) (bind_to e2 (sel_tt' rfl rfl)))) rfl))) rfl)
    · exact bind_to ha (bind_to hb (bind_to n1 (bind_to (y := .inr (3, regs, pc, mem)) (sel_to rfl (sel_to rfl (sel_to rfl (bind_to (y := true) rfl (sel_tt' rfl (bind_to (iwrap_ok _) (bind_to e3 (sel_tt' rfl rfl)))))))) rfl)))
theorem do_sw (hM : MOK regs pc mem) (h0 : 0 ≤ pc) (h1 : pc ≤ 40000) (hs : 0 ≤ rs ∧ rs ≤ 31) (ht : 0 ≤ rt ∧ rt ≤ 31) : DoOK regs pc mem ⟨16, rd, rs, rt, imm⟩ := by
  obtain ⟨a, ha, wa⟩ := reg_at hM.r32 hM.wr hs
  obtain ⟨b, hb, wb⟩ := reg_at hM.r32 hM.wr ht
  obtain ⟨n1, n2, n3, n4⟩ := next_ok hM h0 h1
  rcases word_ok regs pc (wd_wrap (w64 (a + imm))) hM.m10 with ⟨j, hj, e1, e2, e3, e4⟩ | ⟨e2, e3⟩
  · have hx := nth_at hj
    have hu := upd_at hj b
    have hx' : nth mem (w64 (Int.tdiv (wrapW (w64 (a + imm))) 4)) = some mem[j] := by rw [e4]; exact hx
    have hu' : upd mem (w64 (Int.tdiv (wrapW (w64 (a + imm))) 4)) b = some (mem.set j b) := by rw [e4]; exact hu
    refine ⟨true, regs, pc + 4, mem.set j b, ?_, ?_, ⟨hM.r32, by simpa using hM.m10, hM.wr, fun x hx => ?_, n4⟩, by simp⟩
    · refine bind_to ha (bind_to (y := .inr (true, regs, pc + 4, mem.set j b)) (bind_to (y := true) rfl (sel_tt' rfl (bind_to (y := (true, regs, pc + 4, mem.set j b)) ?_ rfl))) rfl)
      refine bind_to ha (bind_to (swrap_ok _) (bind_to e2 (sel_to rfl (bind_to (y := (regs, mem.set j b)) (sel_to rfl (bind_to hb (bind_to hx' (bind_to hu' rfl)))) ?_))))
      show some (true, regs, w64 (pc + 4), mem.set j b) = _
      rw [n3]
    · exact bind_to ha (bind_to hb (bind_to n1 (bind_to (y := .inl (pc + 4, regs, mem.set j b)) (sel_to rfl (sel_to rfl (sel_to rfl (bind_to (y := true) rfl (sel_tt' rfl (bind_to (iwrap_ok _) (bind_to e3 (sel_to (decide_eq_false (by omega)) (sel_tt' rfl (bind_to hx (bind_to hu rfl))))))))))) rfl)))
    · rcases List.mem_or_eq_of_mem_set hx with h | h
      · exact hM.wm x h
      · exact h ▸ wb
  · refine ⟨false, regs, pc, mem, ?_, ?_, hM, rfl⟩
    · exact bind_to ha (bind_to (y := .inr (false, regs, pc, mem)) (bind_to (y := true) rfl (sel_tt' rfl (bind_to (y := (false, regs, pc, mem)) (bind_to ha (bind_to (swrap_ok _) (bind_to e2 (sel_tt' rfl rfl)))) rfl))) rfl)
    · exact bind_to ha (bind_to hb (bind_to n1 (bind_to (y := .inr (3, regs, pc, mem)) (sel_to rfl (sel_to rfl (sel_to rfl (bind_to (y := true) rfl (sel_tt' rfl (bind_to (iwrap_ok _) (bind_to e3 (sel_tt' rfl rfl)))))))) rfl)))
theorem do_jalr (hM : MOK regs pc mem) (h0 : 0 ≤ pc) (h1 : pc ≤ 40000) (hd : 0 ≤ rd ∧ rd ≤ 31) (hs : 0 ≤ rs ∧ rs ≤ 31) (ht : 0 ≤ rt ∧ rt ≤ 31) : DoOK regs pc mem ⟨15, rd, rs, rt, imm⟩ := by
  obtain ⟨a, ha, wa⟩ := reg_at hM.r32 hM.wr hs
  obtain ⟨b, hb, wb⟩ := reg_at hM.r32 hM.wr ht
  obtain ⟨n1, n2, n3, n4⟩ := next_ok hM h0 h1
  obtain ⟨r, k1, k2, k3, k4⟩ := set_ok pc mem hM.r32 hM.wr hd n4
  have hw := wd_wrap (w64 (a + imm))
  have e1 : w64 (wrapW (w64 (a + imm)) - bitsI .and .i64 (wrapW (w64 (a + imm))) 1) = wrapW (w64 (a + imm)) - wrapW (w64 (a + imm)) % 2 := by
    obtain ⟨h2, h3⟩ := hw
    rw [and1, w64_id (by omega) (by omega)]
  have e2 := andNot1 hw
  have hp : Wd (wrapW (w64 (a + imm)) - wrapW (w64 (a + imm)) % 2) := by
    obtain ⟨h2, h3⟩ := hw
    unfold Wd
    omega
  generalize wrapW (w64 (a + imm)) - wrapW (w64 (a + imm)) % 2 = q at e1 e2 hp
  refine ⟨true, r, q, mem, ?_, ?_, ⟨k3, hM.m10, k4, hM.wm, hp⟩, rfl⟩
  · refine bind_to ha (bind_to (y := .inr (true, r, q, mem)) (bind_to (y := false) rfl (sel_to rfl (bind_to (y := true) rfl (sel_tt' rfl (bind_to (y := (r, q)) ?_ rfl))))) rfl)
    refine bind_to n2 (bind_to ha (bind_to hb (sel_tt' rfl (bind_to ha (bind_to (swrap_ok _) (bind_to k1 ?_))))))
    rw [e1]
  · refine bind_to ha (bind_to hb (bind_to n1 (bind_to (y := .inl (q, r, mem)) (sel_to rfl (sel_to rfl (sel_to rfl (bind_to (y := false) rfl (sel_to rfl (sel_tt' rfl (bind_to k2 (bind_to (iwrap_ok _) ?_)))))))) rfl)))
    rw [e2]
theorem do_jal (hM : MOK regs pc mem) (h0 : 0 ≤ pc) (h1 : pc ≤ 40000) (hd : 0 ≤ rd ∧ rd ≤ 31) (hs : 0 ≤ rs ∧ rs ≤ 31) (ht : 0 ≤ rt ∧ rt ≤ 31) : DoOK regs pc mem ⟨20, rd, rs, rt, imm⟩ := by
  obtain ⟨a, ha, wa⟩ := reg_at hM.r32 hM.wr hs
  obtain ⟨b, hb, wb⟩ := reg_at hM.r32 hM.wr ht
  obtain ⟨n1, n2, n3, n4⟩ := next_ok hM h0 h1
  obtain ⟨r, k1, k2, k3, k4⟩ := set_ok pc mem hM.r32 hM.wr hd n4
  refine ⟨true, r, wrapW (w64 (pc + imm)), mem, ?_, ?_, ⟨k3, hM.m10, k4, hM.wm, wd_wrap _⟩, rfl⟩
  · exact bind_to ha (bind_to (y := .inr (true, r, wrapW (w64 (pc + imm)), mem)) (bind_to (y := false) rfl (sel_to rfl (bind_to (y := true) rfl (sel_tt' rfl (bind_to (y := (r, wrapW (w64 (pc + imm)))) (bind_to n2 (bind_to ha (bind_to hb (sel_to rfl (sel_tt' rfl (bind_to k1 (bind_to (swrap_ok _) rfl))))))) rfl))))) rfl)
  · exact bind_to ha (bind_to hb (bind_to n1 (bind_to (y := .inl (wrapW (w64 (pc + imm)), r, mem)) (sel_to rfl (sel_to rfl (sel_to rfl (bind_to (y := false) rfl (sel_to rfl (sel_to rfl (bind_to (y := false) rfl (sel_to rfl (sel_to rfl (sel_tt' rfl (bind_to k2 (bind_to (iwrap_ok _) rfl)))))))))))) rfl)))
theorem do_br {op : Int} (ho : op = 17 ∨ op = 18) (hM : MOK regs pc mem) (h0 : 0 ≤ pc) (h1 : pc ≤ 40000) (hs : 0 ≤ rs ∧ rs ≤ 31) (ht : 0 ≤ rt ∧ rt ≤ 31) : DoOK regs pc mem ⟨op, rd, rs, rt, imm⟩ := by
  obtain ⟨a, ha, wa⟩ := reg_at hM.r32 hM.wr hs
  obtain ⟨b, hb, wb⟩ := reg_at hM.r32 hM.wr ht
  obtain ⟨n1, n2, n3, n4⟩ := next_ok hM h0 h1
  have c : ∀ n : Int, n ≤ 16 ∨ 19 ≤ n → (op == n) = false := fun n hn => by simp; omega
  have y2 : (sel (op == 17) (some (op == 17)) (some (op == 18)) : Option Bool) = some true := by rcases ho with rfl | rfl <;> rfl
  cases hc : ((a == b) == (op == 17))
  · refine ⟨true, regs, pc + 4, mem, ?_, ?_, ⟨hM.r32, hM.m10, hM.wr, hM.wm, n4⟩, rfl⟩
    · refine bind_to ha (bind_to (y := .inr (true, regs, pc + 4, mem)) (bind_to (y := false) (sel_to (c 14 (by decide)) (congrArg some (c 16 (by decide)))) (sel_to rfl (bind_to (y := true) (sel_to (c 15 (by decide)) (sel_to (c 20 (by decide)) y2)) (sel_tt' rfl (bind_to (y := (regs, pc + 4)) ?_ rfl))))) rfl)
      exact bind_to n2 (bind_to ha (bind_to hb (sel_to (c 15 (by decide)) (sel_to (c 20 (by decide)) (sel_to hc rfl)))))
    · exact bind_to ha (bind_to hb (bind_to n1 (bind_to (y := .inl (pc + 4, regs, mem)) (sel_to (c 21 (by decide)) (sel_to (c 12 (by decide)) (sel_to (c 13 (by decide)) (bind_to (y := false) (sel_to (c 14 (by decide)) (congrArg some (c 16 (by decide)))) (sel_to rfl (sel_to (c 15 (by decide)) (bind_to y2 (sel_tt' rfl (sel_to hc rfl))))))))) rfl)))
  · refine ⟨true, regs, wrapW (w64 (pc + imm)), mem, ?_, ?_, ⟨hM.r32, hM.m10, hM.wr, hM.wm, wd_wrap _⟩, rfl⟩
    · refine bind_to ha (bind_to (y := .inr (true, regs, wrapW (w64 (pc + imm)), mem)) (bind_to (y := false) (sel_to (c 14 (by decide)) (congrArg some (c 16 (by decide)))) (sel_to rfl (bind_to (y := true) (sel_to (c 15 (by decide)) (sel_to (c 20 (by decide)) y2)) (sel_tt' rfl (bind_to (y := (regs, wrapW (w64 (pc + imm)))) ?_ rfl))))) rfl)
      exact bind_to n2 (bind_to ha (bind_to hb (sel_to (c 15 (by decide)) (sel_to (c 20 (by decide)) (sel_tt' hc (bind_to (swrap_ok _) rfl))))))
    · exact bind_to ha (bind_to hb (bind_to n1 (bind_to (y := .inl (wrapW (w64 (pc + imm)), regs, mem)) (sel_to (c 21 (by decide)) (sel_to (c 12 (by decide)) (sel_to (c 13 (by decide)) (bind_to (y := false) (sel_to (c 14 (by decide)) (congrArg some (c 16 (by decide)))) (sel_to rfl (sel_to (c 15 (by decide)) (bind_to y2 (sel_tt' rfl (sel_tt' hc (bind_to (iwrap_ok _) rfl)))))))))) rfl)))
theorem do_ok {i : Instr} {n : Nat} (hn : n < 20) (hg : Good n i) (hM : MOK regs pc mem) (h0 : 0 ≤ pc) (h1 : pc ≤ 40000) : DoOK regs pc mem i := by
  obtain ⟨op, rd, rs, rt, imm⟩ := i
  obtain ⟨g1, g2, g3, g4, g5⟩ := hg
  simp only at g1 g2 g3 g4 g5
  subst g1
  rcases (by omega : n < 11 ∨ n = 11 ∨ n = 12 ∨ n = 13 ∨ n = 14 ∨ n = 15 ∨ (n = 16 ∨ n = 17) ∨ n = 18 ∨ n = 19) with h | rfl | rfl | rfl | rfl | rfl | h | rfl | rfl
  · exact do_alu h hM h0 h1 g2 g3 g4
  · exact do_addi hM h0 h1 g2 g3 g4
  · exact do_sltiu hM h0 h1 g2 g3 g4 g5
  · exact do_lw hM h0 h1 g2 g3 g4
  · exact do_jalr hM h0 h1 g2 g3 g4
  · exact do_sw hM h0 h1 g3 g4
  · exact do_br (by omega) hM h0 h1 g3 g4
  · exact do_lui hM h0 h1 g2 g3 g4
  · exact do_jal hM h0 h1 g2 g3 g4
/-- A step: 1: done; 2: a call of the environment; 3: no more. -/
theorem step_ok (hM : MOK regs pc mem) : ∃ k r p m, spec_l44Step (Machine.mk regs pc mem) = some (k, r, p, m) ∧ impl_Machine_step (Machine.mk regs pc mem) = some (k, r, p, m) ∧ MOK r p m ∧ m.length = mem.length ∧ (k = 1 ∨ (k = 2 ∧ 0 ≤ p ∧ p ≤ 40000) ∨ k = 3) := by
  rcases word_ok regs pc hM.wp hM.m10 with ⟨j, hj, e1, e2, e3, e4⟩ | ⟨e2, e3⟩
  · have hx := nth_at hj
    have hx' : nth mem (w64 (Int.tdiv pc 4)) = some mem[j] := by rw [e4]; exact hx
    have hwm := hM.wm _ (List.getElem_mem hj)
    obtain ⟨u, u1, u2, u3, u4⟩ := uns_ok hwm.1 hwm.2
    obtain ⟨x, b, d1, d2, d3⟩ := dec_ok u u1
    have hpc : 0 ≤ pc ∧ pc ≤ 40000 := by have := hM.m10; omega
    cases b with
    | false =>
      refine ⟨3, regs, pc, mem, ?_, ?_, hM, rfl, .inr (.inr rfl)⟩
      · exact bind_to e2 (sel_to rfl (bind_to hx' (bind_to u4 (bind_to d1 (sel_tt' rfl rfl)))))
      · exact bind_to e3 (sel_to (decide_eq_false (by omega)) (bind_to hx (bind_to u3 (bind_to d2 (sel_tt' rfl rfl)))))
    | true =>
      obtain ⟨n, hn, hg⟩ := d3 rfl
      rcases Nat.lt_or_ge n 20 with h20 | h20
      · obtain ⟨b, r, p, m, k1, k2, k3, k4⟩ := do_ok h20 hg hM hpc.1 hpc.2
        have hop : (x.Op == 21) = false := by have := hg.1; simp; omega
        have hi : impl_Machine_step (Machine.mk regs pc mem) = some (bif b then 1 else 3, r, p, m) := bind_to e3 (sel_to (decide_eq_false (by omega)) (bind_to hx (bind_to u3 (bind_to d2 (sel_to rfl k2)))))
        have hs : spec_l44Step (Machine.mk regs pc mem) = some (bif b then 1 else 3, r, p, m) := by
          refine bind_to e2 (sel_to rfl (bind_to hx' (bind_to u4 (bind_to d1 (sel_to rfl (sel_to hop (bind_to k1 ?_)))))))
          cases b <;> rfl
        refine ⟨_, r, p, m, hs, hi, k3, k4, ?_⟩
        cases b
        · exact .inr (.inr rfl)
        · exact .inl rfl
      · obtain rfl : n = 20 := by omega
        have hop : (x.Op == 21) = true := by have := hg.1; simp; omega
        obtain ⟨a, ha, wa⟩ := reg_at hM.r32 hM.wr hg.2.2.1
        obtain ⟨b, hb, wb⟩ := reg_at hM.r32 hM.wr hg.2.2.2.1
        obtain ⟨n1, n2, n3, n4⟩ := next_ok hM hpc.1 hpc.2
        refine ⟨2, regs, pc, mem, ?_, ?_, hM, rfl, .inr (.inl ⟨rfl, hpc⟩)⟩
        · exact bind_to e2 (sel_to rfl (bind_to hx' (bind_to u4 (bind_to d1 (sel_to rfl (sel_tt' hop rfl))))))
        · exact bind_to e3 (sel_to (decide_eq_false (by omega)) (bind_to hx (bind_to u3 (bind_to d2 (sel_to rfl (bind_to ha (bind_to hb (bind_to n1 (bind_to (y := .inr (2, regs, pc, mem)) (sel_tt' hop rfl) rfl)))))))))
  · refine ⟨3, regs, pc, mem, ?_, ?_, hM, rfl, .inr (.inr rfl)⟩
    · exact bind_to e2 (sel_tt' rfl rfl)
    · exact bind_to e3 (sel_tt' rfl rfl)
end
end Go.Proofs.YtdohklfimhkicaaDoor.N
