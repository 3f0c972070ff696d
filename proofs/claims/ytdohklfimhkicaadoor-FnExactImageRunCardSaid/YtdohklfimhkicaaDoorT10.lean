/- Printed by a program of mine: what the program's functions compute, as plain Lean functions. -/
import Derived.Test.YtdohklfimhkicaaDoorZ3
import Derived.Test.YtdohklfimhkicaaDoorProg
set_option linter.unusedVariables false
set_option maxRecDepth 100000
set_option maxHeartbeats 4000000
namespace Go.Proofs.YtdohklfimhkicaaDoor.N
open Go.Proofs.YtdohklfimhkicaaDoor.X
structure InstrRow where
  name : ByteArray
  opcode : Int
  funct3 : Int
  funct7 : Int
def dInstrRow (x : InstrRow) : D := .agg [.str x.name, .int .i64 x.opcode, .int .i64 x.funct3, .int .i64 x.funct7]
def vInstrRow (x : InstrRow) : Value := .agg #[.string x.name, .int .i64 x.opcode, .int .i64 x.funct3, .int .i64 x.funct7]

structure Machine where
  Regs : List Int
  Pc : Int
  Mem : List Int
def dMachine (x : Machine) : D := .agg [.row 3 1 (x.Regs.map (D.int .i64)), .int .i64 x.Pc, .row 3 1 (x.Mem.map (D.int .i64))]

structure Instr where
  Op : Int
  Rd : Int
  Rs : Int
  Rt : Int
  Imm : Int
def dInstr (x : Instr) : D := .agg [.int .i64 x.Op, .int .i64 x.Rd, .int .i64 x.Rs, .int .i64 x.Rt, .int .i64 x.Imm]
def vInstr (x : Instr) : Value := .agg #[.int .i64 x.Op, .int .i64 x.Rd, .int .i64 x.Rs, .int .i64 x.Rt, .int .i64 x.Imm]

def machineOps : List Int := [8, 9, 10, 11, 12, 3, 1, 2, 6, 7, 5]
def instrTable : List InstrRow := [⟨⟨#[97, 100, 100]⟩, 51, 0, 0⟩, ⟨⟨#[115, 117, 98]⟩, 51, 0, 32⟩, ⟨⟨#[109, 117, 108]⟩, 51, 0, 1⟩, ⟨⟨#[100, 105, 118]⟩, 51, 4, 1⟩, ⟨⟨#[114, 101, 109]⟩, 51, 6, 1⟩, ⟨⟨#[97, 110, 100]⟩, 51, 7, 0⟩, ⟨⟨#[111, 114]⟩, 51, 6, 0⟩, ⟨⟨#[120, 111, 114]⟩, 51, 4, 0⟩, ⟨⟨#[115, 108, 108]⟩, 51, 1, 0⟩, ⟨⟨#[115, 114, 97]⟩, 51, 5, 32⟩, ⟨⟨#[115, 108, 116]⟩, 51, 2, 0⟩, ⟨⟨#[97, 100, 100, 105]⟩, 19, 0, 0⟩, ⟨⟨#[115, 108, 116, 105, 117]⟩, 19, 3, 0⟩, ⟨⟨#[108, 119]⟩, 3, 2, 0⟩, ⟨⟨#[106, 97, 108, 114]⟩, 103, 0, 0⟩, ⟨⟨#[115, 119]⟩, 35, 2, 0⟩, ⟨⟨#[98, 101, 113]⟩, 99, 0, 0⟩, ⟨⟨#[98, 110, 101]⟩, 99, 1, 0⟩, ⟨⟨#[108, 117, 105]⟩, 55, 0, 0⟩, ⟨⟨#[106, 97, 108]⟩, 111, 0, 0⟩, ⟨⟨#[101, 99, 97, 108, 108]⟩, 115, 0, 0⟩]
def NGl : Nat := 3
def Gl (w : World) : Prop := Tab 1 1 (fun x : Int => [.int .i64 x]) machineOps w ∧ Tab 2 4 (fun x : InstrRow => [.string x.name, .int .i64 x.opcode, .int .i64 x.funct3, .int .i64 x.funct7]) instrTable w
theorem Gl.at {w W : World} {M : Nat → Prop} {L : List Ent} (h : Gl w) (hS : Sep M w W L) (hM : ∀ g, g < NGl → ¬ M g) : Gl W := ⟨Tab.at h.1 hS (hM 1 (by decide)), Tab.at h.2 hS (hM 2 (by decide))⟩
theorem Gl.noS {w W : World} {M S : Nat → Prop} (h : Gl w) (hM : ∀ g, g < NGl → ¬ M g) (h1 : ∀ b, S b → OkS M w W b) : ∀ g, g < NGl → ¬ S g := fun g hg hs => by
  have h3 : 2 < w.heap.size := h.2.1
  have hg' : g < 3 := hg
  rcases (h1 g hs).1 with h4 | h4
  · omega
  · exact hM g hg h4

theorem T.u22 : Tryd.prog.underlying 22 = some (.slice 3) := by kernel_rfl
theorem T.t3 : tinfo Tryd.prog 3 = some (false, some (.int .i64 0), 1, 8) := by kernel_rfl
theorem T.mix : Tryd.prog.follows .mixedOrders = true := by kernel_rfl
theorem T.f26_0 : fOff Tryd.prog 26 0 = some (0, 1, false) := by kernel_rfl
theorem T.t22 : tinfo Tryd.prog 22 = some (false, some (.slice none 0 0), 1, 24) := by kernel_rfl
theorem T.f26_1 : fOff Tryd.prog 26 1 = some (1, 1, false) := by kernel_rfl
theorem T.f26_2 : fOff Tryd.prog 26 2 = some (2, 1, false) := by kernel_rfl
theorem T.f39_0 : fOff Tryd.prog 39 0 = some (0, 1, false) := by kernel_rfl
theorem T.f39_2 : fOff Tryd.prog 39 2 = some (2, 1, false) := by kernel_rfl
theorem T.t26 : tinfo Tryd.prog 26 = some (true, some (.agg #[.slice none 0 0, .int .i64 0, .slice none 0 0]), 3, 56) := by kernel_rfl
theorem T.s26 : sinfo Tryd.prog 26 = some ([(0, 1), (1, 1), (2, 1)], [.slice none 0 0, .int .i64 0, .slice none 0 0]) := by kernel_rfl
theorem T.f68_2 : fOff Tryd.prog 68 2 = some (2, 1, false) := by kernel_rfl
theorem T.f68_0 : fOff Tryd.prog 68 0 = some (0, 1, false) := by kernel_rfl
theorem T.f68_4 : fOff Tryd.prog 68 4 = some (4, 1, false) := by kernel_rfl
theorem T.t68 : tinfo Tryd.prog 68 = some (true, some (.agg #[.int .i64 0, .int .i64 0, .int .i64 0, .int .i64 0, .int .i64 0]), 5, 40) := by kernel_rfl
theorem T.f68_1 : fOff Tryd.prog 68 1 = some (1, 1, false) := by kernel_rfl
theorem T.f68_3 : fOff Tryd.prog 68 3 = some (3, 1, false) := by kernel_rfl
theorem T.s68 : sinfo Tryd.prog 68 = some ([(0, 1), (1, 1), (2, 1), (3, 1), (4, 1)], [.int .i64 0, .int .i64 0, .int .i64 0, .int .i64 0, .int .i64 0]) := by kernel_rfl
theorem T.u4 : Tryd.prog.underlying 4 = some (.bool) := by kernel_rfl
theorem T.f39_1 : fOff Tryd.prog 39 1 = some (1, 1, false) := by kernel_rfl
theorem T.u3 : Tryd.prog.underlying 3 = some (.int .i64) := by kernel_rfl
theorem T.u21 : Tryd.prog.underlying 21 = some (.int .i32) := by kernel_rfl
theorem T.u100 : Tryd.prog.underlying 100 = some (.int .u32) := by kernel_rfl
theorem T.e68 : einfo Tryd.prog 68 = some [(0, .int .i64), (1, .int .i64), (2, .int .i64), (3, .int .i64), (4, .int .i64)] := by kernel_rfl
theorem T.u94 : Tryd.prog.underlying 94 = some (.array 21 93) := by kernel_rfl
theorem T.t93 : tinfo Tryd.prog 93 = some (true, some (.agg #[.string ⟨#[]⟩, .int .i64 0, .int .i64 0, .int .i64 0]), 4, 40) := by kernel_rfl
theorem T.f93_2 : fOff Tryd.prog 93 2 = some (2, 1, false) := by kernel_rfl
theorem T.f93_1 : fOff Tryd.prog 93 1 = some (1, 1, false) := by kernel_rfl
theorem T.f93_3 : fOff Tryd.prog 93 3 = some (3, 1, false) := by kernel_rfl
theorem T.u83 : Tryd.prog.underlying 83 = some (.pointer 3) := by kernel_rfl
theorem T.u88 : Tryd.prog.underlying 88 = some (.array 11 3) := by kernel_rfl
theorem T.t39 : tinfo Tryd.prog 39 = some (true, some (.agg #[.slice none 0 0, .int .i64 0, .slice none 0 0]), 3, 56) := by kernel_rfl
def laws_eqIntS_b1 (a0 : List Int) (a1 : List Int) (s1 : Int) : Option (Int ⊕ (Bool ⊕ Unit)) :=
sel (decide (s1 < (a0.length : Int))) ((nth a0 s1).bind fun x1 =>
(nth a1 s1).bind fun x2 =>
sel (x1 != x2) (some (.inr (.inl false))) <|
some (.inl (w64 (s1 + 1)))) <|
some (.inr (.inr ()))
noncomputable def laws_eqIntS (a0 : List Int) (a1 : List Int) : Option (Bool) :=
sel ((a0.length : Int) != (a1.length : Int)) (some false) <|
(iter (laws_eqIntS_b1 a0 a1) 0).bind fun y1 =>
both y1 (fun o3 => some o3) (fun o4 =>
some true)
noncomputable def laws_eqMachine (a0 : Machine) (a1 : Machine) : Option (Bool) :=
(laws_eqIntS a0.Regs a1.Regs).bind fun y1 =>
sel (!y1) (some false) <|
sel (a0.Pc != a1.Pc) (some false) <|
(laws_eqIntS a0.Mem a1.Mem).bind fun y2 =>
sel (!y2) (some false) <|
some true
def laws_markIntS_b1 (s1 : Int × Int × (List Int)) : Option ((Int × Int × (List Int)) ⊕ (Int × (List Int))) :=
sel (decide (s1.2.1 < (s1.2.2.length : Int))) ((nth s1.2.2 s1.2.1).bind fun x1 =>
(upd s1.2.2 s1.2.1 s1.1).bind fun r1 =>
some (.inl (w64 (s1.1 + 1), w64 (s1.2.1 + 1), r1))) <|
some (.inr (s1.1, s1.2.2))
noncomputable def laws_markIntS (a0 : List Int) (a1 : Int) : Option (Int × (List Int)) :=
(iter (laws_markIntS_b1) (a1, 0, a0)).bind fun y1 =>
some (y1.1, y1.2)
noncomputable def laws_markMachine (a0 : Machine) (a1 : Int) : Option (Int × (List Int) × (List Int)) :=
(laws_markIntS a0.Regs a1).bind fun y1 =>
(laws_markIntS a0.Mem y1.1).bind fun y2 =>
some (y2.1, y1.2, y2.2)
def laws_heldIntS_b1 (a0 : List Int) (s1 : Int × Int) : Option ((Int × Int) ⊕ (Int ⊕ Int)) :=
sel (decide (s1.2 < (a0.length : Int))) ((nth a0 s1.2).bind fun x1 =>
sel (x1 != s1.1) (some (.inr (.inl (-1)))) <|
some (.inl (w64 (s1.1 + 1), w64 (s1.2 + 1)))) <|
some (.inr (.inr s1.1))
noncomputable def laws_heldIntS (a0 : List Int) (a1 : Int) : Option (Int) :=
(iter (laws_heldIntS_b1 a0) (a1, 0)).bind fun y1 =>
both y1 (fun o3 => some o3) (fun o4 =>
some o4)
noncomputable def laws_heldMachine (a0 : Machine) (a1 : Int) : Option (Int) :=
(laws_heldIntS a0.Regs a1).bind fun y1 =>
sel (decide (y1 < 0)) (some (-1)) <|
(laws_heldIntS a0.Mem y1).bind fun y2 =>
sel (decide (y2 < 0)) (some (-1)) <|
some y2
def laws_szIntS (a0 : List Int) (a1 : Int) : Option (Int) :=
sel (decide ((w64 (a1 - (a0.length : Int))) < 0)) (some (-1)) <|
some (w64 (a1 - (a0.length : Int)))
def laws_szMachine (a0 : Machine) (a1 : Int) : Option (Int) :=
(laws_szIntS a0.Regs a1).bind fun y1 =>
sel (decide (y1 < 0)) (some (-1)) <|
(laws_szIntS a0.Mem y1).bind fun y2 =>
sel (decide (y2 < 0)) (some (-1)) <|
some y2
def spec_l6In (a0 : Int) (a1 : Int) (a2 : Int) : Option (Bool) :=
some ((decide (a0 ≥ a1)) && (decide (a0 ≤ a2)))
def spec_WordValid (a0 : Int) : Option (Bool) :=
(spec_l6In a0 (-2147483648) 2147483647).bind fun y1 =>
some y1
def spec_l4Words_b1 (a0 : List Int) (s1 : Int) : Option (Int ⊕ (Bool ⊕ Unit)) :=
sel (decide (s1 < (a0.length : Int))) ((nth a0 s1).bind fun x1 =>
(spec_WordValid x1).bind fun y4 =>
sel (!y4) (some (.inr (.inl false))) <|
some (.inl (w64 (s1 + 1)))) <|
some (.inr (.inr ()))
noncomputable def spec_l4Words (a0 : List Int) (a1 : Int) : Option (Bool) :=
sel ((a0.length : Int) != a1) (some false) <|
(iter (spec_l4Words_b1 a0) 0).bind fun y1 =>
both y1 (fun o3 => some o3) (fun o4 =>
some true)
noncomputable def spec_MachineValid (a0 : Machine) : Option (Bool) :=
(spec_l4Words a0.Regs 32).bind fun y1 =>
(sel y1 ((nth a0.Regs 0).bind fun x1 => some (x1 == 0)) (some false)).bind fun b1 =>
(sel b1 ((spec_WordValid a0.Pc).bind fun y2 => some y2) (some false)).bind fun b2 =>
(sel (b2 && (decide ((a0.Mem.length : Int) ≤ 10000))) ((spec_l4Words a0.Mem (a0.Mem.length : Int)).bind fun y3 => some y3) (some false)).bind fun b3 =>
some b3
def spec_l44Copy (a0 : Machine) : Option (Machine) :=
(app 8 [] a0.Regs).bind fun r1 =>
(app 8 [] a0.Mem).bind fun r2 =>
some (Machine.mk r1 a0.Pc r2)
def spec_l44Word (a0 : List Int) (a1 : Int) : Option (Bool) :=
some (((decide (a1 ≥ 0)) && ((Int.tmod a1 4) == 0)) && (decide ((w64 (Int.tdiv a1 4)) < (a0.length : Int))))
def spec_l42Mod (a0 : Int) (a1 : Int) : Option (Int) :=
sel (decide (a0 < 0)) (some (w64 (a0 + a1))) <|
some a0
def spec_l1Power_b1 (a0 : Int) (s1 : Int × Int) : Option ((Int × Int) ⊕ Int) :=
sel (decide (s1.2 < a0)) (some (.inl (w64 (s1.1 * 2), w64 (s1.2 + 1)))) <|
some (.inr s1.1)
noncomputable def spec_l1Power (a0 : Int) : Option (Int) :=
(iter (spec_l1Power_b1 a0) (1, 0)).bind fun y1 =>
some y1
noncomputable def spec_l42Put (a0 : Int) (a1 : Int) : Option (Int) :=
(spec_l1Power a1).bind fun y1 =>
some (w64 (a0 * y1))
def spec_l42Three (a0 : Int) : Option (Int) :=
(nth [0, 0, 0, 4, 6, 7, 6, 4, 1, 5, 2, 0, 3, 2, 0, 2, 0, 1, 0, 0, 0] (w64 (a0 - 1))).bind fun x1 =>
some x1
noncomputable def spec_l42Mid (a0 : Instr) (a1 : Int) : Option (Int) :=
(spec_l42Put a0.Rs 15).bind fun y1 =>
(spec_l42Three a0.Op).bind fun y2 =>
(spec_l42Put y2 12).bind fun y3 =>
some (w64 ((w64 (y1 + y3)) + a1))
noncomputable def spec_l42Imm (a0 : Instr) (a1 : Int) : Option (Int) :=
(spec_l42Mod a0.Imm 4096).bind fun y1 =>
(spec_l42Put y1 20).bind fun y2 =>
(spec_l42Mid a0 a1).bind fun y3 =>
(spec_l42Put a0.Rd 7).bind fun y4 =>
some (w64 ((w64 (y2 + y3)) + y4))
noncomputable def spec_Bits (a0 : Int) (a1 : Int) (a2 : Int) : Option (Int) :=
(spec_l6In a0 0 4294967295).bind fun y1 =>
(sel (!y1) (some true) ((spec_l6In a1 0 31).bind fun y2 => some (!y2))).bind fun b1 =>
(sel b1 (some true) ((spec_l6In a2 1 (w64 (32 - a1))).bind fun y3 => some (!y3))).bind fun b2 =>
sel b2 (some 0) <|
(spec_l1Power a1).bind fun y4 =>
(quoO .i64 a0 y4).bind fun d1 =>
(spec_l1Power a2).bind fun y5 =>
(remO d1 y5).bind fun d2 =>
some d2
noncomputable def spec_l42Branch (a0 : Instr) : Option (Int) :=
(spec_l42Mod a0.Imm 8192).bind fun y1 =>
(spec_Bits y1 12 1).bind fun y2 =>
(spec_l42Put y2 31).bind fun y3 =>
(spec_Bits y1 5 6).bind fun y4 =>
(spec_l42Put y4 25).bind fun y5 =>
(spec_l42Put a0.Rt 20).bind fun y6 =>
(spec_l42Mid a0 99).bind fun y7 =>
(spec_Bits y1 1 4).bind fun y8 =>
(spec_l42Put y8 8).bind fun y9 =>
(spec_Bits y1 11 1).bind fun y10 =>
(spec_l42Put y10 7).bind fun y11 =>
some (w64 ((w64 ((w64 ((w64 ((w64 (y3 + y5)) + y6)) + y7)) + y9)) + y11))
noncomputable def spec_l42Jump (a0 : Instr) : Option (Int) :=
(spec_l42Mod a0.Imm 2097152).bind fun y1 =>
(spec_Bits y1 20 1).bind fun y2 =>
(spec_l42Put y2 31).bind fun y3 =>
(spec_Bits y1 1 10).bind fun y4 =>
(spec_l42Put y4 21).bind fun y5 =>
(spec_Bits y1 11 1).bind fun y6 =>
(spec_l42Put y6 20).bind fun y7 =>
(spec_Bits y1 12 8).bind fun y8 =>
(spec_l42Put y8 12).bind fun y9 =>
(spec_l42Put a0.Rd 7).bind fun y10 =>
some (w64 ((w64 ((w64 ((w64 ((w64 (y3 + y5)) + y7)) + y9)) + y10)) + 111))
def spec_l42Seven (a0 : Int) : Option (Int) :=
(nth [0, 32, 1, 1, 1, 0, 0, 0, 0, 32, 0] (w64 (a0 - 1))).bind fun x1 =>
some x1
noncomputable def spec_l42Encode (a0 : Instr) : Option (Int) :=
(sel (a0.Op == 12) (some (a0.Op == 12)) <|
some (a0.Op == 13) : Option (Bool)).bind fun y1 =>
sel y1 ((spec_l42Imm a0 19).bind fun y2 =>
some y2) <|
sel (a0.Op == 14) ((spec_l42Imm a0 3).bind fun y3 =>
some y3) <|
sel (a0.Op == 15) ((spec_l42Imm a0 103).bind fun y4 =>
some y4) <|
sel (a0.Op == 16) ((spec_l42Mod a0.Imm 4096).bind fun y5 =>
(spec_Bits y5 5 7).bind fun y6 =>
(spec_l42Put y6 25).bind fun y7 =>
(spec_l42Put a0.Rt 20).bind fun y8 =>
(spec_l42Mid a0 35).bind fun y9 =>
(spec_Bits y5 0 5).bind fun y10 =>
(spec_l42Put y10 7).bind fun y11 =>
some (w64 ((w64 ((w64 (y7 + y8)) + y9)) + y11))) <|
(sel (a0.Op == 17) (some (a0.Op == 17)) <|
some (a0.Op == 18) : Option (Bool)).bind fun y12 =>
sel y12 ((spec_l42Branch a0).bind fun y13 =>
some y13) <|
sel (a0.Op == 19) ((spec_l42Put a0.Imm 12).bind fun y14 =>
(spec_l42Put a0.Rd 7).bind fun y15 =>
some (w64 ((w64 (y14 + y15)) + 55))) <|
sel (a0.Op == 20) ((spec_l42Jump a0).bind fun y16 =>
some y16) <|
sel (a0.Op == 21) (some 115) <|
(spec_l42Seven a0.Op).bind fun y17 =>
(spec_l42Put y17 25).bind fun y18 =>
(spec_l42Put a0.Rt 20).bind fun y19 =>
(spec_l42Mid a0 51).bind fun y20 =>
(spec_l42Put a0.Rd 7).bind fun y21 =>
some (w64 ((w64 ((w64 (y18 + y19)) + y20)) + y21))
noncomputable def spec_l42Op_b1 (a0 : Int) (s1 : Int) : Option (Int ⊕ (Int ⊕ Unit)) :=
sel (decide (s1 ≤ 11)) ((spec_Bits a0 12 3).bind fun y5 =>
(spec_l42Three s1).bind fun y6 =>
(sel (y5 == y6) ((spec_Bits a0 25 7).bind fun y7 => (spec_l42Seven s1).bind fun y8 => some (y7 == y8)) (some false)).bind fun b1 =>
sel b1 (some (.inr (.inl s1))) <|
some (.inl (w64 (s1 + 1)))) <|
some (.inr (.inr ()))
noncomputable def spec_l42Op (a0 : Int) : Option (Int) :=
(spec_Bits a0 0 7).bind fun y1 =>
sel (y1 == 51) ((iter (spec_l42Op_b1 a0) 1).bind fun y2 =>
both y2 (fun o3 => some o3) (fun o4 =>
some 0)) <|
sel (y1 == 19) ((spec_Bits a0 12 3).bind fun y9 =>
sel (y9 == 0) (some 12) <|
some 13) <|
sel (y1 == 3) (some 14) <|
sel (y1 == 103) (some 15) <|
sel (y1 == 35) (some 16) <|
sel (y1 == 99) ((spec_Bits a0 12 3).bind fun y10 =>
sel (y10 == 0) (some 17) <|
some 18) <|
sel (y1 == 55) (some 19) <|
sel (y1 == 111) (some 20) <|
sel (y1 == 115) (some 21) <|
some 0
noncomputable def spec_SignExtend (a0 : Int) (a1 : Int) : Option (Int) :=
(spec_l6In a1 1 32).bind fun y1 =>
(sel (!y1) (some true) ((spec_l1Power a1).bind fun y2 => (spec_l6In a0 0 (w64 (y2 - 1))).bind fun y3 => some (!y3))).bind fun b1 =>
sel b1 (some 0) <|
(spec_l1Power (w64 (a1 - 1))).bind fun y4 =>
sel (decide (a0 ≥ y4)) ((spec_l1Power a1).bind fun y5 =>
some (w64 (a0 - y5))) <|
some a0
noncomputable def spec_l42Fields (a0 : Int) (a1 : Int) : Option (Instr) :=
(spec_Bits a1 7 5).bind fun y1 =>
(spec_Bits a1 15 5).bind fun y2 =>
(spec_Bits a1 20 5).bind fun y3 =>
sel (decide (a0 ≤ 11)) (some (Instr.mk a0 y1 y2 y3 0)) <|
sel (decide (a0 ≤ 15)) ((spec_Bits a1 20 12).bind fun y4 =>
(spec_SignExtend y4 12).bind fun y5 =>
some (Instr.mk a0 y1 y2 0 y5)) <|
sel (a0 == 16) ((spec_Bits a1 25 7).bind fun y6 =>
(spec_SignExtend (w64 ((w64 (y6 * 32)) + y1)) 12).bind fun y7 =>
some (Instr.mk a0 0 y2 y3 y7)) <|
sel ((a0 == 17) || (a0 == 18)) ((spec_Bits a1 31 1).bind fun y8 =>
(spec_Bits a1 7 1).bind fun y9 =>
(spec_Bits a1 25 6).bind fun y10 =>
(spec_Bits a1 8 4).bind fun y11 =>
(spec_SignExtend (w64 ((w64 ((w64 ((w64 (y8 * 4096)) + (w64 (y9 * 2048)))) + (w64 (y10 * 32)))) + (w64 (y11 * 2)))) 13).bind fun y12 =>
some (Instr.mk a0 0 y2 y3 y12)) <|
sel (a0 == 19) ((spec_Bits a1 12 20).bind fun y13 =>
some (Instr.mk a0 y1 0 0 y13)) <|
sel (a0 == 20) ((spec_Bits a1 31 1).bind fun y14 =>
(spec_Bits a1 12 8).bind fun y15 =>
(spec_Bits a1 20 1).bind fun y16 =>
(spec_Bits a1 21 10).bind fun y17 =>
(spec_SignExtend (w64 ((w64 ((w64 ((w64 (y14 * 1048576)) + (w64 (y15 * 4096)))) + (w64 (y16 * 2048)))) + (w64 (y17 * 2)))) 21).bind fun y18 =>
some (Instr.mk a0 y1 0 0 y18)) <|
some (Instr.mk a0 0 0 0 0)
noncomputable def spec_InstrDecode (a0 : Int) : Option (Instr × Bool) :=
(spec_l6In a0 0 4294967295).bind fun y1 =>
(sel (!y1) (some true) ((spec_l42Op a0).bind fun y2 => some (y2 == 0))).bind fun b1 =>
sel b1 (some ((Instr.mk 0 0 0 0 0), false)) <|
(spec_l42Op a0).bind fun y3 =>
(spec_l42Fields y3 a0).bind fun y4 =>
(spec_l42Encode y4).bind fun y5 =>
sel (y5 != a0) (some ((Instr.mk 0 0 0 0 0), false)) <|
some (y4, true)
def spec_Unsigned (a0 : Int) : Option (Int) :=
(spec_WordValid a0).bind fun y1 =>
sel (!y1) (some (-1)) <|
sel (decide (a0 < 0)) (some (w64 (a0 + 4294967296))) <|
some a0
def spec_Wrap (a0 : Int) : Option (Int) :=
sel (decide ((Int.tmod a0 4294967296) > 2147483647)) (some (w64 ((Int.tmod a0 4294967296) - 4294967296))) <|
sel (decide ((Int.tmod a0 4294967296) < (-2147483648))) (some (w64 ((Int.tmod a0 4294967296) + 4294967296))) <|
some (Int.tmod a0 4294967296)
def spec_l44Set (a0 : Machine) (a1 : Int) (a2 : Int) : Option ((List Int)) :=
sel (a1 != 0) ((nth a0.Regs a1).bind fun x1 =>
(upd a0.Regs a1 a2).bind fun r1 =>
some r1) <|
some a0.Regs
def spec_l44Load (a0 : Machine) (a1 : Instr) : Option (Bool × (List Int) × Int × (List Int)) :=
(nth a0.Regs a1.Rs).bind fun x1 =>
(spec_Wrap (w64 (x1 + a1.Imm))).bind fun y1 =>
(spec_l44Word a0.Mem y1).bind fun y2 =>
sel (!y2) (some (false, a0.Regs, a0.Pc, a0.Mem)) <|
(sel (a1.Op == 14) ((nth a0.Mem (w64 (Int.tdiv y1 4))).bind fun x2 =>
(spec_l44Set (Machine.mk a0.Regs a0.Pc a0.Mem) a1.Rd x2).bind fun y4 =>
some (y4, a0.Mem)) <|
(nth a0.Regs a1.Rt).bind fun x3 =>
(nth a0.Mem (w64 (Int.tdiv y1 4))).bind fun x4 =>
(upd a0.Mem (w64 (Int.tdiv y1 4)) x3).bind fun r1 =>
some (a0.Regs, r1) : Option ((List Int) × (List Int))).bind fun y3 =>
some (true, y3.1, w64 (a0.Pc + 4), y3.2)
def spec_l44Jump (a0 : Machine) (a1 : Instr) : Option ((List Int) × Int) :=
(spec_Wrap (w64 (a0.Pc + 4))).bind fun y1 =>
(nth a0.Regs a1.Rs).bind fun x1 =>
(nth a0.Regs a1.Rt).bind fun x2 =>
sel (a1.Op == 15) ((nth a0.Regs a1.Rs).bind fun x3 =>
(spec_Wrap (w64 (x3 + a1.Imm))).bind fun y2 =>
(spec_l44Set (Machine.mk a0.Regs a0.Pc a0.Mem) a1.Rd y1).bind fun y3 =>
some (y3, w64 (y2 - (bitsI .and .i64 y2 1)))) <|
sel (a1.Op == 20) ((spec_l44Set (Machine.mk a0.Regs a0.Pc a0.Mem) a1.Rd y1).bind fun y4 =>
(spec_Wrap (w64 (a0.Pc + a1.Imm))).bind fun y5 =>
some (y4, y5)) <|
sel ((x1 == x2) == (a1.Op == 17)) ((spec_Wrap (w64 (a0.Pc + a1.Imm))).bind fun y6 =>
some (a0.Regs, y6)) <|
some (a0.Regs, y1)
def spec_l2Flag (a0 : Bool) : Option (Int) :=
sel a0 (some 1) <|
some 0
def spec_OpValid (a0 : Int) : Option (Bool) :=
(spec_l6In a0 1 12).bind fun y1 =>
some y1
def spec_l2Shift (a0 : Int) (a1 : Int) (a2 : Bool) : Option (Int) :=
sel a2 ((shO .shr .i64 a0 (bitsI .and .i64 a1 31)).bind fun d1 =>
some d1) <|
(shO .shl .i64 a0 (bitsI .and .i64 a1 31)).bind fun d2 =>
(spec_Wrap d2).bind fun y1 =>
some y1
def spec_l2Divide (a0 : Int) (a1 : Int) : Option (Int) :=
sel (a1 == 0) (some (-1)) <|
(quoO .i64 a0 a1).bind fun d1 =>
(spec_Wrap d1).bind fun y1 =>
some y1
def spec_l2Remain (a0 : Int) (a1 : Int) : Option (Int) :=
sel (a1 == 0) (some a0) <|
(remO a0 a1).bind fun d1 =>
some d1
def spec_Apply (a0 : Int) (a1 : Int) (a2 : Int) : Option (Int × Bool) :=
(spec_OpValid a0).bind fun y1 =>
(sel (!y1) (some true) ((spec_WordValid a1).bind fun y2 => some (!y2))).bind fun b1 =>
(sel b1 (some true) ((spec_WordValid a2).bind fun y3 => some (!y3))).bind fun b2 =>
sel b2 (some (0, false)) <|
sel (a0 == 1) (some (bitsI .or .i64 a1 a2, true)) <|
sel (a0 == 2) (some (bitsI .xor .i64 a1 a2, true)) <|
sel (a0 == 3) (some (bitsI .and .i64 a1 a2, true)) <|
sel (a0 == 4) ((spec_l2Flag (a1 == a2)).bind fun y4 =>
some (y4, true)) <|
sel (a0 == 5) ((spec_l2Flag (decide (a1 < a2))).bind fun y5 =>
some (y5, true)) <|
sel (a0 == 6) ((spec_l2Shift a1 a2 false).bind fun y6 =>
some (y6, true)) <|
sel (a0 == 7) ((spec_l2Shift a1 a2 true).bind fun y7 =>
some (y7, true)) <|
sel (a0 == 8) ((spec_Wrap (w64 (a1 + a2))).bind fun y8 =>
some (y8, true)) <|
sel (a0 == 9) ((spec_Wrap (w64 (a1 - a2))).bind fun y9 =>
some (y9, true)) <|
sel (a0 == 10) ((spec_Wrap (w64 (a1 * a2))).bind fun y10 =>
some (y10, true)) <|
sel (a0 == 11) ((spec_l2Divide a1 a2).bind fun y11 =>
some (y11, true)) <|
(spec_l2Remain a1 a2).bind fun y12 =>
some (y12, true)
def spec_l44Alu (a0 : Int) (a1 : Int) (a2 : Int) : Option (Int) :=
(nth [8, 9, 10, 11, 12, 3, 1, 2, 6, 7, 5] (w64 (a0 - 1))).bind fun x1 =>
(spec_Apply x1 a1 a2).bind fun y1 =>
some y1.1
def spec_l44Do (a0 : Machine) (a1 : Instr) : Option (Bool × (List Int) × Int × (List Int)) :=
(nth a0.Regs a1.Rs).bind fun x1 =>
((sel (a1.Op == 14) (some (a1.Op == 14)) <|
some (a1.Op == 16) : Option (Bool)).bind fun y2 =>
sel y2 ((spec_l44Load (Machine.mk a0.Regs a0.Pc a0.Mem) a1).bind fun y3 =>
some (.inr (y3.1, y3.2.1, y3.2.2.1, y3.2.2.2))) <|
(sel (a1.Op == 15) (some (a1.Op == 15)) <|
sel (a1.Op == 20) (some (a1.Op == 20)) <|
sel (a1.Op == 17) (some (a1.Op == 17)) <|
some (a1.Op == 18) : Option (Bool)).bind fun y4 =>
sel y4 ((spec_l44Jump (Machine.mk a0.Regs a0.Pc a0.Mem) a1).bind fun y5 =>
some (.inr (true, y5.1, y5.2, a0.Mem))) <|
sel (a1.Op == 12) ((spec_Wrap (w64 (x1 + a1.Imm))).bind fun y6 =>
(spec_l44Set (Machine.mk a0.Regs a0.Pc a0.Mem) a1.Rd y6).bind fun y7 =>
some (.inl y7)) <|
sel (a1.Op == 13) ((spec_Unsigned x1).bind fun y8 =>
(spec_Unsigned a1.Imm).bind fun y9 =>
(spec_l2Flag (decide (y8 < y9))).bind fun y10 =>
(spec_l44Set (Machine.mk a0.Regs a0.Pc a0.Mem) a1.Rd y10).bind fun y11 =>
some (.inl y11)) <|
sel (a1.Op == 19) ((spec_Wrap (w64 (a1.Imm * 4096))).bind fun y12 =>
(spec_l44Set (Machine.mk a0.Regs a0.Pc a0.Mem) a1.Rd y12).bind fun y13 =>
some (.inl y13)) <|
(nth a0.Regs a1.Rt).bind fun x2 =>
(spec_l44Alu a1.Op x1 x2).bind fun y14 =>
(spec_l44Set (Machine.mk a0.Regs a0.Pc a0.Mem) a1.Rd y14).bind fun y15 =>
some (.inl y15) : Option (((List Int)) ⊕ (Bool × (List Int) × Int × (List Int)))).bind fun y1 =>
both y1 (fun o3 => some (true, o3, w64 (a0.Pc + 4), a0.Mem)) (fun o4 =>
some o4)
noncomputable def spec_l44Step (a0 : Machine) : Option (Int × (List Int) × Int × (List Int)) :=
(spec_l44Word a0.Mem a0.Pc).bind fun y1 =>
sel (!y1) (some (3, a0.Regs, a0.Pc, a0.Mem)) <|
(nth a0.Mem (w64 (Int.tdiv a0.Pc 4))).bind fun x1 =>
(spec_Unsigned x1).bind fun y2 =>
(spec_InstrDecode y2).bind fun y3 =>
sel (!y3.2) (some (3, a0.Regs, a0.Pc, a0.Mem)) <|
sel (y3.1.Op == 21) (some (2, a0.Regs, a0.Pc, a0.Mem)) <|
(spec_l44Do (Machine.mk a0.Regs a0.Pc a0.Mem) y3.1).bind fun y4 =>
sel (!y4.1) (some (3, y4.2.1, y4.2.2.1, y4.2.2.2)) <|
some (1, y4.2.1, y4.2.2.1, y4.2.2.2)
noncomputable def spec_ImageRun_b1 (a1 : Int) (s1 : (List Int) × Int × (List Int) × Int × (List Int)) : Option (((List Int) × Int × (List Int) × Int × (List Int)) ⊕ ((Machine × (List Int) × Int) ⊕ ((List Int) × (List Int) × Int × (List Int)))) :=
sel (decide (s1.2.1 < a1)) (((spec_l44Step (Machine.mk s1.2.2.1 s1.2.2.2.1 s1.2.2.2.2)).bind fun y8 =>
sel (y8.1 == 1) (some (.inl (s1.1, y8.2.1, y8.2.2.1, y8.2.2.2))) <|
(sel (y8.1 != 2) (some true) ((nth y8.2.1 17).bind fun x1 => some (x1 != 4))).bind fun b2 =>
sel b2 (some (.inr ((Machine.mk y8.2.1 y8.2.2.1 y8.2.2.2), s1.1, y8.1))) <|
(nth y8.2.1 10).bind fun x2 =>
(app 8 s1.1 [x2]).bind fun r1 =>
some (.inl (r1, y8.2.1, w64 (y8.2.2.1 + 4), y8.2.2.2)) : Option (((List Int) × (List Int) × Int × (List Int)) ⊕ (Machine × (List Int) × Int))).bind fun y7 =>
both y7 (fun o5 => some (.inl (o5.1, w64 (s1.2.1 + 1), o5.2.1, o5.2.2.1, o5.2.2.2))) (fun o6 =>
some (.inr (.inl o6)))) <|
some (.inr (.inr (s1.1, s1.2.2.1, s1.2.2.2.1, s1.2.2.2.2)))
noncomputable def spec_ImageRun (a0 : Machine) (a1 : Int) : Option (Machine × (List Int) × Int) :=
(spec_MachineValid (Machine.mk a0.Regs a0.Pc a0.Mem)).bind fun y1 =>
(sel (!y1) (some true) ((spec_l6In a1 0 1000000).bind fun y2 => some (!y2))).bind fun b1 =>
sel b1 (some ((Machine.mk [] 0 []), [], 0)) <|
(spec_l44Copy (Machine.mk a0.Regs a0.Pc a0.Mem)).bind fun y3 =>
(iter (spec_ImageRun_b1 a1) ([], 0, y3.Regs, y3.Pc, y3.Mem)).bind fun y4 =>
both y4 (fun o7 => some o7) (fun o8 =>
some ((Machine.mk o8.2.1 o8.2.2.1 o8.2.2.2), o8.1, 1))
def laws_toIntS_b1 (a0 : List Int) (s1 : Int × (List Int)) : Option ((Int × (List Int)) ⊕ ((List Int))) :=
sel (decide (s1.1 < (a0.length : Int))) ((nth a0 s1.1).bind fun x1 =>
(nth s1.2 s1.1).bind fun x2 =>
(upd s1.2 s1.1 x1).bind fun r2 =>
some (.inl (w64 (s1.1 + 1), r2))) <|
some (.inr s1.2)
noncomputable def laws_toIntS (a0 : List Int) : Option ((List Int)) :=
(mk 8 (a0.length : Int) 0).bind fun r1 =>
(iter (laws_toIntS_b1 a0) (0, r1)).bind fun y1 =>
some y1
noncomputable def laws_toMachine (a0 : Machine) : Option (Machine) :=
(laws_toIntS a0.Regs).bind fun y1 =>
(laws_toIntS a0.Mem).bind fun y2 =>
some (Machine.mk y1 a0.Pc y2)
def impl_WordValid (a0 : Int) : Option (Bool) :=
some ((decide (a0 ≥ (-2147483648))) && (decide (a0 ≤ 2147483647)))
def impl_areWords_b1 (a0 : List Int) (s1 : Int) : Option (Int ⊕ (Bool ⊕ Unit)) :=
sel (decide (s1 < (a0.length : Int))) ((nth a0 s1).bind fun x1 =>
(impl_WordValid x1).bind fun y4 =>
sel (!y4) (some (.inr (.inl false))) <|
some (.inl (w64 (s1 + 1)))) <|
some (.inr (.inr ()))
noncomputable def impl_areWords (a0 : List Int) : Option (Bool) :=
(iter (impl_areWords_b1 a0) 0).bind fun y1 =>
both y1 (fun o3 => some o3) (fun o4 =>
some true)
noncomputable def impl_MachineValid (a0 : Machine) : Option (Bool) :=
(sel ((a0.Regs.length : Int) == 32) ((impl_areWords a0.Regs).bind fun y1 => some y1) (some false)).bind fun b1 =>
(sel b1 ((nth a0.Regs 0).bind fun x1 => some (x1 == 0)) (some false)).bind fun b2 =>
(sel b2 ((impl_WordValid a0.Pc).bind fun y2 => some y2) (some false)).bind fun b3 =>
(sel (b3 && (decide ((a0.Mem.length : Int) ≤ 10000))) ((impl_areWords a0.Mem).bind fun y3 => some y3) (some false)).bind fun b4 =>
some b4
def slices_Clone___int_int_ (a0 : List Int) : Option ((List Int)) :=
(app 8 [] a0).bind fun r1 =>
some r1
def impl_machineCopy (a0 : Machine) : Option (Machine) :=
(slices_Clone___int_int_ a0.Regs).bind fun y1 =>
(slices_Clone___int_int_ a0.Mem).bind fun y2 =>
some (Machine.mk y1 a0.Pc y2)
def impl_Wrap (a0 : Int) : Option (Int) :=
some (w64 (kwrap .i32 (a0)))
def impl_Machine_word (a0 : Machine) (a1 : Int) : Option (Int) :=
sel (((decide (a1 < 0)) || ((Int.tmod a1 4) != 0)) || (decide ((w64 (Int.tdiv a1 4)) ≥ (a0.Mem.length : Int)))) (some (-1)) <|
(nth a0.Mem (w64 (Int.tdiv a1 4))).bind fun x1 =>
some (w64 (Int.tdiv a1 4))
def impl_Unsigned (a0 : Int) : Option (Int) :=
(impl_WordValid a0).bind fun y1 =>
sel (!y1) (some (-1)) <|
some (w64 (kwrap .u32 (a0)))
def impl_formatOf (a0 : Int) : Option (Int) :=
sel ((decide (a0 ≥ 1)) && (decide (a0 ≤ 11))) (some 82) <|
sel ((decide (a0 ≥ 12)) && (decide (a0 ≤ 15))) (some 73) <|
sel (a0 == 16) (some 83) <|
sel ((a0 == 17) || (a0 == 18)) (some 66) <|
sel (a0 == 19) (some 85) <|
sel (a0 == 20) (some 74) <|
sel (a0 == 21) (some 69) <|
some 32
def impl_isMachineReg (a0 : Int) : Option (Bool) :=
some ((decide (a0 ≥ 0)) && (decide (a0 < 32)))
def impl_InstrValid (a0 : Instr) : Option (Bool) :=
(impl_isMachineReg a0.Rd).bind fun y1 =>
(impl_isMachineReg a0.Rs).bind fun y2 =>
(impl_isMachineReg a0.Rt).bind fun y3 =>
(impl_formatOf a0.Op).bind fun y4 =>
sel (y4 == 82) (some (((y1 && y2) && y3) && (a0.Imm == 0))) <|
sel (y4 == 73) (some (((y1 && y2) && (a0.Rt == 0)) && ((decide (a0.Imm ≥ (-2048))) && (decide (a0.Imm ≤ 2047))))) <|
sel (y4 == 83) (some ((((a0.Rd == 0) && y2) && y3) && ((decide (a0.Imm ≥ (-2048))) && (decide (a0.Imm ≤ 2047))))) <|
sel (y4 == 66) (some ((((((a0.Rd == 0) && y2) && y3) && (decide (a0.Imm ≥ (-4096)))) && (decide (a0.Imm ≤ 4094))) && ((Int.tmod a0.Imm 2) == 0))) <|
sel (y4 == 85) (some ((((y1 && (a0.Rs == 0)) && (a0.Rt == 0)) && (decide (a0.Imm ≥ 0))) && (decide (a0.Imm ≤ 1048575)))) <|
sel (y4 == 74) (some (((((y1 && (a0.Rs == 0)) && (a0.Rt == 0)) && (decide (a0.Imm ≥ (-1048576)))) && (decide (a0.Imm ≤ 1048574))) && ((Int.tmod a0.Imm 2) == 0))) <|
sel (y4 == 69) (some ((a0.Op == 21) && ((a0.Rd == 0) && ((a0.Rs == 0) && ((a0.Rt == 0) && ((a0.Imm == 0) && true)))))) <|
some false
def impl_isUnsigned (a0 : Int) : Option (Bool) :=
some ((decide (a0 ≥ 0)) && (decide (a0 < 4294967296)))
def impl_Bits (a0 : Int) (a1 : Int) (a2 : Int) : Option (Int) :=
(impl_isUnsigned a0).bind fun y1 =>
sel (((((!y1) || (decide (a1 < 0))) || (decide (a1 > 31))) || (decide (a2 < 1))) || (decide (a2 > (w64 (32 - a1))))) (some 0) <|
(shO .shr .i64 a0 a1).bind fun d1 =>
(shO .shl .i64 1 a2).bind fun d2 =>
some (bitsI .and .i64 d1 (w64 (d2 - 1)))
def impl_InstrEncode_1 (a0 : Int) (a1 : Int) (a2 : Int) (a3 : Int) : Option (Int) :=
(impl_Bits a3 a0 a1).bind fun y1 =>
(shO .shl .i64 y1 a2).bind fun d1 =>
some d1
def impl_InstrEncode (a0 : Instr) : Option (Int × Bool) :=
(impl_InstrValid a0).bind fun y1 =>
sel (!y1) (some (0, false)) <|
(nth instrTable (w64 (a0.Op - 1))).bind fun x1 =>
(impl_Unsigned a0.Imm).bind fun y2 =>
(impl_formatOf a0.Op).bind fun y3 =>
sel (y3 == 82) (some (bitsI .or .i64 (bitsI .or .i64 (w64 (x1.funct7 * 2 ^ (min 25 (IntKind.bits .i64)))) (bitsI .or .i64 (bitsI .or .i64 (bitsI .or .i64 (w64 (a0.Rt * 2 ^ (min 20 (IntKind.bits .i64)))) (w64 (a0.Rs * 2 ^ (min 15 (IntKind.bits .i64))))) (w64 (x1.funct3 * 2 ^ (min 12 (IntKind.bits .i64))))) x1.opcode)) (w64 (a0.Rd * 2 ^ (min 7 (IntKind.bits .i64)))), true)) <|
sel (y3 == 73) ((impl_InstrEncode_1 0 12 20 y2).bind fun y4 =>
some (bitsI .or .i64 (bitsI .or .i64 y4 (bitsI .or .i64 (bitsI .or .i64 (bitsI .or .i64 (w64 (a0.Rt * 2 ^ (min 20 (IntKind.bits .i64)))) (w64 (a0.Rs * 2 ^ (min 15 (IntKind.bits .i64))))) (w64 (x1.funct3 * 2 ^ (min 12 (IntKind.bits .i64))))) x1.opcode)) (w64 (a0.Rd * 2 ^ (min 7 (IntKind.bits .i64)))), true)) <|
sel (y3 == 83) ((impl_InstrEncode_1 5 7 25 y2).bind fun y5 =>
(impl_InstrEncode_1 0 5 7 y2).bind fun y6 =>
some (bitsI .or .i64 (bitsI .or .i64 y5 (bitsI .or .i64 (bitsI .or .i64 (bitsI .or .i64 (w64 (a0.Rt * 2 ^ (min 20 (IntKind.bits .i64)))) (w64 (a0.Rs * 2 ^ (min 15 (IntKind.bits .i64))))) (w64 (x1.funct3 * 2 ^ (min 12 (IntKind.bits .i64))))) x1.opcode)) y6, true)) <|
sel (y3 == 66) ((impl_InstrEncode_1 12 1 31 y2).bind fun y7 =>
(impl_InstrEncode_1 5 6 25 y2).bind fun y8 =>
(impl_InstrEncode_1 1 4 8 y2).bind fun y9 =>
(impl_InstrEncode_1 11 1 7 y2).bind fun y10 =>
some (bitsI .or .i64 (bitsI .or .i64 (bitsI .or .i64 (bitsI .or .i64 y7 y8) (bitsI .or .i64 (bitsI .or .i64 (bitsI .or .i64 (w64 (a0.Rt * 2 ^ (min 20 (IntKind.bits .i64)))) (w64 (a0.Rs * 2 ^ (min 15 (IntKind.bits .i64))))) (w64 (x1.funct3 * 2 ^ (min 12 (IntKind.bits .i64))))) x1.opcode)) y9) y10, true)) <|
sel (y3 == 85) ((impl_InstrEncode_1 0 20 12 y2).bind fun y11 =>
some (bitsI .or .i64 (bitsI .or .i64 y11 (w64 (a0.Rd * 2 ^ (min 7 (IntKind.bits .i64))))) x1.opcode, true)) <|
sel (y3 == 74) ((impl_InstrEncode_1 20 1 31 y2).bind fun y12 =>
(impl_InstrEncode_1 1 10 21 y2).bind fun y13 =>
(impl_InstrEncode_1 11 1 20 y2).bind fun y14 =>
(impl_InstrEncode_1 12 8 12 y2).bind fun y15 =>
some (bitsI .or .i64 (bitsI .or .i64 (bitsI .or .i64 (bitsI .or .i64 (bitsI .or .i64 y12 y13) y14) y15) (w64 (a0.Rd * 2 ^ (min 7 (IntKind.bits .i64))))) x1.opcode, true)) <|
some (x1.opcode, true)
def impl_instrRow_matches (a0 : InstrRow) (a1 : Int) (a2 : Int) : Option (Bool) :=
sel (a0.opcode != (bitsI .and .i64 a2 127)) (some false) <|
(impl_formatOf a1).bind fun y1 =>
sel (y1 == 82) ((impl_Bits a2 12 3).bind fun y2 =>
(sel (a0.funct3 == y2) ((impl_Bits a2 25 7).bind fun y3 => some (a0.funct7 == y3)) (some false)).bind fun b1 =>
some b1) <|
(sel (y1 == 73) (some (y1 == 73)) <|
sel (y1 == 83) (some (y1 == 83)) <|
some (y1 == 66) : Option (Bool)).bind fun y4 =>
sel y4 ((impl_Bits a2 12 3).bind fun y5 =>
some (a0.funct3 == y5)) <|
some true
def impl_SignExtend (a0 : Int) (a1 : Int) : Option (Int) :=
(sel (((decide (a1 < 1)) || (decide (a1 > 32))) || (decide (a0 < 0))) (some true) ((shO .shl .i64 1 a1).bind fun d1 => some (decide (a0 ≥ d1)))).bind fun b1 =>
sel b1 (some 0) <|
(shO .shl .i64 1 (w64 (a1 - 1))).bind fun d2 =>
sel (decide (a0 ≥ d2)) ((shO .shl .i64 1 a1).bind fun d3 =>
some (w64 (a0 - d3))) <|
some a0
def impl_decodeAs (a0 : Int) (a1 : Int) : Option (Instr) :=
(impl_Bits a1 7 5).bind fun y1 =>
(impl_Bits a1 15 5).bind fun y2 =>
(impl_Bits a1 20 5).bind fun y3 =>
(impl_formatOf a0).bind fun y4 =>
sel (y4 == 82) (some (Instr.mk a0 y1 y2 y3 0)) <|
sel (y4 == 73) ((impl_Bits a1 20 12).bind fun y5 =>
(impl_SignExtend y5 12).bind fun y6 =>
some (Instr.mk a0 y1 y2 0 y6)) <|
sel (y4 == 83) ((impl_Bits a1 25 7).bind fun y7 =>
(impl_SignExtend (bitsI .or .i64 (w64 (y7 * 2 ^ (min 5 (IntKind.bits .i64)))) y1) 12).bind fun y8 =>
some (Instr.mk a0 0 y2 y3 y8)) <|
sel (y4 == 66) ((impl_Bits a1 31 1).bind fun y9 =>
(impl_Bits a1 7 1).bind fun y10 =>
(impl_Bits a1 25 6).bind fun y11 =>
(impl_Bits a1 8 4).bind fun y12 =>
(impl_SignExtend (bitsI .or .i64 (bitsI .or .i64 (bitsI .or .i64 (w64 (y9 * 2 ^ (min 12 (IntKind.bits .i64)))) (w64 (y10 * 2 ^ (min 11 (IntKind.bits .i64))))) (w64 (y11 * 2 ^ (min 5 (IntKind.bits .i64))))) (w64 (y12 * 2 ^ (min 1 (IntKind.bits .i64))))) 13).bind fun y13 =>
some (Instr.mk a0 0 y2 y3 y13)) <|
sel (y4 == 85) ((impl_Bits a1 12 20).bind fun y14 =>
some (Instr.mk a0 y1 0 0 y14)) <|
sel (y4 == 74) ((impl_Bits a1 31 1).bind fun y15 =>
(impl_Bits a1 12 8).bind fun y16 =>
(impl_Bits a1 20 1).bind fun y17 =>
(impl_Bits a1 21 10).bind fun y18 =>
(impl_SignExtend (bitsI .or .i64 (bitsI .or .i64 (bitsI .or .i64 (w64 (y15 * 2 ^ (min 20 (IntKind.bits .i64)))) (w64 (y16 * 2 ^ (min 12 (IntKind.bits .i64))))) (w64 (y17 * 2 ^ (min 11 (IntKind.bits .i64))))) (w64 (y18 * 2 ^ (min 1 (IntKind.bits .i64))))) 21).bind fun y19 =>
some (Instr.mk a0 y1 0 0 y19)) <|
some (Instr.mk a0 0 0 0 0)
def impl_InstrDecode_b1 (a0 : Int) (s1 : Int) : Option (Int ⊕ ((Instr × Bool) ⊕ Unit)) :=
sel (decide (s1 ≤ 21)) (((nth instrTable (w64 (s1 - 1))).bind fun x1 =>
(impl_instrRow_matches x1 s1 a0).bind fun y6 =>
sel (!y6) (some (.inl ())) <|
(impl_decodeAs s1 a0).bind fun y7 =>
(impl_InstrEncode y7).bind fun y8 =>
sel (y8.2 && (y8.1 == a0)) (some (.inr (y7, true))) <|
some (.inl ()) : Option (Unit ⊕ (Instr × Bool))).bind fun y5 =>
both y5 (fun o5 => some (.inl (w64 (s1 + 1)))) (fun o6 =>
some (.inr (.inl o6)))) <|
some (.inr (.inr ()))
noncomputable def impl_InstrDecode (a0 : Int) : Option (Instr × Bool) :=
(impl_isUnsigned a0).bind fun y1 =>
sel (!y1) (some ((Instr.mk 0 0 0 0 0), false)) <|
(iter (impl_InstrDecode_b1 a0) 1).bind fun y2 =>
both y2 (fun o7 => some o7) (fun o8 =>
some ((Instr.mk 0 0 0 0 0), false))
def impl_Machine_set (a0 : Machine) (a1 : Int) (a2 : Int) : Option ((List Int)) :=
sel (a1 != 0) ((nth a0.Regs a1).bind fun x1 =>
(upd a0.Regs a1 a2).bind fun r1 =>
some r1) <|
some a0.Regs
def impl_truth (a0 : Bool) : Option (Int) :=
sel a0 (some 1) <|
some 0
def impl_apply (a0 : Int) (a1 : Int) (a2 : Int) : Option (Int) :=
sel (a0 == 1) (some (bitsI .or .i64 a1 a2)) <|
sel (a0 == 2) (some (bitsI .xor .i64 a1 a2)) <|
sel (a0 == 3) (some (bitsI .and .i64 a1 a2)) <|
sel (a0 == 4) ((impl_truth (a1 == a2)).bind fun y1 =>
some y1) <|
sel (a0 == 5) ((impl_truth (decide (a1 < a2))).bind fun y2 =>
some y2) <|
sel (a0 == 6) ((shO .shl .i64 a1 (bitsI .and .i64 a2 31)).bind fun d1 =>
(impl_Wrap d1).bind fun y3 =>
some y3) <|
sel (a0 == 7) ((shO .shr .i64 a1 (bitsI .and .i64 a2 31)).bind fun d2 =>
some d2) <|
sel (a0 == 8) ((impl_Wrap (w64 (a1 + a2))).bind fun y4 =>
some y4) <|
sel (a0 == 9) ((impl_Wrap (w64 (a1 - a2))).bind fun y5 =>
some y5) <|
sel (a0 == 10) ((impl_Wrap (w64 (a1 * a2))).bind fun y6 =>
some y6) <|
sel (a0 == 11) (sel (a2 == 0) (some (-1)) <|
(quoO .i64 a1 a2).bind fun d3 =>
(impl_Wrap d3).bind fun y7 =>
some y7) <|
sel (a2 == 0) (some a1) <|
(remO a1 a2).bind fun d4 =>
some d4
noncomputable def impl_Machine_step (a0 : Machine) : Option (Int × (List Int) × Int × (List Int)) :=
(impl_Machine_word (Machine.mk a0.Regs a0.Pc a0.Mem) a0.Pc).bind fun y1 =>
sel (decide (y1 < 0)) (some (3, a0.Regs, a0.Pc, a0.Mem)) <|
(nth a0.Mem y1).bind fun x1 =>
(impl_Unsigned x1).bind fun y2 =>
(impl_InstrDecode y2).bind fun y3 =>
sel (!y3.2) (some (3, a0.Regs, a0.Pc, a0.Mem)) <|
(nth a0.Regs y3.1.Rs).bind fun x2 =>
(nth a0.Regs y3.1.Rt).bind fun x3 =>
(impl_Wrap (w64 (a0.Pc + 4))).bind fun y4 =>
(sel (y3.1.Op == 21) (some (.inr (2, a0.Regs, a0.Pc, a0.Mem))) <|
sel (y3.1.Op == 12) ((impl_Wrap (w64 (x2 + y3.1.Imm))).bind fun y6 =>
(impl_Machine_set (Machine.mk a0.Regs a0.Pc a0.Mem) y3.1.Rd y6).bind fun y7 =>
some (.inl (y4, y7, a0.Mem))) <|
sel (y3.1.Op == 13) ((impl_Unsigned x2).bind fun y8 =>
(impl_Unsigned y3.1.Imm).bind fun y9 =>
(impl_truth (decide (y8 < y9))).bind fun y10 =>
(impl_Machine_set (Machine.mk a0.Regs a0.Pc a0.Mem) y3.1.Rd y10).bind fun y11 =>
some (.inl (y4, y11, a0.Mem))) <|
(sel (y3.1.Op == 14) (some (y3.1.Op == 14)) <|
some (y3.1.Op == 16) : Option (Bool)).bind fun y12 =>
sel y12 ((impl_Wrap (w64 (x2 + y3.1.Imm))).bind fun y13 =>
(impl_Machine_word (Machine.mk a0.Regs a0.Pc a0.Mem) y13).bind fun y14 =>
sel (decide (y14 < 0)) (some (.inr (3, a0.Regs, a0.Pc, a0.Mem))) <|
sel (y3.1.Op == 16) ((nth a0.Mem y14).bind fun x4 =>
(upd a0.Mem y14 x3).bind fun r1 =>
some (.inl (y4, a0.Regs, r1))) <|
(nth a0.Mem y14).bind fun x5 =>
(impl_Machine_set (Machine.mk a0.Regs a0.Pc a0.Mem) y3.1.Rd x5).bind fun y15 =>
some (.inl (y4, y15, a0.Mem))) <|
sel (y3.1.Op == 15) ((impl_Machine_set (Machine.mk a0.Regs a0.Pc a0.Mem) y3.1.Rd y4).bind fun y16 =>
(impl_Wrap (w64 (x2 + y3.1.Imm))).bind fun y17 =>
some (.inl (bitsI .andNot .i64 y17 1, y16, a0.Mem))) <|
(sel (y3.1.Op == 17) (some (y3.1.Op == 17)) <|
some (y3.1.Op == 18) : Option (Bool)).bind fun y18 =>
sel y18 (sel ((x2 == x3) == (y3.1.Op == 17)) ((impl_Wrap (w64 (a0.Pc + y3.1.Imm))).bind fun y19 =>
some (.inl (y19, a0.Regs, a0.Mem))) <|
some (.inl (y4, a0.Regs, a0.Mem))) <|
sel (y3.1.Op == 19) ((impl_Wrap (w64 (y3.1.Imm * 4096))).bind fun y20 =>
(impl_Machine_set (Machine.mk a0.Regs a0.Pc a0.Mem) y3.1.Rd y20).bind fun y21 =>
some (.inl (y4, y21, a0.Mem))) <|
sel (y3.1.Op == 20) ((impl_Machine_set (Machine.mk a0.Regs a0.Pc a0.Mem) y3.1.Rd y4).bind fun y22 =>
(impl_Wrap (w64 (a0.Pc + y3.1.Imm))).bind fun y23 =>
some (.inl (y23, y22, a0.Mem))) <|
(nth machineOps (w64 (y3.1.Op - 1))).bind fun x6 =>
(impl_apply x6 x2 x3).bind fun y24 =>
(impl_Machine_set (Machine.mk a0.Regs a0.Pc a0.Mem) y3.1.Rd y24).bind fun y25 =>
some (.inl (y4, y25, a0.Mem)) : Option ((Int × (List Int) × (List Int)) ⊕ (Int × (List Int) × Int × (List Int)))).bind fun y5 =>
both y5 (fun o3 => some (1, o3.2.1, o3.1, o3.2.2)) (fun o4 =>
some o4)
noncomputable def impl_ImageRun_b1 (a1 : Int) (s1 : (List Int) × Int × (List Int) × Int × (List Int)) : Option (((List Int) × Int × (List Int) × Int × (List Int)) ⊕ ((Machine × (List Int) × Int) ⊕ ((List Int) × (List Int) × Int × (List Int)))) :=
sel (decide (s1.2.1 < a1)) ((impl_Machine_step (Machine.mk s1.2.2.1 s1.2.2.2.1 s1.2.2.2.2)).bind fun y6 =>
((sel (y6.1 == 2) ((nth y6.2.1 17).bind fun x1 => some (x1 == 4)) (some false)).bind fun b1 =>
sel b1 ((nth y6.2.1 10).bind fun x2 =>
(app 8 s1.1 [x2]).bind fun r1 =>
(impl_Wrap (w64 (y6.2.2.1 + 4))).bind fun y8 =>
some (r1, 1, y8)) <|
some (s1.1, y6.1, y6.2.2.1) : Option ((List Int) × Int × Int)).bind fun y7 =>
sel (y7.2.1 != 1) (some (.inr (.inl ((Machine.mk y6.2.1 y7.2.2 y6.2.2.2), y7.1, y7.2.1)))) <|
some (.inl (y7.1, w64 (s1.2.1 + 1), y6.2.1, y7.2.2, y6.2.2.2))) <|
some (.inr (.inr (s1.1, s1.2.2.1, s1.2.2.2.1, s1.2.2.2.2)))
noncomputable def impl_ImageRun (a0 : Machine) (a1 : Int) : Option (Machine × (List Int) × Int) :=
(impl_MachineValid (Machine.mk a0.Regs a0.Pc a0.Mem)).bind fun y1 =>
sel (((!y1) || (decide (a1 < 0))) || (decide (a1 > 1000000))) (some ((Machine.mk [] 0 []), [], 0)) <|
(impl_machineCopy (Machine.mk a0.Regs a0.Pc a0.Mem)).bind fun y2 =>
(iter (impl_ImageRun_b1 a1) ([], 0, y2.Regs, y2.Pc, y2.Mem)).bind fun y3 =>
both y3 (fun o3 => some o3) (fun o4 =>
some ((Machine.mk o4.2.1 o4.2.2.1 o4.2.2.2), o4.1, 1))
noncomputable def laws_FnExactImageRun (a0 : Machine) (a1 : Int) : Option (Bool) :=
(laws_szMachine (Machine.mk a0.Regs a0.Pc a0.Mem) 1048576).bind fun y1 =>
sel (decide (y1 < 0)) (some true) <|
(laws_toMachine (Machine.mk a0.Regs a0.Pc a0.Mem)).bind fun y2 =>
(spec_ImageRun (Machine.mk y2.Regs y2.Pc y2.Mem) a1).bind fun y3 =>
(laws_toMachine (Machine.mk a0.Regs a0.Pc a0.Mem)).bind fun y4 =>
(impl_ImageRun (Machine.mk y4.Regs y4.Pc y4.Mem) a1).bind fun y5 =>
(laws_eqMachine (Machine.mk y5.1.Regs y5.1.Pc y5.1.Mem) (Machine.mk y3.1.Regs y3.1.Pc y3.1.Mem)).bind fun y6 =>
(sel (!y6) (some true) ((laws_eqIntS y5.2.1 y3.2.1).bind fun y7 => some (!y7))).bind fun b1 =>
sel (b1 || (y5.2.2 != y3.2.2)) (some false) <|
(laws_toMachine (Machine.mk a0.Regs a0.Pc a0.Mem)).bind fun y8 =>
(laws_eqMachine (Machine.mk y4.Regs y4.Pc y4.Mem) (Machine.mk y8.Regs y8.Pc y8.Mem)).bind fun y9 =>
sel (!y9) (some false) <|
(laws_markMachine (Machine.mk y4.Regs y4.Pc y4.Mem) 1).bind fun y10 =>
(sel (decide (y10.1 < 0)) (some true) ((laws_eqMachine (Machine.mk y5.1.Regs y5.1.Pc y5.1.Mem) (Machine.mk y3.1.Regs y3.1.Pc y3.1.Mem)).bind fun y11 => some (!y11))).bind fun b2 =>
(sel b2 (some true) ((laws_eqIntS y5.2.1 y3.2.1).bind fun y12 => some (!y12))).bind fun b3 =>
sel (b3 || (y5.2.2 != y3.2.2)) (some false) <|
(laws_markMachine (Machine.mk y5.1.Regs y5.1.Pc y5.1.Mem) 1).bind fun y13 =>
(laws_markIntS y5.2.1 y13.1).bind fun y14 =>
(laws_heldMachine (Machine.mk y13.2.1 y5.1.Pc y13.2.2) 1).bind fun y15 =>
sel (decide (y15 < 0)) (some false) <|
(laws_heldIntS y14.2 y15).bind fun y16 =>
sel (decide (y16 < 0)) (some false) <|
sel (y16 != y14.1) (some false) <|
(laws_toMachine (Machine.mk a0.Regs a0.Pc a0.Mem)).bind fun y17 =>
(impl_ImageRun (Machine.mk y17.Regs y17.Pc y17.Mem) a1).bind fun y18 =>
(laws_eqMachine (Machine.mk y18.1.Regs y18.1.Pc y18.1.Mem) (Machine.mk y3.1.Regs y3.1.Pc y3.1.Mem)).bind fun y19 =>
(sel (!y19) (some true) ((laws_eqIntS y18.2.1 y3.2.1).bind fun y20 => some (!y20))).bind fun b4 =>
sel (b4 || (y18.2.2 != y3.2.2)) (some false) <|
(laws_heldMachine (Machine.mk y13.2.1 y5.1.Pc y13.2.2) 1).bind fun y21 =>
sel (decide (y21 < 0)) (some false) <|
(laws_heldIntS y14.2 y21).bind fun y22 =>
sel (decide (y22 < 0)) (some false) <|
sel (y22 != y14.1) (some false) <|
some true
end Go.Proofs.YtdohklfimhkicaaDoor.N
