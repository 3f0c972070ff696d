/- Printed by a program of mine: what the program's functions compute, as plain Lean functions. -/
import Derived.Test.YtdohklfimhkicaaDoorZ3
import Derived.Test.YtdohklfimhkicaaDoorProg
set_option linter.unusedVariables false
set_option maxRecDepth 100000
set_option maxHeartbeats 4000000
namespace Go.Proofs.YtdohklfimhkicaaDoor.N
open Go.Proofs.YtdohklfimhkicaaDoor.X
structure InstrRow where
  name : ByteArray
  opcode : Int
  funct3 : Int
  funct7 : Int
def dInstrRow (x : InstrRow) : D := .agg [.str x.name, .int .i64 x.opcode, .int .i64 x.funct3, .int .i64 x.funct7]
def vInstrRow (x : InstrRow) : Value := .agg #[.string x.name, .int .i64 x.opcode, .int .i64 x.funct3, .int .i64 x.funct7]

structure Instr where
  Op : Int
  Rd : Int
  Rs : Int
  Rt : Int
  Imm : Int
def dInstr (x : Instr) : D := .agg [.int .i64 x.Op, .int .i64 x.Rd, .int .i64 x.Rs, .int .i64 x.Rt, .int .i64 x.Imm]
def vInstr (x : Instr) : Value := .agg #[.int .i64 x.Op, .int .i64 x.Rd, .int .i64 x.Rs, .int .i64 x.Rt, .int .i64 x.Imm]

structure Machine where
  Regs : List Int
  Pc : Int
  Mem : List Int
def dMachine (x : Machine) : D := .agg [.row 3 1 (x.Regs.map (D.int .i64)), .int .i64 x.Pc, .row 3 1 (x.Mem.map (D.int .i64))]

def savedRegs : List Int := [1, 2, 8, 9, 18, 19, 20, 21, 22, 23, 10, 11, 17]
def instrTable : List InstrRow := [⟨⟨#[97, 100, 100]⟩, 51, 0, 0⟩, ⟨⟨#[115, 117, 98]⟩, 51, 0, 32⟩, ⟨⟨#[109, 117, 108]⟩, 51, 0, 1⟩, ⟨⟨#[100, 105, 118]⟩, 51, 4, 1⟩, ⟨⟨#[114, 101, 109]⟩, 51, 6, 1⟩, ⟨⟨#[97, 110, 100]⟩, 51, 7, 0⟩, ⟨⟨#[111, 114]⟩, 51, 6, 0⟩, ⟨⟨#[120, 111, 114]⟩, 51, 4, 0⟩, ⟨⟨#[115, 108, 108]⟩, 51, 1, 0⟩, ⟨⟨#[115, 114, 97]⟩, 51, 5, 32⟩, ⟨⟨#[115, 108, 116]⟩, 51, 2, 0⟩, ⟨⟨#[97, 100, 100, 105]⟩, 19, 0, 0⟩, ⟨⟨#[115, 108, 116, 105, 117]⟩, 19, 3, 0⟩, ⟨⟨#[108, 119]⟩, 3, 2, 0⟩, ⟨⟨#[106, 97, 108, 114]⟩, 103, 0, 0⟩, ⟨⟨#[115, 119]⟩, 35, 2, 0⟩, ⟨⟨#[98, 101, 113]⟩, 99, 0, 0⟩, ⟨⟨#[98, 110, 101]⟩, 99, 1, 0⟩, ⟨⟨#[108, 117, 105]⟩, 55, 0, 0⟩, ⟨⟨#[106, 97, 108]⟩, 111, 0, 0⟩, ⟨⟨#[101, 99, 97, 108, 108]⟩, 115, 0, 0⟩]
def NGl : Nat := 3
def Gl (w : World) : Prop := Glob 0 (savedRegs.map (Value.int .i64)) w ∧ Tab 2 4 (fun x : InstrRow => [.string x.name, .int .i64 x.opcode, .int .i64 x.funct3, .int .i64 x.funct7]) instrTable w
theorem Gl.at {w W : World} {M : Nat → Prop} {L : List Ent} (h : Gl w) (hS : Sep M w W L) (hM : ∀ g, g < NGl → ¬ M g) : Gl W := ⟨Glob.at h.1 hS (hM 0 (by decide)), Tab.at h.2 hS (hM 2 (by decide))⟩
theorem Gl.noS {w W : World} {M S : Nat → Prop} (h : Gl w) (hM : ∀ g, g < NGl → ¬ M g) (h1 : ∀ b, S b → OkS M w W b) : ∀ g, g < NGl → ¬ S g := fun g hg hs => by
  have h3 : 2 < w.heap.size := h.2.1
  have hg' : g < 3 := hg
  rcases (h1 g hs).1 with h4 | h4
  · omega
  · exact hM g hg h4

theorem T.u46 : Tryd.prog.underlying 46 = some (.slice 71) := by kernel_rfl
theorem T.u23 : Tryd.prog.underlying 23 = some (.slice 46) := by kernel_rfl
theorem T.t46 : tinfo Tryd.prog 46 = some (false, some (.slice none 0 0), 1, 24) := by kernel_rfl
theorem T.u22 : Tryd.prog.underlying 22 = some (.slice 3) := by kernel_rfl
theorem T.t3 : tinfo Tryd.prog 3 = some (false, some (.int .i64 0), 1, 8) := by kernel_rfl
theorem T.f68_1 : fOff Tryd.prog 68 1 = some (1, 1, false) := by kernel_rfl
theorem T.f68_2 : fOff Tryd.prog 68 2 = some (2, 1, false) := by kernel_rfl
theorem T.f68_3 : fOff Tryd.prog 68 3 = some (3, 1, false) := by kernel_rfl
theorem T.f68_0 : fOff Tryd.prog 68 0 = some (0, 1, false) := by kernel_rfl
theorem T.t68 : tinfo Tryd.prog 68 = some (true, some (.agg #[.int .i64 0, .int .i64 0, .int .i64 0, .int .i64 0, .int .i64 0]), 5, 40) := by kernel_rfl
theorem T.f68_4 : fOff Tryd.prog 68 4 = some (4, 1, false) := by kernel_rfl
theorem T.mix : Tryd.prog.follows .mixedOrders = true := by kernel_rfl
theorem T.u51 : Tryd.prog.underlying 51 = some (.slice 68) := by kernel_rfl
theorem T.s68 : sinfo Tryd.prog 68 = some ([(0, 1), (1, 1), (2, 1), (3, 1), (4, 1)], [.int .i64 0, .int .i64 0, .int .i64 0, .int .i64 0, .int .i64 0]) := by kernel_rfl
theorem T.u3 : Tryd.prog.underlying 3 = some (.int .i64) := by kernel_rfl
theorem T.t26 : tinfo Tryd.prog 26 = some (true, some (.agg #[.slice none 0 0, .int .i64 0, .slice none 0 0]), 3, 56) := by kernel_rfl
theorem T.s26 : sinfo Tryd.prog 26 = some ([(0, 1), (1, 1), (2, 1)], [.slice none 0 0, .int .i64 0, .slice none 0 0]) := by kernel_rfl
theorem T.f26_0 : fOff Tryd.prog 26 0 = some (0, 1, false) := by kernel_rfl
theorem T.t22 : tinfo Tryd.prog 22 = some (false, some (.slice none 0 0), 1, 24) := by kernel_rfl
theorem T.u30 : Tryd.prog.underlying 30 = some (.slice 51) := by kernel_rfl
theorem T.t51 : tinfo Tryd.prog 51 = some (false, some (.slice none 0 0), 1, 24) := by kernel_rfl
theorem T.f71_0 : fOff Tryd.prog 71 0 = some (0, 1, false) := by kernel_rfl
theorem T.f71_1 : fOff Tryd.prog 71 1 = some (1, 1, false) := by kernel_rfl
theorem T.f71_2 : fOff Tryd.prog 71 2 = some (2, 1, false) := by kernel_rfl
theorem T.f71_3 : fOff Tryd.prog 71 3 = some (3, 1, false) := by kernel_rfl
theorem T.f71_4 : fOff Tryd.prog 71 4 = some (4, 1, false) := by kernel_rfl
theorem T.t71 : tinfo Tryd.prog 71 = some (true, some (.agg #[.int .i64 0, .int .i64 0, .int .i64 0, .int .i64 0, .int .i64 0]), 5, 40) := by kernel_rfl
theorem T.u21 : Tryd.prog.underlying 21 = some (.int .i32) := by kernel_rfl
theorem T.u100 : Tryd.prog.underlying 100 = some (.int .u32) := by kernel_rfl
theorem T.e68 : einfo Tryd.prog 68 = some [(0, .int .i64), (1, .int .i64), (2, .int .i64), (3, .int .i64), (4, .int .i64)] := by kernel_rfl
theorem T.u94 : Tryd.prog.underlying 94 = some (.array 21 93) := by kernel_rfl
theorem T.t93 : tinfo Tryd.prog 93 = some (true, some (.agg #[.string ⟨#[]⟩, .int .i64 0, .int .i64 0, .int .i64 0]), 4, 40) := by kernel_rfl
theorem T.f93_2 : fOff Tryd.prog 93 2 = some (2, 1, false) := by kernel_rfl
theorem T.f93_1 : fOff Tryd.prog 93 1 = some (1, 1, false) := by kernel_rfl
theorem T.f93_3 : fOff Tryd.prog 93 3 = some (3, 1, false) := by kernel_rfl
theorem T.t76 : tinfo Tryd.prog 76 = some (true, some (.agg #[.int .i64 0, .int .i64 0, .int .i64 0, .int .i64 0, .int .i64 0, .int .i64 0, .int .i64 0, .int .i64 0, .int .i64 0, .int .i64 0, .int .i64 0, .int .i64 0, .int .i64 0]), 13, 104) := by kernel_rfl
theorem T.u76 : Tryd.prog.underlying 76 = some (.array 13 3) := by kernel_rfl
theorem T.f26_1 : fOff Tryd.prog 26 1 = some (1, 1, false) := by kernel_rfl
theorem T.f26_2 : fOff Tryd.prog 26 2 = some (2, 1, false) := by kernel_rfl
theorem T.u4 : Tryd.prog.underlying 4 = some (.bool) := by kernel_rfl
def laws_szInstrS (a0 : List Instr) (a1 : Int) : Option (Int) :=
sel (decide ((w64 (a1 - (a0.length : Int))) < 0)) (some (-1)) <|
some (w64 (a1 - (a0.length : Int)))
def laws_szInstrSS_b1 (a0 : List (List Instr)) (s1 : Int × Int) : Option ((Int × Int) ⊕ (Int ⊕ Int)) :=
sel (decide (s1.2 < (a0.length : Int))) ((nth a0 s1.2).bind fun x1 =>
(laws_szInstrS x1 s1.1).bind fun y4 =>
sel (decide (y4 < 0)) (some (.inr (.inl (-1)))) <|
some (.inl (y4, w64 (s1.2 + 1)))) <|
some (.inr (.inr s1.1))
noncomputable def laws_szInstrSS (a0 : List (List Instr)) (a1 : Int) : Option (Int) :=
sel (decide ((w64 (a1 - (a0.length : Int))) < 0)) (some (-1)) <|
(iter (laws_szInstrSS_b1 a0) (w64 (a1 - (a0.length : Int)), 0)).bind fun y1 =>
both y1 (fun o3 => some o3) (fun o4 =>
some o4)
def spec_l6In (a0 : Int) (a1 : Int) (a2 : Int) : Option (Bool) :=
some ((decide (a0 ≥ a1)) && (decide (a0 ≤ a2)))
def spec_l12Rooms_b1 (a0 : List Int) (s1 : Int) : Option (Int ⊕ (Bool ⊕ Unit)) :=
sel (decide (s1 < (a0.length : Int))) ((nth a0 s1).bind fun x1 =>
(spec_l6In x1 1 4).bind fun y4 =>
sel (!y4) (some (.inr (.inl false))) <|
some (.inl (w64 (s1 + 1)))) <|
some (.inr (.inr ()))
noncomputable def spec_l12Rooms (a0 : List Int) : Option (Bool) :=
(iter (spec_l12Rooms_b1 a0) 0).bind fun y1 =>
both y1 (fun o3 => some o3) (fun o4 =>
some (decide ((a0.length : Int) ≤ 3)))
def spec_l42Regs (a0 : Instr) (a1 : Int) (a2 : Int) (a3 : Int) : Option (Bool) :=
(spec_l6In a0.Rd 0 (w64 (a1 * 31))).bind fun y1 =>
(sel y1 ((spec_l6In a0.Rs 0 (w64 (a2 * 31))).bind fun y2 => some y2) (some false)).bind fun b1 =>
(sel b1 ((spec_l6In a0.Rt 0 (w64 (a3 * 31))).bind fun y3 => some y3) (some false)).bind fun b2 =>
some b2
def spec_l42Even (a0 : Int) (a1 : Int) (a2 : Int) : Option (Bool) :=
(spec_l6In a0 a1 a2).bind fun y1 =>
some (y1 && ((Int.tmod a0 2) == 0))
def spec_InstrValid (a0 : Instr) : Option (Bool) :=
(spec_l6In a0.Op 1 11).bind fun y1 =>
sel y1 ((spec_l42Regs a0 1 1 1).bind fun y2 =>
some (y2 && (a0.Imm == 0))) <|
(spec_l6In a0.Op 12 15).bind fun y3 =>
sel y3 ((spec_l42Regs a0 1 1 0).bind fun y4 =>
(sel y4 ((spec_l6In a0.Imm (-2048) 2047).bind fun y5 => some y5) (some false)).bind fun b1 =>
some b1) <|
sel (a0.Op == 16) ((spec_l42Regs a0 0 1 1).bind fun y6 =>
(sel y6 ((spec_l6In a0.Imm (-2048) 2047).bind fun y7 => some y7) (some false)).bind fun b2 =>
some b2) <|
sel ((a0.Op == 17) || (a0.Op == 18)) ((spec_l42Regs a0 0 1 1).bind fun y8 =>
(sel y8 ((spec_l42Even a0.Imm (-4096) 4094).bind fun y9 => some y9) (some false)).bind fun b3 =>
some b3) <|
sel (a0.Op == 19) ((spec_l42Regs a0 1 0 0).bind fun y10 =>
(sel y10 ((spec_l6In a0.Imm 0 1048575).bind fun y11 => some y11) (some false)).bind fun b4 =>
some b4) <|
sel (a0.Op == 20) ((spec_l42Regs a0 1 0 0).bind fun y12 =>
(sel y12 ((spec_l42Even a0.Imm (-1048576) 1048574).bind fun y13 => some y13) (some false)).bind fun b5 =>
some b5) <|
(sel (a0.Op == 21) ((spec_l42Regs a0 0 0 0).bind fun y14 => some y14) (some false)).bind fun b6 =>
some (b6 && (a0.Imm == 0))
def spec_l42Mod (a0 : Int) (a1 : Int) : Option (Int) :=
sel (decide (a0 < 0)) (some (w64 (a0 + a1))) <|
some a0
def spec_l1Power_b1 (a0 : Int) (s1 : Int × Int) : Option ((Int × Int) ⊕ Int) :=
sel (decide (s1.2 < a0)) (some (.inl (w64 (s1.1 * 2), w64 (s1.2 + 1)))) <|
some (.inr s1.1)
noncomputable def spec_l1Power (a0 : Int) : Option (Int) :=
(iter (spec_l1Power_b1 a0) (1, 0)).bind fun y1 =>
some y1
noncomputable def spec_l42Put (a0 : Int) (a1 : Int) : Option (Int) :=
(spec_l1Power a1).bind fun y1 =>
some (w64 (a0 * y1))
def spec_l42Three (a0 : Int) : Option (Int) :=
(nth [0, 0, 0, 4, 6, 7, 6, 4, 1, 5, 2, 0, 3, 2, 0, 2, 0, 1, 0, 0, 0] (w64 (a0 - 1))).bind fun x1 =>
some x1
noncomputable def spec_l42Mid (a0 : Instr) (a1 : Int) : Option (Int) :=
(spec_l42Put a0.Rs 15).bind fun y1 =>
(spec_l42Three a0.Op).bind fun y2 =>
(spec_l42Put y2 12).bind fun y3 =>
some (w64 ((w64 (y1 + y3)) + a1))
noncomputable def spec_l42Imm (a0 : Instr) (a1 : Int) : Option (Int) :=
(spec_l42Mod a0.Imm 4096).bind fun y1 =>
(spec_l42Put y1 20).bind fun y2 =>
(spec_l42Mid a0 a1).bind fun y3 =>
(spec_l42Put a0.Rd 7).bind fun y4 =>
some (w64 ((w64 (y2 + y3)) + y4))
noncomputable def spec_Bits (a0 : Int) (a1 : Int) (a2 : Int) : Option (Int) :=
(spec_l6In a0 0 4294967295).bind fun y1 =>
(sel (!y1) (some true) ((spec_l6In a1 0 31).bind fun y2 => some (!y2))).bind fun b1 =>
(sel b1 (some true) ((spec_l6In a2 1 (w64 (32 - a1))).bind fun y3 => some (!y3))).bind fun b2 =>
sel b2 (some 0) <|
(spec_l1Power a1).bind fun y4 =>
(quoO .i64 a0 y4).bind fun d1 =>
(spec_l1Power a2).bind fun y5 =>
(remO d1 y5).bind fun d2 =>
some d2
noncomputable def spec_l42Branch (a0 : Instr) : Option (Int) :=
(spec_l42Mod a0.Imm 8192).bind fun y1 =>
(spec_Bits y1 12 1).bind fun y2 =>
(spec_l42Put y2 31).bind fun y3 =>
(spec_Bits y1 5 6).bind fun y4 =>
(spec_l42Put y4 25).bind fun y5 =>
(spec_l42Put a0.Rt 20).bind fun y6 =>
(spec_l42Mid a0 99).bind fun y7 =>
(spec_Bits y1 1 4).bind fun y8 =>
(spec_l42Put y8 8).bind fun y9 =>
(spec_Bits y1 11 1).bind fun y10 =>
(spec_l42Put y10 7).bind fun y11 =>
some (w64 ((w64 ((w64 ((w64 ((w64 (y3 + y5)) + y6)) + y7)) + y9)) + y11))
noncomputable def spec_l42Jump (a0 : Instr) : Option (Int) :=
(spec_l42Mod a0.Imm 2097152).bind fun y1 =>
(spec_Bits y1 20 1).bind fun y2 =>
(spec_l42Put y2 31).bind fun y3 =>
(spec_Bits y1 1 10).bind fun y4 =>
(spec_l42Put y4 21).bind fun y5 =>
(spec_Bits y1 11 1).bind fun y6 =>
(spec_l42Put y6 20).bind fun y7 =>
(spec_Bits y1 12 8).bind fun y8 =>
(spec_l42Put y8 12).bind fun y9 =>
(spec_l42Put a0.Rd 7).bind fun y10 =>
some (w64 ((w64 ((w64 ((w64 ((w64 (y3 + y5)) + y7)) + y9)) + y10)) + 111))
def spec_l42Seven (a0 : Int) : Option (Int) :=
(nth [0, 32, 1, 1, 1, 0, 0, 0, 0, 32, 0] (w64 (a0 - 1))).bind fun x1 =>
some x1
noncomputable def spec_l42Encode (a0 : Instr) : Option (Int) :=
(sel (a0.Op == 12) (some (a0.Op == 12)) <|
some (a0.Op == 13) : Option (Bool)).bind fun y1 =>
sel y1 ((spec_l42Imm a0 19).bind fun y2 =>
some y2) <|
sel (a0.Op == 14) ((spec_l42Imm a0 3).bind fun y3 =>
some y3) <|
sel (a0.Op == 15) ((spec_l42Imm a0 103).bind fun y4 =>
some y4) <|
sel (a0.Op == 16) ((spec_l42Mod a0.Imm 4096).bind fun y5 =>
(spec_Bits y5 5 7).bind fun y6 =>
(spec_l42Put y6 25).bind fun y7 =>
(spec_l42Put a0.Rt 20).bind fun y8 =>
(spec_l42Mid a0 35).bind fun y9 =>
(spec_Bits y5 0 5).bind fun y10 =>
(spec_l42Put y10 7).bind fun y11 =>
some (w64 ((w64 ((w64 (y7 + y8)) + y9)) + y11))) <|
(sel (a0.Op == 17) (some (a0.Op == 17)) <|
some (a0.Op == 18) : Option (Bool)).bind fun y12 =>
sel y12 ((spec_l42Branch a0).bind fun y13 =>
some y13) <|
sel (a0.Op == 19) ((spec_l42Put a0.Imm 12).bind fun y14 =>
(spec_l42Put a0.Rd 7).bind fun y15 =>
some (w64 ((w64 (y14 + y15)) + 55))) <|
sel (a0.Op == 20) ((spec_l42Jump a0).bind fun y16 =>
some y16) <|
sel (a0.Op == 21) (some 115) <|
(spec_l42Seven a0.Op).bind fun y17 =>
(spec_l42Put y17 25).bind fun y18 =>
(spec_l42Put a0.Rt 20).bind fun y19 =>
(spec_l42Mid a0 51).bind fun y20 =>
(spec_l42Put a0.Rd 7).bind fun y21 =>
some (w64 ((w64 ((w64 (y18 + y19)) + y20)) + y21))
noncomputable def spec_InstrEncode (a0 : Instr) : Option (Int × Bool) :=
(spec_InstrValid a0).bind fun y1 =>
sel (!y1) (some (0, false)) <|
(spec_l42Encode a0).bind fun y2 =>
some (y2, true)
def spec_Wrap (a0 : Int) : Option (Int) :=
sel (decide ((Int.tmod a0 4294967296) > 2147483647)) (some (w64 ((Int.tmod a0 4294967296) - 4294967296))) <|
sel (decide ((Int.tmod a0 4294967296) < (-2147483648))) (some (w64 ((Int.tmod a0 4294967296) + 4294967296))) <|
some (Int.tmod a0 4294967296)
noncomputable def spec_l45Code_b1 (a1 : List Instr) (s1 : (List Int) × Int) : Option (((List Int) × Int) ⊕ (((List Int) × Bool) ⊕ ((List Int)))) :=
sel (decide (s1.2 < (a1.length : Int))) ((nth a1 s1.2).bind fun x1 =>
(spec_InstrEncode x1).bind fun y4 =>
sel (!y4.2) (some (.inr (.inl (s1.1, false)))) <|
(spec_Wrap y4.1).bind fun y5 =>
(app 8 s1.1 [y5]).bind fun r1 =>
some (.inl (r1, w64 (s1.2 + 1)))) <|
some (.inr (.inr s1.1))
noncomputable def spec_l45Code (a0 : List Int) (a1 : List Instr) : Option ((List Int) × Bool) :=
(iter (spec_l45Code_b1 a1) (a0, 0)).bind fun y1 =>
both y1 (fun o3 => some o3) (fun o4 =>
some (o4, true))
def spec_l46Addi (a0 : Int) (a1 : Int) (a2 : Int) : Option (Instr) :=
some (Instr.mk 12 a0 a1 0 a2)
def spec_l46If (a0 : Int) (a1 : Int) (a2 : Int) (a3 : Int) (a4 : Int) : Option (Instr) :=
some (Instr.mk a0 0 a1 a2 (w64 (4 * (w64 (a4 - a3)))))
def spec_l46To (a0 : Int) (a1 : Int) : Option (Instr) :=
some (Instr.mk 20 0 0 0 (w64 (4 * (w64 (a1 - a0)))))
def spec_l46Entry : Option ((List Instr)) :=
(spec_l46Addi 5 0 1).bind fun y1 =>
(spec_l46If 17 17 5 1 9).bind fun y2 =>
(spec_l46Addi 5 0 2).bind fun y3 =>
(spec_l46If 17 17 5 3 26).bind fun y4 =>
(spec_l46Addi 5 0 3).bind fun y5 =>
(spec_l46If 17 17 5 5 47).bind fun y6 =>
(spec_l46Addi 5 0 4).bind fun y7 =>
(spec_l46If 17 17 5 7 44).bind fun y8 =>
(spec_l46To 8 50).bind fun y9 =>
some [y1, y2, y3, y4, y5, y6, y7, y8, y9]
def spec_l46R (a0 : Int) (a1 : Int) (a2 : Int) (a3 : Int) : Option (Instr) :=
some (Instr.mk a0 a1 a2 a3 0)
def spec_l46Lw (a0 : Int) (a1 : Int) (a2 : Int) : Option (Instr) :=
some (Instr.mk 14 a0 a2 0 a1)
def spec_l46Sw (a0 : Int) (a1 : Int) (a2 : Int) : Option (Instr) :=
some (Instr.mk 16 0 a2 a0 a1)
def spec_l46Back (a0 : Int) : Option (Instr) :=
some (Instr.mk 15 0 a0 0 0)
def spec_l46Send : Option ((List Instr)) :=
(spec_l46Addi 5 0 5).bind fun y1 =>
(spec_l46R 9 6 11 5).bind fun y2 =>
(spec_l46R 1 6 6 3).bind fun y3 =>
(spec_l46Lw 7 24 6).bind fun y4 =>
(spec_l46Lw 28 16 6).bind fun y5 =>
(spec_l46If 17 7 28 14 50).bind fun y6 =>
(spec_l46Lw 29 20 6).bind fun y7 =>
(spec_l46R 1 29 29 7).bind fun y8 =>
(spec_l46R 5 29 29 28).bind fun y9 =>
(spec_l46Addi 5 0 2).bind fun y10 =>
(spec_l46R 9 29 29 5).bind fun y11 =>
(spec_l46R 1 29 29 6).bind fun y12 =>
(spec_l46Sw 10 32 29).bind fun y13 =>
(spec_l46Addi 7 7 1).bind fun y14 =>
(spec_l46Sw 7 24 6).bind fun y15 =>
(spec_l46Sw 0 0 3).bind fun y16 =>
(spec_l46Back 1).bind fun y17 =>
some [y1, y2, y3, y4, y5, y6, y7, y8, y9, y10, y11, y12, y13, y14, y15, y16, y17]
def spec_l46Recv : Option ((List Instr)) :=
(spec_l46Addi 5 0 5).bind fun y1 =>
(spec_l46R 9 6 11 5).bind fun y2 =>
(spec_l46R 1 6 6 3).bind fun y3 =>
(spec_l46Lw 7 24 6).bind fun y4 =>
(spec_l46If 17 7 0 30 50).bind fun y5 =>
(spec_l46Lw 28 16 6).bind fun y6 =>
(spec_l46Lw 29 20 6).bind fun y7 =>
(spec_l46Addi 5 0 2).bind fun y8 =>
(spec_l46R 9 30 29 5).bind fun y9 =>
(spec_l46R 1 30 30 6).bind fun y10 =>
(spec_l46Lw 10 32 30).bind fun y11 =>
(spec_l46Addi 29 29 1).bind fun y12 =>
(spec_l46R 5 29 29 28).bind fun y13 =>
(spec_l46Sw 29 20 6).bind fun y14 =>
(spec_l46Addi 7 7 (-1)).bind fun y15 =>
(spec_l46Sw 7 24 6).bind fun y16 =>
(spec_l46Sw 0 0 3).bind fun y17 =>
(spec_l46Back 1).bind fun y18 =>
some [y1, y2, y3, y4, y5, y6, y7, y8, y9, y10, y11, y12, y13, y14, y15, y16, y17, y18]
def spec_l46Other : Option ((List Instr)) :=
(spec_l46Sw 0 0 3).bind fun y1 =>
(spec_l46Back 1).bind fun y2 =>
(spec_l46Addi 5 1 0).bind fun y3 =>
(spec_l46Sw 0 0 3).bind fun y4 =>
(spec_l46To 49 54).bind fun y5 =>
(spec_l46Addi 5 0 0).bind fun y6 =>
(spec_l46Lw 6 0 3).bind fun y7 =>
(spec_l46Addi 6 6 1).bind fun y8 =>
(spec_l46Sw 6 0 3).bind fun y9 =>
some [(Instr.mk 21 0 0 0 0), y1, y2, y3, y4, y5, y6, y7, y8, y9]
def spec_l46Saved : Option ((List Int)) :=
some [1, 2, 8, 9, 18, 19, 20, 21, 22, 23, 10, 11, 17]
def spec_l46Save_b1 (y2 : (List Int)) (s1 : (List Instr) × Int) : Option (((List Instr) × Int) ⊕ ((List Instr))) :=
sel (decide (s1.2 < (y2.length : Int))) ((nth y2 s1.2).bind fun x1 =>
(spec_l46Sw x1 (w64 (4 + (w64 (4 * s1.2)))) 4).bind fun y6 =>
(app 40 s1.1 [y6]).bind fun r1 =>
some (.inl (r1, w64 (s1.2 + 1)))) <|
some (.inr s1.1)
noncomputable def spec_l46Save : Option ((List Instr)) :=
(spec_l46Sw 5 0 4).bind fun y1 =>
(spec_l46Saved).bind fun y2 =>
(iter (spec_l46Save_b1 y2) ([y1], 0)).bind fun y3 =>
some y3
def spec_l46Load_b1 (y8 : (List Int)) (s1 : (List Instr) × Int) : Option (((List Instr) × Int) ⊕ ((List Instr))) :=
sel (decide (s1.2 < (y8.length : Int))) ((nth y8 s1.2).bind fun x1 =>
(spec_l46Lw x1 (w64 (4 + (w64 (4 * s1.2)))) 4).bind fun y12 =>
(app 40 s1.1 [y12]).bind fun r1 =>
some (.inl (r1, w64 (s1.2 + 1)))) <|
some (.inr s1.1)
noncomputable def spec_l46Load : Option ((List Instr)) :=
(spec_l46Lw 6 0 3).bind fun y1 =>
(spec_l46Lw 7 4 3).bind fun y2 =>
(spec_l46If 17 6 7 70 90).bind fun y3 =>
(spec_l46Addi 4 4 64).bind fun y4 =>
(spec_l46Lw 5 12 3).bind fun y5 =>
(spec_l46If 18 4 5 73 75).bind fun y6 =>
(spec_l46Lw 4 8 3).bind fun y7 =>
(spec_l46Saved).bind fun y8 =>
(iter (spec_l46Load_b1 y8) ([y1, y2, y3, y4, y5, y6, y7], 0)).bind fun y9 =>
(spec_l46Lw 5 0 4).bind fun y13 =>
(spec_l46Back 5).bind fun y14 =>
(app 40 y9 [y13, y14]).bind fun r2 =>
some r2
noncomputable def spec_l46Code : Option ((List Instr)) :=
(spec_l46Entry).bind fun y1 =>
(spec_l46Send).bind fun y2 =>
(app 40 y1 y2).bind fun r1 =>
(spec_l46Recv).bind fun y3 =>
(app 40 r1 y3).bind fun r2 =>
(spec_l46Other).bind fun y4 =>
(app 40 r2 y4).bind fun r3 =>
(spec_l46Save).bind fun y5 =>
(app 40 r3 y5).bind fun r4 =>
(spec_l46Load).bind fun y6 =>
(app 40 r4 y6).bind fun r5 =>
(spec_l46Addi 17 0 0).bind fun y7 =>
(app 40 r5 [y7, (Instr.mk 21 0 0 0 0)]).bind fun r6 =>
some r6
def spec_l47Data_b1 (a1 : List Int) (s1 : (List Int) × Int) : Option (((List Int) × Int) ⊕ ((List Int))) :=
sel (decide (s1.2 < 3)) ((sel (decide (s1.2 < (a1.length : Int))) ((nth a1 s1.2).bind fun x1 =>
some x1) <|
some 0 : Option (Int)).bind fun y4 =>
(app 8 s1.1 [y4, 0, 0, 0, 0, 0, 0, 0]).bind fun r1 =>
some (.inl (r1, w64 (s1.2 + 1)))) <|
some (.inr s1.1)
def spec_l47Data_b2 (a0 : Int) (a2 : List Int) (s2 : (List Int) × Int) : Option (((List Int) × Int) ⊕ ((List Int))) :=
sel (decide (s2.2 < (a2.length : Int))) ((mk 8 16 0).bind fun r2 =>
(nth a2 s2.2).bind fun x2 =>
(nth r2 0).bind fun x3 =>
(upd r2 0 (w64 (4 * x2))).bind fun r3 =>
(nth r3 2).bind fun x4 =>
(upd r3 2 (w64 (4 * (w64 ((w64 ((w64 ((w64 (a0 + 4)) + 24)) + (w64 (16 * (a2.length : Int))))) + (w64 (12 * s2.2))))))).bind fun r4 =>
(app 8 s2.1 r4).bind fun r5 =>
some (.inl (r5, w64 (s2.2 + 1)))) <|
some (.inr s2.1)
noncomputable def spec_l47Data (a0 : Int) (a1 : List Int) (a2 : List Int) : Option ((List Int)) :=
(iter (spec_l47Data_b1 a1) ([0, (a2.length : Int), w64 (4 * (w64 ((w64 (a0 + 4)) + 24))), w64 (4 * (w64 ((w64 ((w64 (a0 + 4)) + 24)) + (w64 (16 * (a2.length : Int))))))], 0)).bind fun y1 =>
(iter (spec_l47Data_b2 a0 a2) (y1, 0)).bind fun y5 =>
(appz 8 y5 (w64 (12 * (a2.length : Int))) 0).bind fun r6 =>
some r6
def spec_l47Boot (a0 : List Int) (a1 : Int) (a2 : Int) : Option (Machine) :=
(mk 8 32 0).bind fun r1 =>
(nth a0 (w64 ((w64 ((w64 (a1 + 4)) + 24)) + 2))).bind fun x1 =>
(nth r1 2).bind fun x2 =>
(upd r1 2 x1).bind fun r2 =>
(nth r2 3).bind fun x3 =>
(upd r2 3 (w64 (4 * a1))).bind fun r3 =>
(nth r3 4).bind fun x4 =>
(upd r3 4 (w64 (4 * (w64 ((w64 (a1 + 4)) + 24))))).bind fun r4 =>
some (Machine.mk r4 (w64 (4 * a2)) a0)
noncomputable def spec_ImageNew_b1 (a1 : List (List Instr)) (s1 : (List Int) × (List Int) × Int) : Option (((List Int) × (List Int) × Int) ⊕ ((Machine × Int × Bool) ⊕ ((List Int) × (List Int)))) :=
sel (decide (s1.2.2 < (a1.length : Int))) ((app 8 s1.2.1 [(s1.1.length : Int)]).bind fun r1 =>
(nth a1 s1.2.2).bind fun x1 =>
sel (decide ((x1.length : Int) > 10000)) (some (.inr (.inl ((Machine.mk [] 0 []), 0, false)))) <|
(nth a1 s1.2.2).bind fun x2 =>
(spec_l45Code s1.1 x2).bind fun y8 =>
sel (!y8.2) (some (.inr (.inl ((Machine.mk [] 0 []), 0, false)))) <|
some (.inl (y8.1, r1, w64 (s1.2.2 + 1)))) <|
some (.inr (.inr (s1.1, s1.2.1)))
noncomputable def spec_ImageNew (a0 : List Int) (a1 : List (List Instr)) : Option (Machine × Int × Bool) :=
(spec_l12Rooms a0).bind fun y1 =>
(sel (!y1) (some true) ((spec_l6In (a1.length : Int) 1 3).bind fun y2 => some (!y2))).bind fun b1 =>
sel b1 (some ((Machine.mk [] 0 []), 0, false)) <|
(spec_l46Code).bind fun y3 =>
(spec_l45Code [] y3).bind fun y4 =>
(iter (spec_ImageNew_b1 a1) (y4.1, [], 0)).bind fun y5 =>
both y5 (fun o3 => some o3) (fun o4 =>
(spec_l47Data (o4.1.length : Int) a0 o4.2).bind fun y9 =>
(app 8 o4.1 y9).bind fun r2 =>
sel (decide ((r2.length : Int) > 10000)) (some ((Machine.mk [] 0 []), 0, false)) <|
(nth o4.2 0).bind fun x3 =>
(spec_l47Boot r2 (o4.1.length : Int) x3).bind fun y10 =>
some ((Machine.mk y10.Regs y10.Pc y10.Mem), w64 (4 * (o4.1.length : Int)), true))
def laws_toIntS_b1 (a0 : List Int) (s1 : Int × (List Int)) : Option ((Int × (List Int)) ⊕ ((List Int))) :=
sel (decide (s1.1 < (a0.length : Int))) ((nth a0 s1.1).bind fun x1 =>
(nth s1.2 s1.1).bind fun x2 =>
(upd s1.2 s1.1 x1).bind fun r2 =>
some (.inl (w64 (s1.1 + 1), r2))) <|
some (.inr s1.2)
noncomputable def laws_toIntS (a0 : List Int) : Option ((List Int)) :=
(mk 8 (a0.length : Int) 0).bind fun r1 =>
(iter (laws_toIntS_b1 a0) (0, r1)).bind fun y1 =>
some y1
def laws_toInstr (a0 : Instr) : Option (Instr) :=
some (Instr.mk a0.Op a0.Rd a0.Rs a0.Rt a0.Imm)
def laws_toInstrS_b1 (a0 : List Instr) (s1 : Int × (List Instr)) : Option ((Int × (List Instr)) ⊕ ((List Instr))) :=
sel (decide (s1.1 < (a0.length : Int))) ((nth a0 s1.1).bind fun x1 =>
(laws_toInstr x1).bind fun y4 =>
(nth s1.2 s1.1).bind fun x2 =>
(upd s1.2 s1.1 y4).bind fun r2 =>
some (.inl (w64 (s1.1 + 1), r2))) <|
some (.inr s1.2)
noncomputable def laws_toInstrS (a0 : List Instr) : Option ((List Instr)) :=
(mk 40 (a0.length : Int) (Instr.mk 0 0 0 0 0)).bind fun r1 =>
(iter (laws_toInstrS_b1 a0) (0, r1)).bind fun y1 =>
some y1
noncomputable def laws_toInstrSS_b1 (a0 : List (List Instr)) (s1 : Int × (List (List Instr))) : Option ((Int × (List (List Instr))) ⊕ ((List (List Instr)))) :=
sel (decide (s1.1 < (a0.length : Int))) ((nth a0 s1.1).bind fun x1 =>
(laws_toInstrS x1).bind fun y4 =>
(nth s1.2 s1.1).bind fun x2 =>
some (.inl (w64 (s1.1 + 1), (s1.2.set (Int.toNat s1.1) y4)))) <|
some (.inr s1.2)
noncomputable def laws_toInstrSS (a0 : List (List Instr)) : Option ((List (List Instr))) :=
(mk 24 (a0.length : Int) []).bind fun r1 =>
(iter (laws_toInstrSS_b1 a0) (0, r1)).bind fun y1 =>
some y1
def impl_roomsValid_b1 (a0 : List Int) (s1 : Int) : Option (Int ⊕ (Bool ⊕ Unit)) :=
sel (decide (s1 < (a0.length : Int))) ((nth a0 s1).bind fun x1 =>
sel ((decide (x1 < 1)) || (decide (x1 > 4))) (some (.inr (.inl false))) <|
some (.inl (w64 (s1 + 1)))) <|
some (.inr (.inr ()))
noncomputable def impl_roomsValid (a0 : List Int) : Option (Bool) :=
(iter (impl_roomsValid_b1 a0) 0).bind fun y1 =>
both y1 (fun o3 => some o3) (fun o4 =>
some (decide ((a0.length : Int) ≤ 3)))
def impl_Wrap (a0 : Int) : Option (Int) :=
some (w64 (kwrap .i32 (a0)))
def impl_WordValid (a0 : Int) : Option (Bool) :=
some ((decide (a0 ≥ (-2147483648))) && (decide (a0 ≤ 2147483647)))
def impl_Unsigned (a0 : Int) : Option (Int) :=
(impl_WordValid a0).bind fun y1 =>
sel (!y1) (some (-1)) <|
some (w64 (kwrap .u32 (a0)))
def impl_formatOf (a0 : Int) : Option (Int) :=
sel ((decide (a0 ≥ 1)) && (decide (a0 ≤ 11))) (some 82) <|
sel ((decide (a0 ≥ 12)) && (decide (a0 ≤ 15))) (some 73) <|
sel (a0 == 16) (some 83) <|
sel ((a0 == 17) || (a0 == 18)) (some 66) <|
sel (a0 == 19) (some 85) <|
sel (a0 == 20) (some 74) <|
sel (a0 == 21) (some 69) <|
some 32
def impl_isMachineReg (a0 : Int) : Option (Bool) :=
some ((decide (a0 ≥ 0)) && (decide (a0 < 32)))
def impl_InstrValid (a0 : Instr) : Option (Bool) :=
(impl_isMachineReg a0.Rd).bind fun y1 =>
(impl_isMachineReg a0.Rs).bind fun y2 =>
(impl_isMachineReg a0.Rt).bind fun y3 =>
(impl_formatOf a0.Op).bind fun y4 =>
sel (y4 == 82) (some (((y1 && y2) && y3) && (a0.Imm == 0))) <|
sel (y4 == 73) (some (((y1 && y2) && (a0.Rt == 0)) && ((decide (a0.Imm ≥ (-2048))) && (decide (a0.Imm ≤ 2047))))) <|
sel (y4 == 83) (some ((((a0.Rd == 0) && y2) && y3) && ((decide (a0.Imm ≥ (-2048))) && (decide (a0.Imm ≤ 2047))))) <|
sel (y4 == 66) (some ((((((a0.Rd == 0) && y2) && y3) && (decide (a0.Imm ≥ (-4096)))) && (decide (a0.Imm ≤ 4094))) && ((Int.tmod a0.Imm 2) == 0))) <|
sel (y4 == 85) (some ((((y1 && (a0.Rs == 0)) && (a0.Rt == 0)) && (decide (a0.Imm ≥ 0))) && (decide (a0.Imm ≤ 1048575)))) <|
sel (y4 == 74) (some (((((y1 && (a0.Rs == 0)) && (a0.Rt == 0)) && (decide (a0.Imm ≥ (-1048576)))) && (decide (a0.Imm ≤ 1048574))) && ((Int.tmod a0.Imm 2) == 0))) <|
sel (y4 == 69) (some ((a0.Op == 21) && ((a0.Rd == 0) && ((a0.Rs == 0) && ((a0.Rt == 0) && ((a0.Imm == 0) && true)))))) <|
some false
def impl_isUnsigned (a0 : Int) : Option (Bool) :=
some ((decide (a0 ≥ 0)) && (decide (a0 < 4294967296)))
def impl_Bits (a0 : Int) (a1 : Int) (a2 : Int) : Option (Int) :=
(impl_isUnsigned a0).bind fun y1 =>
sel (((((!y1) || (decide (a1 < 0))) || (decide (a1 > 31))) || (decide (a2 < 1))) || (decide (a2 > (w64 (32 - a1))))) (some 0) <|
(shO .shr .i64 a0 a1).bind fun d1 =>
(shO .shl .i64 1 a2).bind fun d2 =>
some (bitsI .and .i64 d1 (w64 (d2 - 1)))
def impl_InstrEncode_1 (a0 : Int) (a1 : Int) (a2 : Int) (a3 : Int) : Option (Int) :=
(impl_Bits a3 a0 a1).bind fun y1 =>
(shO .shl .i64 y1 a2).bind fun d1 =>
some d1
def impl_InstrEncode (a0 : Instr) : Option (Int × Bool) :=
(impl_InstrValid a0).bind fun y1 =>
sel (!y1) (some (0, false)) <|
(nth instrTable (w64 (a0.Op - 1))).bind fun x1 =>
(impl_Unsigned a0.Imm).bind fun y2 =>
(impl_formatOf a0.Op).bind fun y3 =>
sel (y3 == 82) (some (bitsI .or .i64 (bitsI .or .i64 (w64 (x1.funct7 * 2 ^ (min 25 (IntKind.bits .i64)))) (bitsI .or .i64 (bitsI .or .i64 (bitsI .or .i64 (w64 (a0.Rt * 2 ^ (min 20 (IntKind.bits .i64)))) (w64 (a0.Rs * 2 ^ (min 15 (IntKind.bits .i64))))) (w64 (x1.funct3 * 2 ^ (min 12 (IntKind.bits .i64))))) x1.opcode)) (w64 (a0.Rd * 2 ^ (min 7 (IntKind.bits .i64)))), true)) <|
sel (y3 == 73) ((impl_InstrEncode_1 0 12 20 y2).bind fun y4 =>
some (bitsI .or .i64 (bitsI .or .i64 y4 (bitsI .or .i64 (bitsI .or .i64 (bitsI .or .i64 (w64 (a0.Rt * 2 ^ (min 20 (IntKind.bits .i64)))) (w64 (a0.Rs * 2 ^ (min 15 (IntKind.bits .i64))))) (w64 (x1.funct3 * 2 ^ (min 12 (IntKind.bits .i64))))) x1.opcode)) (w64 (a0.Rd * 2 ^ (min 7 (IntKind.bits .i64)))), true)) <|
sel (y3 == 83) ((impl_InstrEncode_1 5 7 25 y2).bind fun y5 =>
(impl_InstrEncode_1 0 5 7 y2).bind fun y6 =>
some (bitsI .or .i64 (bitsI .or .i64 y5 (bitsI .or .i64 (bitsI .or .i64 (bitsI .or .i64 (w64 (a0.Rt * 2 ^ (min 20 (IntKind.bits .i64)))) (w64 (a0.Rs * 2 ^ (min 15 (IntKind.bits .i64))))) (w64 (x1.funct3 * 2 ^ (min 12 (IntKind.bits .i64))))) x1.opcode)) y6, true)) <|
sel (y3 == 66) ((impl_InstrEncode_1 12 1 31 y2).bind fun y7 =>
(impl_InstrEncode_1 5 6 25 y2).bind fun y8 =>
(impl_InstrEncode_1 1 4 8 y2).bind fun y9 =>
(impl_InstrEncode_1 11 1 7 y2).bind fun y10 =>
some (bitsI .or .i64 (bitsI .or .i64 (bitsI .or .i64 (bitsI .or .i64 y7 y8) (bitsI .or .i64 (bitsI .or .i64 (bitsI .or .i64 (w64 (a0.Rt * 2 ^ (min 20 (IntKind.bits .i64)))) (w64 (a0.Rs * 2 ^ (min 15 (IntKind.bits .i64))))) (w64 (x1.funct3 * 2 ^ (min 12 (IntKind.bits .i64))))) x1.opcode)) y9) y10, true)) <|
sel (y3 == 85) ((impl_InstrEncode_1 0 20 12 y2).bind fun y11 =>
some (bitsI .or .i64 (bitsI .or .i64 y11 (w64 (a0.Rd * 2 ^ (min 7 (IntKind.bits .i64))))) x1.opcode, true)) <|
sel (y3 == 74) ((impl_InstrEncode_1 20 1 31 y2).bind fun y12 =>
(impl_InstrEncode_1 1 10 21 y2).bind fun y13 =>
(impl_InstrEncode_1 11 1 20 y2).bind fun y14 =>
(impl_InstrEncode_1 12 8 12 y2).bind fun y15 =>
some (bitsI .or .i64 (bitsI .or .i64 (bitsI .or .i64 (bitsI .or .i64 (bitsI .or .i64 y12 y13) y14) y15) (w64 (a0.Rd * 2 ^ (min 7 (IntKind.bits .i64))))) x1.opcode, true)) <|
some (x1.opcode, true)
def impl_wordsOf_b1 (a0 : List Instr) (s1 : (List Int) × Int) : Option (((List Int) × Int) ⊕ (((List Int) × Bool) ⊕ ((List Int)))) :=
sel (decide (s1.2 < (a0.length : Int))) ((nth a0 s1.2).bind fun x1 =>
(impl_InstrEncode x1).bind fun y4 =>
sel (!y4.2) (some (.inr (.inl ([], false)))) <|
(impl_Wrap y4.1).bind fun y5 =>
(app 8 s1.1 [y5]).bind fun r1 =>
some (.inl (r1, w64 (s1.2 + 1)))) <|
some (.inr (.inr s1.1))
noncomputable def impl_wordsOf (a0 : List Instr) : Option ((List Int) × Bool) :=
(iter (impl_wordsOf_b1 a0) ([], 0)).bind fun y1 =>
both y1 (fun o3 => some o3) (fun o4 =>
some (o4, true))
def impl_addi (a0 : Int) (a1 : Int) (a2 : Int) : Option (Instr) :=
some (Instr.mk 12 a0 a1 0 a2)
def impl_branch (a0 : Int) (a1 : Int) (a2 : Int) (a3 : Int) (a4 : Int) : Option (Instr) :=
some (Instr.mk a0 0 a2 a3 (w64 (4 * (w64 (a4 - a1)))))
def impl_jumpTo (a0 : Int) (a1 : Int) : Option (Instr) :=
some (Instr.mk 20 0 0 0 (w64 (4 * (w64 (a1 - a0)))))
def impl_three (a0 : Int) (a1 : Int) (a2 : Int) (a3 : Int) : Option (Instr) :=
some (Instr.mk a0 a1 a2 a3 0)
def impl_lw (a0 : Int) (a1 : Int) (a2 : Int) : Option (Instr) :=
some (Instr.mk 14 a0 a2 0 a1)
def impl_sw (a0 : Int) (a1 : Int) (a2 : Int) : Option (Instr) :=
some (Instr.mk 16 0 a2 a0 a1)
def impl_back (a0 : Int) : Option (Instr) :=
some (Instr.mk 15 0 a0 0 0)
def impl_runtimeList_b1 (s1 : (List Instr) × Int) : Option (((List Instr) × Int) ⊕ ((List Instr))) :=
sel (decide (s1.2 < 13)) ((nth savedRegs s1.2).bind fun x1 =>
(impl_sw x1 (w64 ((w64 (4 * s1.2)) + 4)) 4).bind fun y58 =>
(app 40 s1.1 [y58]).bind fun r1 =>
some (.inl (r1, w64 (s1.2 + 1)))) <|
some (.inr s1.1)
def impl_runtimeList_b2 (s2 : (List Instr) × Int) : Option (((List Instr) × Int) ⊕ ((List Instr))) :=
sel (decide (s2.2 < 13)) ((nth savedRegs s2.2).bind fun x2 =>
(impl_lw x2 (w64 ((w64 (4 * s2.2)) + 4)) 4).bind fun y69 =>
(app 40 s2.1 [y69]).bind fun r3 =>
some (.inl (r3, w64 (s2.2 + 1)))) <|
some (.inr s2.1)
noncomputable def impl_runtimeList : Option ((List Instr)) :=
(impl_addi 5 0 1).bind fun y1 =>
(impl_branch 17 1 17 5 9).bind fun y2 =>
(impl_addi 5 0 2).bind fun y3 =>
(impl_branch 17 3 17 5 26).bind fun y4 =>
(impl_addi 5 0 3).bind fun y5 =>
(impl_branch 17 5 17 5 47).bind fun y6 =>
(impl_addi 5 0 4).bind fun y7 =>
(impl_branch 17 7 17 5 44).bind fun y8 =>
(impl_jumpTo 8 50).bind fun y9 =>
(impl_addi 5 0 5).bind fun y10 =>
(impl_three 9 6 11 5).bind fun y11 =>
(impl_three 1 6 6 3).bind fun y12 =>
(impl_lw 7 24 6).bind fun y13 =>
(impl_lw 28 16 6).bind fun y14 =>
(impl_branch 17 14 7 28 50).bind fun y15 =>
(impl_lw 29 20 6).bind fun y16 =>
(impl_three 1 29 29 7).bind fun y17 =>
(impl_three 5 29 29 28).bind fun y18 =>
(impl_addi 5 0 2).bind fun y19 =>
(impl_three 9 29 29 5).bind fun y20 =>
(impl_three 1 29 29 6).bind fun y21 =>
(impl_sw 10 32 29).bind fun y22 =>
(impl_addi 7 7 1).bind fun y23 =>
(impl_sw 7 24 6).bind fun y24 =>
(impl_sw 0 0 3).bind fun y25 =>
(impl_back 1).bind fun y26 =>
(impl_addi 5 0 5).bind fun y27 =>
(impl_three 9 6 11 5).bind fun y28 =>
(impl_three 1 6 6 3).bind fun y29 =>
(impl_lw 7 24 6).bind fun y30 =>
(impl_branch 17 30 7 0 50).bind fun y31 =>
(impl_lw 28 16 6).bind fun y32 =>
(impl_lw 29 20 6).bind fun y33 =>
(impl_addi 5 0 2).bind fun y34 =>
(impl_three 9 30 29 5).bind fun y35 =>
(impl_three 1 30 30 6).bind fun y36 =>
(impl_lw 10 32 30).bind fun y37 =>
(impl_addi 29 29 1).bind fun y38 =>
(impl_three 5 29 29 28).bind fun y39 =>
(impl_sw 29 20 6).bind fun y40 =>
(impl_addi 7 7 (-1)).bind fun y41 =>
(impl_sw 7 24 6).bind fun y42 =>
(impl_sw 0 0 3).bind fun y43 =>
(impl_back 1).bind fun y44 =>
(impl_sw 0 0 3).bind fun y45 =>
(impl_back 1).bind fun y46 =>
(impl_addi 5 1 0).bind fun y47 =>
(impl_sw 0 0 3).bind fun y48 =>
(impl_jumpTo 49 54).bind fun y49 =>
(impl_addi 5 0 0).bind fun y50 =>
(impl_lw 6 0 3).bind fun y51 =>
(impl_addi 6 6 1).bind fun y52 =>
(impl_sw 6 0 3).bind fun y53 =>
(impl_sw 5 0 4).bind fun y54 =>
(iter (impl_runtimeList_b1) ([y1, y2, y3, y4, y5, y6, y7, y8, y9, y10, y11, y12, y13, y14, y15, y16, y17, y18, y19, y20, y21, y22, y23, y24, y25, y26, y27, y28, y29, y30, y31, y32, y33, y34, y35, y36, y37, y38, y39, y40, y41, y42, y43, y44, (Instr.mk 21 0 0 0 0), y45, y46, y47, y48, y49, y50, y51, y52, y53, y54], 0)).bind fun y55 =>
(impl_lw 6 0 3).bind fun y59 =>
(impl_lw 7 4 3).bind fun y60 =>
(impl_branch 17 70 6 7 90).bind fun y61 =>
(impl_addi 4 4 64).bind fun y62 =>
(impl_lw 5 12 3).bind fun y63 =>
(impl_branch 18 73 4 5 75).bind fun y64 =>
(impl_lw 4 8 3).bind fun y65 =>
(app 40 y55 [y59, y60, y61, y62, y63, y64, y65]).bind fun r2 =>
(iter (impl_runtimeList_b2) (r2, 0)).bind fun y66 =>
(impl_lw 5 0 4).bind fun y70 =>
(impl_back 5).bind fun y71 =>
(impl_addi 17 0 0).bind fun y72 =>
(app 40 y66 [y70, y71, y72, (Instr.mk 21 0 0 0 0)]).bind fun r4 =>
some r4
noncomputable def impl_ImageNew_b1 (a1 : List (List Instr)) (s1 : (List Int) × (List Int) × Int) : Option (((List Int) × (List Int) × Int) ⊕ ((Machine × Int × Bool) ⊕ ((List Int) × (List Int)))) :=
sel (decide (s1.2.2 < (a1.length : Int))) ((nth a1 s1.2.2).bind fun x1 =>
(impl_wordsOf x1).bind fun y7 =>
sel (!y7.2) (some (.inr (.inl ((Machine.mk [] 0 []), 0, false)))) <|
(app 8 s1.2.1 [w64 (4 * (s1.1.length : Int))]).bind fun r1 =>
(app 8 s1.1 y7.1).bind fun r2 =>
some (.inl (r2, r1, w64 (s1.2.2 + 1)))) <|
some (.inr (.inr (s1.1, s1.2.1)))
def impl_ImageNew_b2 (a0 : List Int) (s2 : (List Int) × Int) : Option (((List Int) × Int) ⊕ ((List Int))) :=
sel (decide (s2.2 < 3)) ((mk 8 8 0).bind fun r4 =>
(sel (decide (s2.2 < (a0.length : Int))) ((nth a0 s2.2).bind fun x2 =>
(nth r4 0).bind fun x3 =>
(upd r4 0 x2).bind fun r5 =>
some r5) <|
some r4 : Option ((List Int))).bind fun y11 =>
(app 8 s2.1 y11).bind fun r6 =>
some (.inl (r6, w64 (s2.2 + 1)))) <|
some (.inr s2.1)
def impl_ImageNew_b3 (a1 : List (List Instr)) (o4 : (List Int) × (List Int)) (s3 : (List Int) × Int) : Option (((List Int) × Int) ⊕ ((List Int))) :=
sel (decide (s3.2 < (o4.2.length : Int))) ((nth o4.2 s3.2).bind fun x4 =>
(mk 8 16 0).bind fun r7 =>
(nth r7 0).bind fun x5 =>
(upd r7 0 x4).bind fun r8 =>
(nth r8 2).bind fun x6 =>
(upd r8 2 (w64 ((w64 ((w64 ((w64 (4 * (o4.1.length : Int))) + 112)) + (w64 (64 * (a1.length : Int))))) + (w64 (48 * s3.2))))).bind fun r9 =>
(app 8 s3.1 r9).bind fun r10 =>
some (.inl (r10, w64 (s3.2 + 1)))) <|
some (.inr s3.1)
noncomputable def impl_ImageNew (a0 : List Int) (a1 : List (List Instr)) : Option (Machine × Int × Bool) :=
(impl_roomsValid a0).bind fun y1 =>
sel (((!y1) || (decide ((a1.length : Int) < 1))) || (decide ((a1.length : Int) > 3))) (some ((Machine.mk [] 0 []), 0, false)) <|
(impl_runtimeList).bind fun y2 =>
(impl_wordsOf y2).bind fun y3 =>
(iter (impl_ImageNew_b1 a1) (y3.1, [], 0)).bind fun y4 =>
both y4 (fun o3 => some o3) (fun o4 =>
(app 8 o4.1 [0, (a1.length : Int), w64 ((w64 (4 * (o4.1.length : Int))) + 112), w64 ((w64 ((w64 (4 * (o4.1.length : Int))) + 112)) + (w64 (64 * (a1.length : Int))))]).bind fun r3 =>
(iter (impl_ImageNew_b2 a0) (r3, 0)).bind fun y8 =>
(iter (impl_ImageNew_b3 a1 o4) (y8, 0)).bind fun y12 =>
(appz 8 y12 (w64 (12 * (a1.length : Int))) 0).bind fun r11 =>
sel (decide ((r11.length : Int) > 10000)) (some ((Machine.mk [] 0 []), 0, false)) <|
(nth o4.2 0).bind fun x7 =>
(mk 8 32 0).bind fun r12 =>
(nth r12 2).bind fun x8 =>
(upd r12 2 (w64 ((w64 ((w64 (4 * (o4.1.length : Int))) + 112)) + (w64 (64 * (a1.length : Int)))))).bind fun r13 =>
(nth r13 3).bind fun x9 =>
(upd r13 3 (w64 (4 * (o4.1.length : Int)))).bind fun r14 =>
(nth r14 4).bind fun x10 =>
(upd r14 4 (w64 ((w64 (4 * (o4.1.length : Int))) + 112))).bind fun r15 =>
some ((Machine.mk r15 x7 r11), w64 (4 * (o4.1.length : Int)), true))
def laws_eqIntS_b1 (a0 : List Int) (a1 : List Int) (s1 : Int) : Option (Int ⊕ (Bool ⊕ Unit)) :=
sel (decide (s1 < (a0.length : Int))) ((nth a0 s1).bind fun x1 =>
(nth a1 s1).bind fun x2 =>
sel (x1 != x2) (some (.inr (.inl false))) <|
some (.inl (w64 (s1 + 1)))) <|
some (.inr (.inr ()))
noncomputable def laws_eqIntS (a0 : List Int) (a1 : List Int) : Option (Bool) :=
sel ((a0.length : Int) != (a1.length : Int)) (some false) <|
(iter (laws_eqIntS_b1 a0 a1) 0).bind fun y1 =>
both y1 (fun o3 => some o3) (fun o4 =>
some true)
noncomputable def laws_eqMachine (a0 : Machine) (a1 : Machine) : Option (Bool) :=
(laws_eqIntS a0.Regs a1.Regs).bind fun y1 =>
sel (!y1) (some false) <|
sel (a0.Pc != a1.Pc) (some false) <|
(laws_eqIntS a0.Mem a1.Mem).bind fun y2 =>
sel (!y2) (some false) <|
some true
def laws_eqInstr (a0 : Instr) (a1 : Instr) : Option (Bool) :=
sel (a0.Op != a1.Op) (some false) <|
sel (a0.Rd != a1.Rd) (some false) <|
sel (a0.Rs != a1.Rs) (some false) <|
sel (a0.Rt != a1.Rt) (some false) <|
sel (a0.Imm != a1.Imm) (some false) <|
some true
def laws_eqInstrS_b1 (a0 : List Instr) (a1 : List Instr) (s1 : Int) : Option (Int ⊕ (Bool ⊕ Unit)) :=
sel (decide (s1 < (a0.length : Int))) ((nth a0 s1).bind fun x1 =>
(nth a1 s1).bind fun x2 =>
(laws_eqInstr x1 x2).bind fun y4 =>
sel (!y4) (some (.inr (.inl false))) <|
some (.inl (w64 (s1 + 1)))) <|
some (.inr (.inr ()))
noncomputable def laws_eqInstrS (a0 : List Instr) (a1 : List Instr) : Option (Bool) :=
sel ((a0.length : Int) != (a1.length : Int)) (some false) <|
(iter (laws_eqInstrS_b1 a0 a1) 0).bind fun y1 =>
both y1 (fun o3 => some o3) (fun o4 =>
some true)
noncomputable def laws_eqInstrSS_b1 (a0 : List (List Instr)) (a1 : List (List Instr)) (s1 : Int) : Option (Int ⊕ (Bool ⊕ Unit)) :=
sel (decide (s1 < (a0.length : Int))) ((nth a0 s1).bind fun x1 =>
(nth a1 s1).bind fun x2 =>
(laws_eqInstrS x1 x2).bind fun y4 =>
sel (!y4) (some (.inr (.inl false))) <|
some (.inl (w64 (s1 + 1)))) <|
some (.inr (.inr ()))
noncomputable def laws_eqInstrSS (a0 : List (List Instr)) (a1 : List (List Instr)) : Option (Bool) :=
sel ((a0.length : Int) != (a1.length : Int)) (some false) <|
(iter (laws_eqInstrSS_b1 a0 a1) 0).bind fun y1 =>
both y1 (fun o3 => some o3) (fun o4 =>
some true)
def laws_markIntS_b1 (s1 : Int × Int × (List Int)) : Option ((Int × Int × (List Int)) ⊕ (Int × (List Int))) :=
sel (decide (s1.2.1 < (s1.2.2.length : Int))) ((nth s1.2.2 s1.2.1).bind fun x1 =>
(upd s1.2.2 s1.2.1 s1.1).bind fun r1 =>
some (.inl (w64 (s1.1 + 1), w64 (s1.2.1 + 1), r1))) <|
some (.inr (s1.1, s1.2.2))
noncomputable def laws_markIntS (a0 : List Int) (a1 : Int) : Option (Int × (List Int)) :=
(iter (laws_markIntS_b1) (a1, 0, a0)).bind fun y1 =>
some (y1.1, y1.2)
def laws_markInstrS_b1 (s1 : Int × Int × (List Instr)) : Option ((Int × Int × (List Instr)) ⊕ (Int × (List Instr))) :=
sel (decide (s1.2.1 < (s1.2.2.length : Int))) ((nth s1.2.2 s1.2.1).bind fun x1 =>
(upd s1.2.2 s1.2.1 (Instr.mk s1.1 x1.Rd x1.Rs x1.Rt x1.Imm)).bind fun r1 =>
(nth r1 s1.2.1).bind fun x2 =>
(upd r1 s1.2.1 (Instr.mk x2.Op (w64 (s1.1 + 1)) x2.Rs x2.Rt x2.Imm)).bind fun r2 =>
(nth r2 s1.2.1).bind fun x3 =>
(upd r2 s1.2.1 (Instr.mk x3.Op x3.Rd (w64 ((w64 (s1.1 + 1)) + 1)) x3.Rt x3.Imm)).bind fun r3 =>
(nth r3 s1.2.1).bind fun x4 =>
(upd r3 s1.2.1 (Instr.mk x4.Op x4.Rd x4.Rs (w64 ((w64 ((w64 (s1.1 + 1)) + 1)) + 1)) x4.Imm)).bind fun r4 =>
(nth r4 s1.2.1).bind fun x5 =>
(upd r4 s1.2.1 (Instr.mk x5.Op x5.Rd x5.Rs x5.Rt (w64 ((w64 ((w64 ((w64 (s1.1 + 1)) + 1)) + 1)) + 1)))).bind fun r5 =>
some (.inl (w64 ((w64 ((w64 ((w64 ((w64 (s1.1 + 1)) + 1)) + 1)) + 1)) + 1), w64 (s1.2.1 + 1), r5))) <|
some (.inr (s1.1, s1.2.2))
noncomputable def laws_markInstrS (a0 : List Instr) (a1 : Int) : Option (Int × (List Instr)) :=
(iter (laws_markInstrS_b1) (a1, 0, a0)).bind fun y1 =>
some (y1.1, y1.2)
noncomputable def laws_markInstrSS_b1 (s1 : Int × Int × (List (List Instr))) : Option ((Int × Int × (List (List Instr))) ⊕ (Int × (List (List Instr)))) :=
sel (decide (s1.2.1 < (s1.2.2.length : Int))) ((nth s1.2.2 s1.2.1).bind fun x1 =>
(laws_markInstrS x1 s1.1).bind fun y4 =>
some (.inl (y4.1, w64 (s1.2.1 + 1), (s1.2.2.set (Int.toNat s1.2.1) y4.2)))) <|
some (.inr (s1.1, s1.2.2))
noncomputable def laws_markInstrSS (a0 : List (List Instr)) (a1 : Int) : Option (Int × (List (List Instr))) :=
(iter (laws_markInstrSS_b1) (a1, 0, a0)).bind fun y1 =>
some (y1.1, y1.2)
noncomputable def laws_markMachine (a0 : Machine) (a1 : Int) : Option (Int × (List Int) × (List Int)) :=
(laws_markIntS a0.Regs a1).bind fun y1 =>
(laws_markIntS a0.Mem y1.1).bind fun y2 =>
some (y2.1, y1.2, y2.2)
def laws_heldIntS_b1 (a0 : List Int) (s1 : Int × Int) : Option ((Int × Int) ⊕ (Int ⊕ Int)) :=
sel (decide (s1.2 < (a0.length : Int))) ((nth a0 s1.2).bind fun x1 =>
sel (x1 != s1.1) (some (.inr (.inl (-1)))) <|
some (.inl (w64 (s1.1 + 1), w64 (s1.2 + 1)))) <|
some (.inr (.inr s1.1))
noncomputable def laws_heldIntS (a0 : List Int) (a1 : Int) : Option (Int) :=
(iter (laws_heldIntS_b1 a0) (a1, 0)).bind fun y1 =>
both y1 (fun o3 => some o3) (fun o4 =>
some o4)
noncomputable def laws_heldMachine (a0 : Machine) (a1 : Int) : Option (Int) :=
(laws_heldIntS a0.Regs a1).bind fun y1 =>
sel (decide (y1 < 0)) (some (-1)) <|
(laws_heldIntS a0.Mem y1).bind fun y2 =>
sel (decide (y2 < 0)) (some (-1)) <|
some y2
noncomputable def laws_FnExactImageNew (a0 : List Int) (a1 : List (List Instr)) : Option (Bool) :=
sel (decide ((a0.length : Int) > 1048576)) (some true) <|
(laws_szInstrSS a1 1048576).bind fun y1 =>
sel (decide (y1 < 0)) (some true) <|
(laws_toIntS a0).bind fun y2 =>
(laws_toInstrSS a1).bind fun y3 =>
(spec_ImageNew y2 y3).bind fun y4 =>
(laws_toIntS a0).bind fun y5 =>
(laws_toInstrSS a1).bind fun y6 =>
(impl_ImageNew y5 y6).bind fun y7 =>
(laws_eqMachine (Machine.mk y7.1.Regs y7.1.Pc y7.1.Mem) (Machine.mk y4.1.Regs y4.1.Pc y4.1.Mem)).bind fun y8 =>
sel (((!y8) || (y7.2.1 != y4.2.1)) || (y7.2.2 != y4.2.2)) (some false) <|
(laws_toIntS a0).bind fun y9 =>
(laws_eqIntS y5 y9).bind fun y10 =>
sel (!y10) (some false) <|
(laws_toInstrSS a1).bind fun y11 =>
(laws_eqInstrSS y6 y11).bind fun y12 =>
sel (!y12) (some false) <|
(laws_markIntS y5 1).bind fun y13 =>
(laws_markInstrSS y6 y13.1).bind fun y14 =>
(sel (decide (y14.1 < 0)) (some true) ((laws_eqMachine (Machine.mk y7.1.Regs y7.1.Pc y7.1.Mem) (Machine.mk y4.1.Regs y4.1.Pc y4.1.Mem)).bind fun y15 => some (!y15))).bind fun b1 =>
sel ((b1 || (y7.2.1 != y4.2.1)) || (y7.2.2 != y4.2.2)) (some false) <|
(laws_markMachine (Machine.mk y7.1.Regs y7.1.Pc y7.1.Mem) 1).bind fun y16 =>
(laws_heldMachine (Machine.mk y16.2.1 y7.1.Pc y16.2.2) 1).bind fun y17 =>
sel (decide (y17 < 0)) (some false) <|
sel (y17 != y16.1) (some false) <|
(laws_toIntS a0).bind fun y18 =>
(laws_toInstrSS a1).bind fun y19 =>
(impl_ImageNew y18 y19).bind fun y20 =>
(laws_eqMachine (Machine.mk y20.1.Regs y20.1.Pc y20.1.Mem) (Machine.mk y4.1.Regs y4.1.Pc y4.1.Mem)).bind fun y21 =>
sel (((!y21) || (y20.2.1 != y4.2.1)) || (y20.2.2 != y4.2.2)) (some false) <|
(laws_heldMachine (Machine.mk y16.2.1 y7.1.Pc y16.2.2) 1).bind fun y22 =>
sel (decide (y22 < 0)) (some false) <|
sel (y22 != y16.1) (some false) <|
some true
end Go.Proofs.YtdohklfimhkicaaDoor.N
