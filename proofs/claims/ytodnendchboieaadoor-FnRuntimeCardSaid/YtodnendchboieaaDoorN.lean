/- The functions of this seat: each as a plain Lean function, and that the code computes it. Printed by a program of mine. -/
import Derived.Test.YtodnendchboieaaDoorXi
import Derived.Test.YtodnendchboieaaDoorProg
set_option linter.unusedVariables false
set_option maxRecDepth 100000
set_option maxHeartbeats 4000000
namespace Go.Proofs.YtodnendchboieaaDoor.N
open Go.Proofs.YtodnendchboieaaDoor.X
def savedRegs : List Int := [1, 2, 8, 9, 18, 19, 20, 21, 22, 23, 10, 11, 17]
abbrev Gl (w : World) : Prop := Glob 0 (savedRegs.map (Value.int .i64)) w
structure Instr where
  Op : Int
  Rd : Int
  Rs : Int
  Rt : Int
  Imm : Int
def dInstr (x : Instr) : D := .agg [.int .i64 x.Op, .int .i64 x.Rd, .int .i64 x.Rs, .int .i64 x.Rt, .int .i64 x.Imm]
def vInstr (x : Instr) : Value := .agg #[.int .i64 x.Op, .int .i64 x.Rd, .int .i64 x.Rs, .int .i64 x.Rt, .int .i64 x.Imm]

structure L6Rd where
  b : List Int
  p : Int
def dL6Rd (x : L6Rd) : D := .agg [.row 5 1 (x.b.map (D.int .u8)), .int .i64 x.p]

theorem T.t23 : tinfo Tryd.prog 23 = some (true, some (.agg #[.int .i64 0, .int .i64 0, .int .i64 0, .int .i64 0, .int .i64 0]), 5, 40) := by kernel_rfl
theorem T.s23 : sinfo Tryd.prog 23 = some ([(0, 1), (1, 1), (2, 1), (3, 1), (4, 1)], [.int .i64 0, .int .i64 0, .int .i64 0, .int .i64 0, .int .i64 0]) := by kernel_rfl
theorem T.u33 : Tryd.prog.underlying 33 = some (.slice 23) := by kernel_rfl
theorem T.u47 : Tryd.prog.underlying 47 = some (.slice 3) := by kernel_rfl
theorem T.t3 : tinfo Tryd.prog 3 = some (false, some (.int .i64 0), 1, 8) := by kernel_rfl
theorem T.mix : Tryd.prog.follows .mixedOrders = true := by kernel_rfl
theorem T.t44 : tinfo Tryd.prog 44 = some (true, some (.agg #[.int .i64 0, .int .i64 0, .int .i64 0, .int .i64 0, .int .i64 0, .int .i64 0, .int .i64 0, .int .i64 0, .int .i64 0, .int .i64 0, .int .i64 0, .int .i64 0, .int .i64 0]), 13, 104) := by kernel_rfl
theorem T.u44 : Tryd.prog.underlying 44 = some (.array 13 3) := by kernel_rfl
theorem T.f23_0 : fOff Tryd.prog 23 0 = some (0, 1, false) := by kernel_rfl
theorem T.f23_1 : fOff Tryd.prog 23 1 = some (1, 1, false) := by kernel_rfl
theorem T.f23_2 : fOff Tryd.prog 23 2 = some (2, 1, false) := by kernel_rfl
theorem T.f23_3 : fOff Tryd.prog 23 3 = some (3, 1, false) := by kernel_rfl
theorem T.f23_4 : fOff Tryd.prog 23 4 = some (4, 1, false) := by kernel_rfl
theorem T.u4 : Tryd.prog.underlying 4 = some (.bool) := by kernel_rfl
theorem T.u28 : Tryd.prog.underlying 28 = some (.slice 5) := by kernel_rfl
theorem T.t5 : tinfo Tryd.prog 5 = some (false, some (.int .u8 0), 1, 1) := by kernel_rfl
theorem T.s46 : sinfo Tryd.prog 46 = some ([(0, 1), (1, 1)], [.slice none 0 0, .int .i64 0]) := by kernel_rfl
theorem T.f46_1 : fOff Tryd.prog 46 1 = some (1, 1, false) := by kernel_rfl
theorem T.f46_0 : fOff Tryd.prog 46 0 = some (0, 1, false) := by kernel_rfl
theorem T.t28 : tinfo Tryd.prog 28 = some (false, some (.slice none 0 0), 1, 24) := by kernel_rfl
theorem T.u5 : Tryd.prog.underlying 5 = some (.int .u8) := by kernel_rfl
theorem T.u3 : Tryd.prog.underlying 3 = some (.int .i64) := by kernel_rfl
theorem T.e23 : einfo Tryd.prog 23 = some [(0, .int .i64), (1, .int .i64), (2, .int .i64), (3, .int .i64), (4, .int .i64)] := by kernel_rfl
def spec_l6In (a0 : Int) (a1 : Int) (a2 : Int) : Option (Bool) :=
some ((decide (a0 ≥ a1)) && (decide (a0 ≤ a2)))
def spec_l46Addi (a0 : Int) (a1 : Int) (a2 : Int) : Option (Instr) :=
some (Instr.mk 12 a0 a1 0 a2)
def spec_l46If (a0 : Int) (a1 : Int) (a2 : Int) (a3 : Int) (a4 : Int) : Option (Instr) :=
some (Instr.mk a0 0 a1 a2 (w64 (4 * (w64 (a4 - a3)))))
def spec_l46To (a0 : Int) (a1 : Int) : Option (Instr) :=
some (Instr.mk 20 0 0 0 (w64 (4 * (w64 (a1 - a0)))))
def spec_l46Entry : Option ((List Instr)) :=
(spec_l46Addi 5 0 1).bind fun y1 =>
(spec_l46If 17 17 5 1 9).bind fun y2 =>
(spec_l46Addi 5 0 2).bind fun y3 =>
(spec_l46If 17 17 5 3 26).bind fun y4 =>
(spec_l46Addi 5 0 3).bind fun y5 =>
(spec_l46If 17 17 5 5 47).bind fun y6 =>
(spec_l46Addi 5 0 4).bind fun y7 =>
(spec_l46If 17 17 5 7 44).bind fun y8 =>
(spec_l46To 8 50).bind fun y9 =>
some [y1, y2, y3, y4, y5, y6, y7, y8, y9]
def spec_l46R (a0 : Int) (a1 : Int) (a2 : Int) (a3 : Int) : Option (Instr) :=
some (Instr.mk a0 a1 a2 a3 0)
def spec_l46Lw (a0 : Int) (a1 : Int) (a2 : Int) : Option (Instr) :=
some (Instr.mk 14 a0 a2 0 a1)
def spec_l46Sw (a0 : Int) (a1 : Int) (a2 : Int) : Option (Instr) :=
some (Instr.mk 16 0 a2 a0 a1)
def spec_l46Back (a0 : Int) : Option (Instr) :=
some (Instr.mk 15 0 a0 0 0)
def spec_l46Send : Option ((List Instr)) :=
(spec_l46Addi 5 0 5).bind fun y1 =>
(spec_l46R 9 6 11 5).bind fun y2 =>
(spec_l46R 1 6 6 3).bind fun y3 =>
(spec_l46Lw 7 24 6).bind fun y4 =>
(spec_l46Lw 28 16 6).bind fun y5 =>
(spec_l46If 17 7 28 14 50).bind fun y6 =>
(spec_l46Lw 29 20 6).bind fun y7 =>
(spec_l46R 1 29 29 7).bind fun y8 =>
(spec_l46R 5 29 29 28).bind fun y9 =>
(spec_l46Addi 5 0 2).bind fun y10 =>
(spec_l46R 9 29 29 5).bind fun y11 =>
(spec_l46R 1 29 29 6).bind fun y12 =>
(spec_l46Sw 10 32 29).bind fun y13 =>
(spec_l46Addi 7 7 1).bind fun y14 =>
(spec_l46Sw 7 24 6).bind fun y15 =>
(spec_l46Sw 0 0 3).bind fun y16 =>
(spec_l46Back 1).bind fun y17 =>
some [y1, y2, y3, y4, y5, y6, y7, y8, y9, y10, y11, y12, y13, y14, y15, y16, y17]
def spec_l46Recv : Option ((List Instr)) :=
(spec_l46Addi 5 0 5).bind fun y1 =>
(spec_l46R 9 6 11 5).bind fun y2 =>
(spec_l46R 1 6 6 3).bind fun y3 =>
(spec_l46Lw 7 24 6).bind fun y4 =>
(spec_l46If 17 7 0 30 50).bind fun y5 =>
(spec_l46Lw 28 16 6).bind fun y6 =>
(spec_l46Lw 29 20 6).bind fun y7 =>
(spec_l46Addi 5 0 2).bind fun y8 =>
(spec_l46R 9 30 29 5).bind fun y9 =>
(spec_l46R 1 30 30 6).bind fun y10 =>
(spec_l46Lw 10 32 30).bind fun y11 =>
(spec_l46Addi 29 29 1).bind fun y12 =>
(spec_l46R 5 29 29 28).bind fun y13 =>
(spec_l46Sw 29 20 6).bind fun y14 =>
(spec_l46Addi 7 7 (-1)).bind fun y15 =>
(spec_l46Sw 7 24 6).bind fun y16 =>
(spec_l46Sw 0 0 3).bind fun y17 =>
(spec_l46Back 1).bind fun y18 =>
some [y1, y2, y3, y4, y5, y6, y7, y8, y9, y10, y11, y12, y13, y14, y15, y16, y17, y18]
def spec_l46Other : Option ((List Instr)) :=
(spec_l46Sw 0 0 3).bind fun y1 =>
(spec_l46Back 1).bind fun y2 =>
(spec_l46Addi 5 1 0).bind fun y3 =>
(spec_l46Sw 0 0 3).bind fun y4 =>
(spec_l46To 49 54).bind fun y5 =>
(spec_l46Addi 5 0 0).bind fun y6 =>
(spec_l46Lw 6 0 3).bind fun y7 =>
(spec_l46Addi 6 6 1).bind fun y8 =>
(spec_l46Sw 6 0 3).bind fun y9 =>
some [(Instr.mk 21 0 0 0 0), y1, y2, y3, y4, y5, y6, y7, y8, y9]
def spec_l46Saved : Option ((List Int)) :=
some [1, 2, 8, 9, 18, 19, 20, 21, 22, 23, 10, 11, 17]
def spec_l46Save_b1 (y2 : (List Int)) (s1 : (List Instr) × Int) : Option (((List Instr) × Int) ⊕ ((List Instr))) :=
sel (decide (s1.2 < (y2.length : Int))) ((nth y2 s1.2).bind fun x1 =>
(spec_l46Sw x1 (w64 (4 + (w64 (4 * s1.2)))) 4).bind fun y6 =>
(app 40 s1.1 [y6]).bind fun r1 =>
some (.inl (r1, w64 (s1.2 + 1)))) <|
some (.inr s1.1)
noncomputable def spec_l46Save : Option ((List Instr)) :=
(spec_l46Sw 5 0 4).bind fun y1 =>
(spec_l46Saved).bind fun y2 =>
(iter (spec_l46Save_b1 y2) ([y1], 0)).bind fun y3 =>
some y3
def spec_l46Load_b1 (y8 : (List Int)) (s1 : (List Instr) × Int) : Option (((List Instr) × Int) ⊕ ((List Instr))) :=
sel (decide (s1.2 < (y8.length : Int))) ((nth y8 s1.2).bind fun x1 =>
(spec_l46Lw x1 (w64 (4 + (w64 (4 * s1.2)))) 4).bind fun y12 =>
(app 40 s1.1 [y12]).bind fun r1 =>
some (.inl (r1, w64 (s1.2 + 1)))) <|
some (.inr s1.1)
noncomputable def spec_l46Load : Option ((List Instr)) :=
(spec_l46Lw 6 0 3).bind fun y1 =>
(spec_l46Lw 7 4 3).bind fun y2 =>
(spec_l46If 17 6 7 70 90).bind fun y3 =>
(spec_l46Addi 4 4 64).bind fun y4 =>
(spec_l46Lw 5 12 3).bind fun y5 =>
(spec_l46If 18 4 5 73 75).bind fun y6 =>
(spec_l46Lw 4 8 3).bind fun y7 =>
(spec_l46Saved).bind fun y8 =>
(iter (spec_l46Load_b1 y8) ([y1, y2, y3, y4, y5, y6, y7], 0)).bind fun y9 =>
(spec_l46Lw 5 0 4).bind fun y13 =>
(spec_l46Back 5).bind fun y14 =>
(app 40 y9 [y13, y14]).bind fun r2 =>
some r2
noncomputable def spec_l46Code : Option ((List Instr)) :=
(spec_l46Entry).bind fun y1 =>
(spec_l46Send).bind fun y2 =>
(app 40 y1 y2).bind fun r1 =>
(spec_l46Recv).bind fun y3 =>
(app 40 r1 y3).bind fun r2 =>
(spec_l46Other).bind fun y4 =>
(app 40 r2 y4).bind fun r3 =>
(spec_l46Save).bind fun y5 =>
(app 40 r3 y5).bind fun r4 =>
(spec_l46Load).bind fun y6 =>
(app 40 r4 y6).bind fun r5 =>
(spec_l46Addi 17 0 0).bind fun y7 =>
(app 40 r5 [y7, (Instr.mk 21 0 0 0 0)]).bind fun r6 =>
some r6
noncomputable def spec_RuntimeInstr (a0 : Int) : Option (Instr × Bool) :=
(spec_l6In a0 0 91).bind fun y1 =>
sel (!y1) (some ((Instr.mk 0 0 0 0 0), false)) <|
(spec_l46Code).bind fun y2 =>
(nth y2 a0).bind fun x1 =>
some (x1, true)
def impl_addi (a0 : Int) (a1 : Int) (a2 : Int) : Option (Instr) :=
some (Instr.mk 12 a0 a1 0 a2)
def impl_branch (a0 : Int) (a1 : Int) (a2 : Int) (a3 : Int) (a4 : Int) : Option (Instr) :=
some (Instr.mk a0 0 a2 a3 (w64 (4 * (w64 (a4 - a1)))))
def impl_jumpTo (a0 : Int) (a1 : Int) : Option (Instr) :=
some (Instr.mk 20 0 0 0 (w64 (4 * (w64 (a1 - a0)))))
def impl_three (a0 : Int) (a1 : Int) (a2 : Int) (a3 : Int) : Option (Instr) :=
some (Instr.mk a0 a1 a2 a3 0)
def impl_lw (a0 : Int) (a1 : Int) (a2 : Int) : Option (Instr) :=
some (Instr.mk 14 a0 a2 0 a1)
def impl_sw (a0 : Int) (a1 : Int) (a2 : Int) : Option (Instr) :=
some (Instr.mk 16 0 a2 a0 a1)
def impl_back (a0 : Int) : Option (Instr) :=
some (Instr.mk 15 0 a0 0 0)
def impl_runtimeList_b1 (s1 : (List Instr) × Int) : Option (((List Instr) × Int) ⊕ ((List Instr))) :=
sel (decide (s1.2 < 13)) ((nth savedRegs s1.2).bind fun x1 =>
(impl_sw x1 (w64 ((w64 (4 * s1.2)) + 4)) 4).bind fun y58 =>
(app 40 s1.1 [y58]).bind fun r1 =>
some (.inl (r1, w64 (s1.2 + 1)))) <|
some (.inr s1.1)
def impl_runtimeList_b2 (s2 : (List Instr) × Int) : Option (((List Instr) × Int) ⊕ ((List Instr))) :=
sel (decide (s2.2 < 13)) ((nth savedRegs s2.2).bind fun x2 =>
(impl_lw x2 (w64 ((w64 (4 * s2.2)) + 4)) 4).bind fun y69 =>
(app 40 s2.1 [y69]).bind fun r3 =>
some (.inl (r3, w64 (s2.2 + 1)))) <|
some (.inr s2.1)
noncomputable def impl_runtimeList : Option ((List Instr)) :=
(impl_addi 5 0 1).bind fun y1 =>
(impl_branch 17 1 17 5 9).bind fun y2 =>
(impl_addi 5 0 2).bind fun y3 =>
(impl_branch 17 3 17 5 26).bind fun y4 =>
(impl_addi 5 0 3).bind fun y5 =>
(impl_branch 17 5 17 5 47).bind fun y6 =>
(impl_addi 5 0 4).bind fun y7 =>
(impl_branch 17 7 17 5 44).bind fun y8 =>
(impl_jumpTo 8 50).bind fun y9 =>
(impl_addi 5 0 5).bind fun y10 =>
(impl_three 9 6 11 5).bind fun y11 =>
(impl_three 1 6 6 3).bind fun y12 =>
(impl_lw 7 24 6).bind fun y13 =>
(impl_lw 28 16 6).bind fun y14 =>
(impl_branch 17 14 7 28 50).bind fun y15 =>
(impl_lw 29 20 6).bind fun y16 =>
(impl_three 1 29 29 7).bind fun y17 =>
(impl_three 5 29 29 28).bind fun y18 =>
(impl_addi 5 0 2).bind fun y19 =>
(impl_three 9 29 29 5).bind fun y20 =>
(impl_three 1 29 29 6).bind fun y21 =>
(impl_sw 10 32 29).bind fun y22 =>
(impl_addi 7 7 1).bind fun y23 =>
(impl_sw 7 24 6).bind fun y24 =>
(impl_sw 0 0 3).bind fun y25 =>
(impl_back 1).bind fun y26 =>
(impl_addi 5 0 5).bind fun y27 =>
(impl_three 9 6 11 5).bind fun y28 =>
(impl_three 1 6 6 3).bind fun y29 =>
(impl_lw 7 24 6).bind fun y30 =>
(impl_branch 17 30 7 0 50).bind fun y31 =>
(impl_lw 28 16 6).bind fun y32 =>
(impl_lw 29 20 6).bind fun y33 =>
(impl_addi 5 0 2).bind fun y34 =>
(impl_three 9 30 29 5).bind fun y35 =>
(impl_three 1 30 30 6).bind fun y36 =>
(impl_lw 10 32 30).bind fun y37 =>
(impl_addi 29 29 1).bind fun y38 =>
(impl_three 5 29 29 28).bind fun y39 =>
(impl_sw 29 20 6).bind fun y40 =>
(impl_addi 7 7 (-1)).bind fun y41 =>
(impl_sw 7 24 6).bind fun y42 =>
(impl_sw 0 0 3).bind fun y43 =>
(impl_back 1).bind fun y44 =>
(impl_sw 0 0 3).bind fun y45 =>
(impl_back 1).bind fun y46 =>
(impl_addi 5 1 0).bind fun y47 =>
(impl_sw 0 0 3).bind fun y48 =>
(impl_jumpTo 49 54).bind fun y49 =>
(impl_addi 5 0 0).bind fun y50 =>
(impl_lw 6 0 3).bind fun y51 =>
(impl_addi 6 6 1).bind fun y52 =>
(impl_sw 6 0 3).bind fun y53 =>
(impl_sw 5 0 4).bind fun y54 =>
(iter (impl_runtimeList_b1) ([y1, y2, y3, y4, y5, y6, y7, y8, y9, y10, y11, y12, y13, y14, y15, y16, y17, y18, y19, y20, y21, y22, y23, y24, y25, y26, y27, y28, y29, y30, y31, y32, y33, y34, y35, y36, y37, y38, y39, y40, y41, y42, y43, y44, (Instr.mk 21 0 0 0 0), y45, y46, y47, y48, y49, y50, y51, y52, y53, y54], 0)).bind fun y55 =>
(impl_lw 6 0 3).bind fun y59 =>
(impl_lw 7 4 3).bind fun y60 =>
(impl_branch 17 70 6 7 90).bind fun y61 =>
(impl_addi 4 4 64).bind fun y62 =>
(impl_lw 5 12 3).bind fun y63 =>
(impl_branch 18 73 4 5 75).bind fun y64 =>
(impl_lw 4 8 3).bind fun y65 =>
(app 40 y55 [y59, y60, y61, y62, y63, y64, y65]).bind fun r2 =>
(iter (impl_runtimeList_b2) (r2, 0)).bind fun y66 =>
(impl_lw 5 0 4).bind fun y70 =>
(impl_back 5).bind fun y71 =>
(impl_addi 17 0 0).bind fun y72 =>
(app 40 y66 [y70, y71, y72, (Instr.mk 21 0 0 0 0)]).bind fun r4 =>
some r4
noncomputable def impl_RuntimeInstr (a0 : Int) : Option (Instr × Bool) :=
(impl_runtimeList).bind fun y1 =>
sel ((decide (a0 < 0)) || (decide (a0 ≥ (y1.length : Int)))) (some ((Instr.mk 0 0 0 0 0), false)) <|
(nth y1 a0).bind fun x1 =>
some (x1, true)
def laws_eqInstr (a0 : Instr) (a1 : Instr) : Option (Bool) :=
sel (a0.Op != a1.Op) (some false) <|
sel (a0.Rd != a1.Rd) (some false) <|
sel (a0.Rs != a1.Rs) (some false) <|
sel (a0.Rt != a1.Rt) (some false) <|
sel (a0.Imm != a1.Imm) (some false) <|
some true
noncomputable def laws_FnExactRuntimeInstr (a0 : Int) : Option (Bool) :=
(spec_RuntimeInstr a0).bind fun y1 =>
(impl_RuntimeInstr a0).bind fun y2 =>
(laws_eqInstr y2.1 y1.1).bind fun y3 =>
sel ((!y3) || (y2.2 != y1.2)) (some false) <|
some true
def spec_l6Open (a0 : List Int) : Option (L6Rd) :=
(sel (decide ((a0.length : Int) > 2000)) ((cut a0 0 2000).bind fun r1 =>
some r1) <|
some a0 : Option ((List Int))).bind fun y1 =>
some (L6Rd.mk y1 0)
def spec_l6Rd_pick (a0 : L6Rd) (a1 : Int) : Option (Int × Int) :=
sel ((decide (a1 < 1)) || ((a0.b.length : Int) == 0)) (some (0, w64 (a0.p + 1))) <|
sel (decide ((w64 ((w64 (a0.p + 1)) - 1)) < (a0.b.length : Int))) ((nth a0.b (w64 ((w64 (a0.p + 1)) - 1))).bind fun x1 =>
(remO (w64 (x1)) a1).bind fun d1 =>
some (d1, w64 (a0.p + 1))) <|
(remO (w64 ((w64 (a0.p + 1)) - 1)) (a0.b.length : Int)).bind fun d2 =>
(nth a0.b d2).bind fun x2 =>
(remO (w64 ((w64 ((w64 ((w64 (a0.p + 1)) - 1)) * 7)) + 3)) (a0.b.length : Int)).bind fun d3 =>
(nth a0.b d3).bind fun x3 =>
(quoO .i64 (w64 ((w64 (a0.p + 1)) - 1)) (a0.b.length : Int)).bind fun d4 =>
(remO (bitsI .xor .i64 (w64 ((w64 ((w64 ((w64 ((w64 (x2)) * 131)) + (w64 ((w64 (x3)) * 1117)))) + (w64 ((w64 ((w64 (a0.p + 1)) - 1)) * 29)))) + (w64 (d4 * 53)))) (w64 (Int.tdiv (w64 ((w64 ((w64 ((w64 ((w64 (x2)) * 131)) + (w64 ((w64 (x3)) * 1117)))) + (w64 ((w64 ((w64 (a0.p + 1)) - 1)) * 29)))) + (w64 (d4 * 53)))) 64))) a1).bind fun d5 =>
some (d5, w64 (a0.p + 1))
def spec_DrawRuntimeInstr (a0 : List Int) : Option (Int) :=
(spec_l6Open a0).bind fun y1 =>
(spec_l6Rd_pick (L6Rd.mk y1.b y1.p) 95).bind fun y2 =>
some (w64 (y2.1 - 1))
noncomputable def laws_FnRuntimeEnd (a0 : List Int) : Option (Bool) :=
sel (decide ((a0.length : Int) > 1048576)) (some true) <|
(spec_DrawRuntimeInstr a0).bind fun y1 =>
(impl_RuntimeInstr y1).bind fun y2 =>
(spec_RuntimeInstr y1).bind fun y3 =>
sel (((y2.2 != y3.2) || (!((y2.1.Op == y3.1.Op) && ((y2.1.Rd == y3.1.Rd) && ((y2.1.Rs == y3.1.Rs) && ((y2.1.Rt == y3.1.Rt) && ((y2.1.Imm == y3.1.Imm) && true))))))) || (!y2.2)) (some ((y2.2 == y3.2) && ((y2.1.Op == y3.1.Op) && ((y2.1.Rd == y3.1.Rd) && ((y2.1.Rs == y3.1.Rs) && ((y2.1.Rt == y3.1.Rt) && ((y2.1.Imm == y3.1.Imm) && true))))))) <|
(impl_RuntimeInstr (w64 (92 + y1))).bind fun y4 =>
some ((!y4.2) && ((y2.1.Op == 21) == ((y1 == 44) || (y1 == 91))))
noncomputable def laws_FnRuntimeIdle (a0 : List Int) : Option (Bool) :=
sel (decide ((a0.length : Int) > 1048576)) (some true) <|
(spec_DrawRuntimeInstr a0).bind fun y1 =>
(impl_RuntimeInstr y1).bind fun y2 =>
(spec_RuntimeInstr y1).bind fun y3 =>
sel (((y2.2 != y3.2) || (!((y2.1.Op == y3.1.Op) && ((y2.1.Rd == y3.1.Rd) && ((y2.1.Rs == y3.1.Rs) && ((y2.1.Rt == y3.1.Rt) && ((y2.1.Imm == y3.1.Imm) && true))))))) || (!y2.2)) (some ((y2.2 == y3.2) && ((y2.1.Op == y3.1.Op) && ((y2.1.Rd == y3.1.Rd) && ((y2.1.Rs == y3.1.Rs) && ((y2.1.Rt == y3.1.Rt) && ((y2.1.Imm == y3.1.Imm) && true))))))) <|
some (((!((y2.1.Op == 16) && (y2.1.Rt == 0))) || ((y2.1.Rs == 3) && (y2.1.Imm == 0))) && (((!((y2.1.Op == 14) && (y2.1.Imm == 0))) || (y2.1.Rs == 3)) || (y2.1.Rs == 4)))
noncomputable def laws_FnRuntimeRegs (a0 : List Int) : Option (Bool) :=
sel (decide ((a0.length : Int) > 1048576)) (some true) <|
(spec_DrawRuntimeInstr a0).bind fun y1 =>
(impl_RuntimeInstr y1).bind fun y2 =>
(spec_RuntimeInstr y1).bind fun y3 =>
sel (((y2.2 != y3.2) || (!((y2.1.Op == y3.1.Op) && ((y2.1.Rd == y3.1.Rd) && ((y2.1.Rs == y3.1.Rs) && ((y2.1.Rt == y3.1.Rt) && ((y2.1.Imm == y3.1.Imm) && true))))))) || (!y2.2)) (some ((y2.2 == y3.2) && ((y2.1.Op == y3.1.Op) && ((y2.1.Rd == y3.1.Rd) && ((y2.1.Rs == y3.1.Rs) && ((y2.1.Rt == y3.1.Rt) && ((y2.1.Imm == y3.1.Imm) && true))))))) <|
some ((((((y2.1.Op != 16) || (y2.1.Rs == 3)) || (y2.1.Rs == 4)) || (y2.1.Rs == 6)) || (y2.1.Rs == 29)) && ((!(((y2.1.Op != 16) && (y2.1.Op != 17)) && (y2.1.Op != 18))) || ((y2.1.Rd != 3) && (((y2.1.Rd != 4) || (y1 == 71)) || (y1 == 74)))))
def impl_isMachineReg (a0 : Int) : Option (Bool) :=
some ((decide (a0 ≥ 0)) && (decide (a0 < 32)))
def impl_formatOf (a0 : Int) : Option (Int) :=
sel ((decide (a0 ≥ 1)) && (decide (a0 ≤ 11))) (some 82) <|
sel ((decide (a0 ≥ 12)) && (decide (a0 ≤ 15))) (some 73) <|
sel (a0 == 16) (some 83) <|
sel ((a0 == 17) || (a0 == 18)) (some 66) <|
sel (a0 == 19) (some 85) <|
sel (a0 == 20) (some 74) <|
sel (a0 == 21) (some 69) <|
some 32
def impl_InstrValid (a0 : Instr) : Option (Bool) :=
(impl_isMachineReg a0.Rd).bind fun y1 =>
(impl_isMachineReg a0.Rs).bind fun y2 =>
(impl_isMachineReg a0.Rt).bind fun y3 =>
(impl_formatOf a0.Op).bind fun y4 =>
sel (y4 == 82) (some (((y1 && y2) && y3) && (a0.Imm == 0))) <|
sel (y4 == 73) (some (((y1 && y2) && (a0.Rt == 0)) && ((decide (a0.Imm ≥ (-2048))) && (decide (a0.Imm ≤ 2047))))) <|
sel (y4 == 83) (some ((((a0.Rd == 0) && y2) && y3) && ((decide (a0.Imm ≥ (-2048))) && (decide (a0.Imm ≤ 2047))))) <|
sel (y4 == 66) (some ((((((a0.Rd == 0) && y2) && y3) && (decide (a0.Imm ≥ (-4096)))) && (decide (a0.Imm ≤ 4094))) && ((Int.tmod a0.Imm 2) == 0))) <|
sel (y4 == 85) (some ((((y1 && (a0.Rs == 0)) && (a0.Rt == 0)) && (decide (a0.Imm ≥ 0))) && (decide (a0.Imm ≤ 1048575)))) <|
sel (y4 == 74) (some (((((y1 && (a0.Rs == 0)) && (a0.Rt == 0)) && (decide (a0.Imm ≥ (-1048576)))) && (decide (a0.Imm ≤ 1048574))) && ((Int.tmod a0.Imm 2) == 0))) <|
sel (y4 == 69) (some ((a0.Op == 21) && ((a0.Rd == 0) && ((a0.Rs == 0) && ((a0.Rt == 0) && ((a0.Imm == 0) && true)))))) <|
some false
noncomputable def laws_FnRuntime (a0 : List Int) : Option (Bool) :=
sel (decide ((a0.length : Int) > 1048576)) (some true) <|
(spec_DrawRuntimeInstr a0).bind fun y1 =>
(impl_RuntimeInstr y1).bind fun y2 =>
(spec_RuntimeInstr y1).bind fun y3 =>
sel (((y2.2 != y3.2) || (!((y2.1.Op == y3.1.Op) && ((y2.1.Rd == y3.1.Rd) && ((y2.1.Rs == y3.1.Rs) && ((y2.1.Rt == y3.1.Rt) && ((y2.1.Imm == y3.1.Imm) && true))))))) || (!y2.2)) (some ((y2.2 == y3.2) && ((y2.1.Op == y3.1.Op) && ((y2.1.Rd == y3.1.Rd) && ((y2.1.Rs == y3.1.Rs) && ((y2.1.Rt == y3.1.Rt) && ((y2.1.Imm == y3.1.Imm) && true))))))) <|
(impl_InstrValid y2.1).bind fun y4 =>
some (y4 && ((!(((y2.1.Op == 17) || (y2.1.Op == 18)) || (y2.1.Op == 20))) || ((((Int.tmod y2.1.Imm 4) == 0) && (decide ((w64 (y1 + (w64 (Int.tdiv y2.1.Imm 4)))) ≥ 0))) && (decide ((w64 (y1 + (w64 (Int.tdiv y2.1.Imm 4)))) < 92)))))
noncomputable def laws_FnRuntimeSave (a0 : List Int) : Option (Bool) :=
sel (decide ((a0.length : Int) > 1048576)) (some true) <|
(spec_DrawRuntimeInstr a0).bind fun y1 =>
(impl_RuntimeInstr y1).bind fun y2 =>
(spec_RuntimeInstr y1).bind fun y3 =>
sel (((y2.2 != y3.2) || (!((y2.1.Op == y3.1.Op) && ((y2.1.Rd == y3.1.Rd) && ((y2.1.Rs == y3.1.Rs) && ((y2.1.Rt == y3.1.Rt) && ((y2.1.Imm == y3.1.Imm) && true))))))) || (!y2.2)) (some ((y2.2 == y3.2) && ((y2.1.Op == y3.1.Op) && ((y2.1.Rd == y3.1.Rd) && ((y2.1.Rs == y3.1.Rs) && ((y2.1.Rt == y3.1.Rt) && ((y2.1.Imm == y3.1.Imm) && true))))))) <|
sel ((decide (y1 < 55)) || (decide (y1 > 67))) ((impl_InstrValid y2.1).bind fun y4 =>
some y4) <|
(impl_RuntimeInstr (w64 (y1 + 20))).bind fun y5 =>
some ((((y5.2 && (y2.1.Op == 16)) && (y2.1.Rs == 4)) && (y2.1.Imm == (w64 (4 * (w64 (y1 - 54)))))) && ((y5.1.Op == 14) && ((y5.1.Rd == y2.1.Rt) && ((y5.1.Rs == 4) && ((y5.1.Rt == 0) && ((y5.1.Imm == y2.1.Imm) && true))))))

theorem spec_l6In_ok {a0 : Int} {a1 : Int} {a2 : Int} {w : World} {r : Bool} (h : spec_l6In a0 a1 a2 = some r) : Calls Tryd.prog 14 #[.int .i64 a0, .int .i64 a1, .int .i64 a2] w (Ret No w (fun s : Unit => .bool r) (fun s => [])) := by
  unfold spec_l6In at h
  refine enter Tryd.func14 rfl rfl ?_
  have hS := Sep.start w
  refine .seq ?_
  refine .region ?_
  refine .p rfl rfl rfl ?_
  refine .nil ?_
  refine .seq ?_
  refine .region ?_
  refine .p rfl rfl rfl ?_
  refine .p rfl rfl rfl ?_
  refine .p rfl rfl rfl ?_
  refine .p rfl rfl rfl ?_
  refine .chunk 4 14 ((decide (a0 ≥ a1)) && (decide (a0 ≤ a2))) hS ?_ ?_
  · refine .both (decide (a0 ≥ a1)) (fun hb => ?_) (fun hb => ?_)
    · have hg1 := hb
      refine .g hg1 (.p rfl rfl rfl ?_) rfl
      refine .g hg1 (.p rfl rfl rfl ?_) rfl
      refine .g hg1 (.p rfl rfl rfl ?_) rfl
      refine .r (pkt hg1 rfl rfl rfl) ?_ rfl rfl
      exact .nil (ck 4 hS rfl (and_t hg1) rfl rfl)
    · skip
      refine .x hb ?_ rfl rfl
      refine .x hb ?_ rfl rfl
      refine .x hb ?_ rfl rfl
      refine .r (pkf hb rfl rfl rfl) ?_ rfl rfl
      exact .nil (ck 4 hS rfl (and_f hb) rfl rfl)
  intro W hS
  refine .p rfl rfl rfl ?_
  refine .nil ?_
  refine .ret ?_
  cases h
  exact fin_ret (vs := [_]) () (rt rfl rn) rfl (hS.to [] rfl)
theorem spec_l46Addi_ok {a0 : Int} {a1 : Int} {a2 : Int} {w : World} {r : Instr} (h : spec_l46Addi a0 a1 a2 = some r) : Calls Tryd.prog 27 #[.int .i64 a0, .int .i64 a1, .int .i64 a2] w (Ret No w (fun s : Unit => .agg #[.int .i64 r.Op, .int .i64 r.Rd, .int .i64 r.Rs, .int .i64 r.Rt, .int .i64 r.Imm]) (fun s => [])) := by
  unfold spec_l46Addi at h
  refine enter Tryd.func27 rfl rfl ?_
  have hS := Sep.start w
  refine .seq ?_
  refine .region ?_
  refine .c (.alloc T.t23 hS ?_ rfl rfl rfl)
  intro g1 W hS
  refine .nil ?_
  refine .seq ?_
  refine .region ?_
  refine .p rfl rfl rfl ?_
  refine .p rfl rfl rfl ?_
  refine .p rfl rfl rfl ?_
  refine .r (bs T.s23 rfl rfl) ?_ rfl rfl
  refine .c (.st T.t23 hS rfl rfl rfl ?_ rfl rfl rfl rfl rfl)
  intro W hS
  refine .nil ?_
  refine .ret ?_
  cases h
  exact fin_ret (vs := [_]) () (rc hS T.t23 rfl rn rfl rfl) rfl (hS.to [] rfl)
theorem spec_l46If_ok {a0 : Int} {a1 : Int} {a2 : Int} {a3 : Int} {a4 : Int} {w : World} {r : Instr} (h : spec_l46If a0 a1 a2 a3 a4 = some r) : Calls Tryd.prog 35 #[.int .i64 a0, .int .i64 a1, .int .i64 a2, .int .i64 a3, .int .i64 a4] w (Ret No w (fun s : Unit => .agg #[.int .i64 r.Op, .int .i64 r.Rd, .int .i64 r.Rs, .int .i64 r.Rt, .int .i64 r.Imm]) (fun s => [])) := by
  unfold spec_l46If at h
  refine enter Tryd.func35 rfl rfl ?_
  have hS := Sep.start w
  refine .seq ?_
  refine .region ?_
  refine .c (.alloc T.t23 hS ?_ rfl rfl rfl)
  intro g1 W hS
  refine .nil ?_
  refine .seq ?_
  refine .region ?_
  refine .p rfl rfl rfl ?_
  refine .p rfl rfl rfl ?_
  refine .p rfl rfl rfl ?_
  refine .p rfl rfl rfl ?_
  refine .p rfl rfl rfl ?_
  refine .p rfl rfl rfl ?_
  refine .p rfl rfl rfl ?_
  refine .r (bs T.s23 rfl rfl) ?_ rfl rfl
  refine .c (.st T.t23 hS rfl rfl rfl ?_ rfl rfl rfl rfl rfl)
  intro W hS
  refine .nil ?_
  refine .ret ?_
  cases h
  exact fin_ret (vs := [_]) () (rc hS T.t23 rfl rn rfl rfl) rfl (hS.to [] rfl)
theorem spec_l46To_ok {a0 : Int} {a1 : Int} {w : World} {r : Instr} (h : spec_l46To a0 a1 = some r) : Calls Tryd.prog 36 #[.int .i64 a0, .int .i64 a1] w (Ret No w (fun s : Unit => .agg #[.int .i64 r.Op, .int .i64 r.Rd, .int .i64 r.Rs, .int .i64 r.Rt, .int .i64 r.Imm]) (fun s => [])) := by
  unfold spec_l46To at h
  refine enter Tryd.func36 rfl rfl ?_
  have hS := Sep.start w
  refine .seq ?_
  refine .region ?_
  refine .c (.alloc T.t23 hS ?_ rfl rfl rfl)
  intro g1 W hS
  refine .nil ?_
  refine .seq ?_
  refine .region ?_
  refine .p rfl rfl rfl ?_
  refine .p rfl rfl rfl ?_
  refine .p rfl rfl rfl ?_
  refine .p rfl rfl rfl ?_
  refine .r (bs T.s23 rfl rfl) ?_ rfl rfl
  refine .c (.st T.t23 hS rfl rfl rfl ?_ rfl rfl rfl rfl rfl)
  intro W hS
  refine .nil ?_
  refine .ret ?_
  cases h
  exact fin_ret (vs := [_]) () (rc hS T.t23 rfl rn rfl rfl) rfl (hS.to [] rfl)
theorem spec_l46Entry_ok {w : World} {r : (List Instr)} (h : spec_l46Entry = some r) : Calls Tryd.prog 21 #[] w (Ret No w (fun s : SV => .slice s.1 (r).length s.2) (fun s => [rowE s.1 s.2 23 5 dInstr r])) := by
  unfold spec_l46Entry at h
  refine enter Tryd.func21 rfl rfl ?_
  have hS := Sep.start w
  refine .seq ?_
  refine .region ?_
  refine .p rfl rfl rfl ?_
  refine .nil ?_
  refine .seq ?_
  refine .region ?_
  obtain ⟨y1, hy1, h⟩ := bnd h
  refine .c (.call0 hS Tryd.func27 (spec_l46Addi_ok hy1) rfl rfl ?_ rfl (by kernel_rfl) rfl rfl)
  intro W hS
  obtain ⟨y2, hy2, h⟩ := bnd h
  refine .c (.call0 hS Tryd.func35 (spec_l46If_ok hy2) rfl rfl ?_ rfl (by kernel_rfl) rfl rfl)
  intro W hS
  obtain ⟨y3, hy3, h⟩ := bnd h
  refine .c (.call0 hS Tryd.func27 (spec_l46Addi_ok hy3) rfl rfl ?_ rfl (by kernel_rfl) rfl rfl)
  intro W hS
  obtain ⟨y4, hy4, h⟩ := bnd h
  refine .c (.call0 hS Tryd.func35 (spec_l46If_ok hy4) rfl rfl ?_ rfl (by kernel_rfl) rfl rfl)
  intro W hS
  obtain ⟨y5, hy5, h⟩ := bnd h
  refine .c (.call0 hS Tryd.func27 (spec_l46Addi_ok hy5) rfl rfl ?_ rfl (by kernel_rfl) rfl rfl)
  intro W hS
  obtain ⟨y6, hy6, h⟩ := bnd h
  refine .c (.call0 hS Tryd.func35 (spec_l46If_ok hy6) rfl rfl ?_ rfl (by kernel_rfl) rfl rfl)
  intro W hS
  obtain ⟨y7, hy7, h⟩ := bnd h
  refine .c (.call0 hS Tryd.func27 (spec_l46Addi_ok hy7) rfl rfl ?_ rfl (by kernel_rfl) rfl rfl)
  intro W hS
  obtain ⟨y8, hy8, h⟩ := bnd h
  refine .c (.call0 hS Tryd.func35 (spec_l46If_ok hy8) rfl rfl ?_ rfl (by kernel_rfl) rfl rfl)
  intro W hS
  obtain ⟨y9, hy9, h⟩ := bnd h
  refine .c (.call0 hS Tryd.func36 (spec_l46To_ok hy9) rfl rfl ?_ rfl (by kernel_rfl) rfl rfl)
  intro W hS
  refine .c (.li [y1, y2, y3, y4, y5, y6, y7, y8, y9] dInstr T.u33 T.t23 hS rfl rfl rfl rfl ?_ rfl (fun _ => rfl) rfl rfl rfl rfl)
  intro A1 c1 W hS
  refine .p rfl rfl rfl ?_
  refine .nil ?_
  refine .ret ?_
  cases h
  exact fin_ret (vs := [_]) (A1, c1) (rt rfl rn) rfl (hS.to [0] rfl)
theorem spec_l46R_ok {a0 : Int} {a1 : Int} {a2 : Int} {a3 : Int} {w : World} {r : Instr} (h : spec_l46R a0 a1 a2 a3 = some r) : Calls Tryd.prog 37 #[.int .i64 a0, .int .i64 a1, .int .i64 a2, .int .i64 a3] w (Ret No w (fun s : Unit => .agg #[.int .i64 r.Op, .int .i64 r.Rd, .int .i64 r.Rs, .int .i64 r.Rt, .int .i64 r.Imm]) (fun s => [])) := by
  unfold spec_l46R at h
  refine enter Tryd.func37 rfl rfl ?_
  have hS := Sep.start w
  refine .seq ?_
  refine .region ?_
  refine .c (.alloc T.t23 hS ?_ rfl rfl rfl)
  intro g1 W hS
  refine .nil ?_
  refine .seq ?_
  refine .region ?_
  refine .p rfl rfl rfl ?_
  refine .p rfl rfl rfl ?_
  refine .p rfl rfl rfl ?_
  refine .p rfl rfl rfl ?_
  refine .r (bs T.s23 rfl rfl) ?_ rfl rfl
  refine .c (.st T.t23 hS rfl rfl rfl ?_ rfl rfl rfl rfl rfl)
  intro W hS
  refine .nil ?_
  refine .ret ?_
  cases h
  exact fin_ret (vs := [_]) () (rc hS T.t23 rfl rn rfl rfl) rfl (hS.to [] rfl)
theorem spec_l46Lw_ok {a0 : Int} {a1 : Int} {a2 : Int} {w : World} {r : Instr} (h : spec_l46Lw a0 a1 a2 = some r) : Calls Tryd.prog 38 #[.int .i64 a0, .int .i64 a1, .int .i64 a2] w (Ret No w (fun s : Unit => .agg #[.int .i64 r.Op, .int .i64 r.Rd, .int .i64 r.Rs, .int .i64 r.Rt, .int .i64 r.Imm]) (fun s => [])) := by
  unfold spec_l46Lw at h
  refine enter Tryd.func38 rfl rfl ?_
  have hS := Sep.start w
  refine .seq ?_
  refine .region ?_
  refine .c (.alloc T.t23 hS ?_ rfl rfl rfl)
  intro g1 W hS
  refine .nil ?_
  refine .seq ?_
  refine .region ?_
  refine .p rfl rfl rfl ?_
  refine .p rfl rfl rfl ?_
  refine .p rfl rfl rfl ?_
  refine .r (bs T.s23 rfl rfl) ?_ rfl rfl
  refine .c (.st T.t23 hS rfl rfl rfl ?_ rfl rfl rfl rfl rfl)
  intro W hS
  refine .nil ?_
  refine .ret ?_
  cases h
  exact fin_ret (vs := [_]) () (rc hS T.t23 rfl rn rfl rfl) rfl (hS.to [] rfl)
theorem spec_l46Sw_ok {a0 : Int} {a1 : Int} {a2 : Int} {w : World} {r : Instr} (h : spec_l46Sw a0 a1 a2 = some r) : Calls Tryd.prog 39 #[.int .i64 a0, .int .i64 a1, .int .i64 a2] w (Ret No w (fun s : Unit => .agg #[.int .i64 r.Op, .int .i64 r.Rd, .int .i64 r.Rs, .int .i64 r.Rt, .int .i64 r.Imm]) (fun s => [])) := by
  unfold spec_l46Sw at h
  refine enter Tryd.func39 rfl rfl ?_
  have hS := Sep.start w
  refine .seq ?_
  refine .region ?_
  refine .c (.alloc T.t23 hS ?_ rfl rfl rfl)
  intro g1 W hS
  refine .nil ?_
  refine .seq ?_
  refine .region ?_
  refine .p rfl rfl rfl ?_
  refine .p rfl rfl rfl ?_
  refine .p rfl rfl rfl ?_
  refine .r (bs T.s23 rfl rfl) ?_ rfl rfl
  refine .c (.st T.t23 hS rfl rfl rfl ?_ rfl rfl rfl rfl rfl)
  intro W hS
  refine .nil ?_
  refine .ret ?_
  cases h
  exact fin_ret (vs := [_]) () (rc hS T.t23 rfl rn rfl rfl) rfl (hS.to [] rfl)
theorem spec_l46Back_ok {a0 : Int} {w : World} {r : Instr} (h : spec_l46Back a0 = some r) : Calls Tryd.prog 40 #[.int .i64 a0] w (Ret No w (fun s : Unit => .agg #[.int .i64 r.Op, .int .i64 r.Rd, .int .i64 r.Rs, .int .i64 r.Rt, .int .i64 r.Imm]) (fun s => [])) := by
  unfold spec_l46Back at h
  refine enter Tryd.func40 rfl rfl ?_
  have hS := Sep.start w
  refine .seq ?_
  refine .region ?_
  refine .c (.alloc T.t23 hS ?_ rfl rfl rfl)
  intro g1 W hS
  refine .nil ?_
  refine .seq ?_
  refine .region ?_
  refine .p rfl rfl rfl ?_
  refine .r (bs T.s23 rfl rfl) ?_ rfl rfl
  refine .c (.st T.t23 hS rfl rfl rfl ?_ rfl rfl rfl rfl rfl)
  intro W hS
  refine .nil ?_
  refine .ret ?_
  cases h
  exact fin_ret (vs := [_]) () (rc hS T.t23 rfl rn rfl rfl) rfl (hS.to [] rfl)
theorem spec_l46Send_ok {w : World} {r : (List Instr)} (h : spec_l46Send = some r) : Calls Tryd.prog 22 #[] w (Ret No w (fun s : SV => .slice s.1 (r).length s.2) (fun s => [rowE s.1 s.2 23 5 dInstr r])) := by
  unfold spec_l46Send at h
  refine enter Tryd.func22 rfl rfl ?_
  have hS := Sep.start w
  refine .seq ?_
  refine .region ?_
  refine .p rfl rfl rfl ?_
  refine .nil ?_
  refine .seq ?_
  refine .region ?_
  obtain ⟨y1, hy1, h⟩ := bnd h
  refine .c (.call0 hS Tryd.func27 (spec_l46Addi_ok hy1) rfl rfl ?_ rfl (by kernel_rfl) rfl rfl)
  intro W hS
  obtain ⟨y2, hy2, h⟩ := bnd h
  refine .c (.call0 hS Tryd.func37 (spec_l46R_ok hy2) rfl rfl ?_ rfl (by kernel_rfl) rfl rfl)
  intro W hS
  obtain ⟨y3, hy3, h⟩ := bnd h
  refine .c (.call0 hS Tryd.func37 (spec_l46R_ok hy3) rfl rfl ?_ rfl (by kernel_rfl) rfl rfl)
  intro W hS
  obtain ⟨y4, hy4, h⟩ := bnd h
  refine .c (.call0 hS Tryd.func38 (spec_l46Lw_ok hy4) rfl rfl ?_ rfl (by kernel_rfl) rfl rfl)
  intro W hS
  obtain ⟨y5, hy5, h⟩ := bnd h
  refine .c (.call0 hS Tryd.func38 (spec_l46Lw_ok hy5) rfl rfl ?_ rfl (by kernel_rfl) rfl rfl)
  intro W hS
  obtain ⟨y6, hy6, h⟩ := bnd h
  refine .c (.call0 hS Tryd.func35 (spec_l46If_ok hy6) rfl rfl ?_ rfl (by kernel_rfl) rfl rfl)
  intro W hS
  obtain ⟨y7, hy7, h⟩ := bnd h
  refine .c (.call0 hS Tryd.func38 (spec_l46Lw_ok hy7) rfl rfl ?_ rfl (by kernel_rfl) rfl rfl)
  intro W hS
  obtain ⟨y8, hy8, h⟩ := bnd h
  refine .c (.call0 hS Tryd.func37 (spec_l46R_ok hy8) rfl rfl ?_ rfl (by kernel_rfl) rfl rfl)
  intro W hS
  obtain ⟨y9, hy9, h⟩ := bnd h
  refine .c (.call0 hS Tryd.func37 (spec_l46R_ok hy9) rfl rfl ?_ rfl (by kernel_rfl) rfl rfl)
  intro W hS
  obtain ⟨y10, hy10, h⟩ := bnd h
  refine .c (.call0 hS Tryd.func27 (spec_l46Addi_ok hy10) rfl rfl ?_ rfl (by kernel_rfl) rfl rfl)
  intro W hS
  obtain ⟨y11, hy11, h⟩ := bnd h
  refine .c (.call0 hS Tryd.func37 (spec_l46R_ok hy11) rfl rfl ?_ rfl (by kernel_rfl) rfl rfl)
  intro W hS
  obtain ⟨y12, hy12, h⟩ := bnd h
  refine .c (.call0 hS Tryd.func37 (spec_l46R_ok hy12) rfl rfl ?_ rfl (by kernel_rfl) rfl rfl)
  intro W hS
  obtain ⟨y13, hy13, h⟩ := bnd h
  refine .c (.call0 hS Tryd.func39 (spec_l46Sw_ok hy13) rfl rfl ?_ rfl (by kernel_rfl) rfl rfl)
  intro W hS
  obtain ⟨y14, hy14, h⟩ := bnd h
  refine .c (.call0 hS Tryd.func27 (spec_l46Addi_ok hy14) rfl rfl ?_ rfl (by kernel_rfl) rfl rfl)
  intro W hS
  obtain ⟨y15, hy15, h⟩ := bnd h
  refine .c (.call0 hS Tryd.func39 (spec_l46Sw_ok hy15) rfl rfl ?_ rfl (by kernel_rfl) rfl rfl)
  intro W hS
  obtain ⟨y16, hy16, h⟩ := bnd h
  refine .c (.call0 hS Tryd.func39 (spec_l46Sw_ok hy16) rfl rfl ?_ rfl (by kernel_rfl) rfl rfl)
  intro W hS
  obtain ⟨y17, hy17, h⟩ := bnd h
  refine .c (.call0 hS Tryd.func40 (spec_l46Back_ok hy17) rfl rfl ?_ rfl (by kernel_rfl) rfl rfl)
  intro W hS
  refine .c (.li [y1, y2, y3, y4, y5, y6, y7, y8, y9, y10, y11, y12, y13, y14, y15, y16, y17] dInstr T.u33 T.t23 hS rfl rfl rfl rfl ?_ rfl (fun _ => rfl) rfl rfl rfl rfl)
  intro A1 c1 W hS
  refine .p rfl rfl rfl ?_
  refine .nil ?_
  refine .ret ?_
  cases h
  exact fin_ret (vs := [_]) (A1, c1) (rt rfl rn) rfl (hS.to [0] rfl)
theorem spec_l46Recv_ok {w : World} {r : (List Instr)} (h : spec_l46Recv = some r) : Calls Tryd.prog 23 #[] w (Ret No w (fun s : SV => .slice s.1 (r).length s.2) (fun s => [rowE s.1 s.2 23 5 dInstr r])) := by
  unfold spec_l46Recv at h
  refine enter Tryd.func23 rfl rfl ?_
  have hS := Sep.start w
  refine .seq ?_
  refine .region ?_
  refine .p rfl rfl rfl ?_
  refine .nil ?_
  refine .seq ?_
  refine .region ?_
  obtain ⟨y1, hy1, h⟩ := bnd h
  refine .c (.call0 hS Tryd.func27 (spec_l46Addi_ok hy1) rfl rfl ?_ rfl (by kernel_rfl) rfl rfl)
  intro W hS
  obtain ⟨y2, hy2, h⟩ := bnd h
  refine .c (.call0 hS Tryd.func37 (spec_l46R_ok hy2) rfl rfl ?_ rfl (by kernel_rfl) rfl rfl)
  intro W hS
  obtain ⟨y3, hy3, h⟩ := bnd h
  refine .c (.call0 hS Tryd.func37 (spec_l46R_ok hy3) rfl rfl ?_ rfl (by kernel_rfl) rfl rfl)
  intro W hS
  obtain ⟨y4, hy4, h⟩ := bnd h
  refine .c (.call0 hS Tryd.func38 (spec_l46Lw_ok hy4) rfl rfl ?_ rfl (by kernel_rfl) rfl rfl)
  intro W hS
  obtain ⟨y5, hy5, h⟩ := bnd h
  refine .c (.call0 hS Tryd.func35 (spec_l46If_ok hy5) rfl rfl ?_ rfl (by kernel_rfl) rfl rfl)
  intro W hS
  obtain ⟨y6, hy6, h⟩ := bnd h
  refine .c (.call0 hS Tryd.func38 (spec_l46Lw_ok hy6) rfl rfl ?_ rfl (by kernel_rfl) rfl rfl)
  intro W hS
  obtain ⟨y7, hy7, h⟩ := bnd h
  refine .c (.call0 hS Tryd.func38 (spec_l46Lw_ok hy7) rfl rfl ?_ rfl (by kernel_rfl) rfl rfl)
  intro W hS
  obtain ⟨y8, hy8, h⟩ := bnd h
  refine .c (.call0 hS Tryd.func27 (spec_l46Addi_ok hy8) rfl rfl ?_ rfl (by kernel_rfl) rfl rfl)
  intro W hS
  obtain ⟨y9, hy9, h⟩ := bnd h
  refine .c (.call0 hS Tryd.func37 (spec_l46R_ok hy9) rfl rfl ?_ rfl (by kernel_rfl) rfl rfl)
  intro W hS
  obtain ⟨y10, hy10, h⟩ := bnd h
  refine .c (.call0 hS Tryd.func37 (spec_l46R_ok hy10) rfl rfl ?_ rfl (by kernel_rfl) rfl rfl)
  intro W hS
  obtain ⟨y11, hy11, h⟩ := bnd h
  refine .c (.call0 hS Tryd.func38 (spec_l46Lw_ok hy11) rfl rfl ?_ rfl (by kernel_rfl) rfl rfl)
  intro W hS
  obtain ⟨y12, hy12, h⟩ := bnd h
  refine .c (.call0 hS Tryd.func27 (spec_l46Addi_ok hy12) rfl rfl ?_ rfl (by kernel_rfl) rfl rfl)
  intro W hS
  obtain ⟨y13, hy13, h⟩ := bnd h
  refine .c (.call0 hS Tryd.func37 (spec_l46R_ok hy13) rfl rfl ?_ rfl (by kernel_rfl) rfl rfl)
  intro W hS
  obtain ⟨y14, hy14, h⟩ := bnd h
  refine .c (.call0 hS Tryd.func39 (spec_l46Sw_ok hy14) rfl rfl ?_ rfl (by kernel_rfl) rfl rfl)
  intro W hS
  obtain ⟨y15, hy15, h⟩ := bnd h
  refine .c (.call0 hS Tryd.func27 (spec_l46Addi_ok hy15) rfl rfl ?_ rfl (by kernel_rfl) rfl rfl)
  intro W hS
  obtain ⟨y16, hy16, h⟩ := bnd h
  refine .c (.call0 hS Tryd.func39 (spec_l46Sw_ok hy16) rfl rfl ?_ rfl (by kernel_rfl) rfl rfl)
  intro W hS
  obtain ⟨y17, hy17, h⟩ := bnd h
  refine .c (.call0 hS Tryd.func39 (spec_l46Sw_ok hy17) rfl rfl ?_ rfl (by kernel_rfl) rfl rfl)
  intro W hS
  obtain ⟨y18, hy18, h⟩ := bnd h
  refine .c (.call0 hS Tryd.func40 (spec_l46Back_ok hy18) rfl rfl ?_ rfl (by kernel_rfl) rfl rfl)
  intro W hS
  refine .c (.li [y1, y2, y3, y4, y5, y6, y7, y8, y9, y10, y11, y12, y13, y14, y15, y16, y17, y18] dInstr T.u33 T.t23 hS rfl rfl rfl rfl ?_ rfl (fun _ => rfl) rfl rfl rfl rfl)
  intro A1 c1 W hS
  refine .p rfl rfl rfl ?_
  refine .nil ?_
  refine .ret ?_
  cases h
  exact fin_ret (vs := [_]) (A1, c1) (rt rfl rn) rfl (hS.to [0] rfl)
theorem spec_l46Other_ok {w : World} {r : (List Instr)} (h : spec_l46Other = some r) : Calls Tryd.prog 24 #[] w (Ret No w (fun s : SV => .slice s.1 (r).length s.2) (fun s => [rowE s.1 s.2 23 5 dInstr r])) := by
  unfold spec_l46Other at h
  refine enter Tryd.func24 rfl rfl ?_
  have hS := Sep.start w
  refine .seq ?_
  refine .region ?_
  refine .p rfl rfl rfl ?_
  refine .nil ?_
  refine .seq ?_
  refine .region ?_
  refine .r (bs T.s23 rfl rfl) ?_ rfl rfl
  obtain ⟨y1, hy1, h⟩ := bnd h
  refine .c (.call0 hS Tryd.func39 (spec_l46Sw_ok hy1) rfl rfl ?_ rfl (by kernel_rfl) rfl rfl)
  intro W hS
  obtain ⟨y2, hy2, h⟩ := bnd h
  refine .c (.call0 hS Tryd.func40 (spec_l46Back_ok hy2) rfl rfl ?_ rfl (by kernel_rfl) rfl rfl)
  intro W hS
  obtain ⟨y3, hy3, h⟩ := bnd h
  refine .c (.call0 hS Tryd.func27 (spec_l46Addi_ok hy3) rfl rfl ?_ rfl (by kernel_rfl) rfl rfl)
  intro W hS
  obtain ⟨y4, hy4, h⟩ := bnd h
  refine .c (.call0 hS Tryd.func39 (spec_l46Sw_ok hy4) rfl rfl ?_ rfl (by kernel_rfl) rfl rfl)
  intro W hS
  obtain ⟨y5, hy5, h⟩ := bnd h
  refine .c (.call0 hS Tryd.func36 (spec_l46To_ok hy5) rfl rfl ?_ rfl (by kernel_rfl) rfl rfl)
  intro W hS
  obtain ⟨y6, hy6, h⟩ := bnd h
  refine .c (.call0 hS Tryd.func27 (spec_l46Addi_ok hy6) rfl rfl ?_ rfl (by kernel_rfl) rfl rfl)
  intro W hS
  obtain ⟨y7, hy7, h⟩ := bnd h
  refine .c (.call0 hS Tryd.func38 (spec_l46Lw_ok hy7) rfl rfl ?_ rfl (by kernel_rfl) rfl rfl)
  intro W hS
  obtain ⟨y8, hy8, h⟩ := bnd h
  refine .c (.call0 hS Tryd.func27 (spec_l46Addi_ok hy8) rfl rfl ?_ rfl (by kernel_rfl) rfl rfl)
  intro W hS
  obtain ⟨y9, hy9, h⟩ := bnd h
  refine .c (.call0 hS Tryd.func39 (spec_l46Sw_ok hy9) rfl rfl ?_ rfl (by kernel_rfl) rfl rfl)
  intro W hS
  refine .c (.li [(Instr.mk 21 0 0 0 0), y1, y2, y3, y4, y5, y6, y7, y8, y9] dInstr T.u33 T.t23 hS rfl rfl rfl rfl ?_ rfl (fun _ => rfl) rfl rfl rfl rfl)
  intro A1 c1 W hS
  refine .p rfl rfl rfl ?_
  refine .nil ?_
  refine .ret ?_
  cases h
  exact fin_ret (vs := [_]) (A1, c1) (rt rfl rn) rfl (hS.to [0] rfl)
theorem spec_l46Saved_ok {w : World} {r : (List Int)} (h : spec_l46Saved = some r) : Calls Tryd.prog 41 #[] w (Ret No w (fun s : SV => .slice s.1 (r).length s.2) (fun s => [rowE s.1 s.2 3 1 (D.int .i64) r])) := by
  unfold spec_l46Saved at h
  refine enter Tryd.func41 rfl rfl ?_
  have hS := Sep.start w
  refine .seq ?_
  refine .region ?_
  refine .p rfl rfl rfl ?_
  refine .nil ?_
  refine .seq ?_
  refine .region ?_
  refine .c (.li [1, 2, 8, 9, 18, 19, 20, 21, 22, 23, 10, 11, 17] (D.int .i64) T.u47 T.t3 hS rfl rfl rfl rfl ?_ rfl (fun _ => rfl) rfl rfl rfl rfl)
  intro A1 c1 W hS
  refine .p rfl rfl rfl ?_
  refine .nil ?_
  refine .ret ?_
  cases h
  exact fin_ret (vs := [_]) (A1, c1) (rt rfl rn) rfl (hS.to [0] rfl)
theorem spec_l46Save_ok {w : World} {r : (List Instr)} (h : spec_l46Save = some r) : Calls Tryd.prog 25 #[] w (Ret No w (fun s : SV => .slice s.1 (r).length s.2) (fun s => [rowE s.1 s.2 23 5 dInstr r])) := by
  unfold spec_l46Save at h
  refine enter Tryd.func25 rfl rfl ?_
  have hS := Sep.start w
  refine .seq ?_
  refine .region ?_
  refine .p rfl rfl rfl ?_
  refine .nil ?_
  refine .seq ?_
  refine .region ?_
  obtain ⟨y1, hy1, h⟩ := bnd h
  refine .c (.call0 hS Tryd.func39 (spec_l46Sw_ok hy1) rfl rfl ?_ rfl (by kernel_rfl) rfl rfl)
  intro W hS
  refine .c (.li [y1] dInstr T.u33 T.t23 hS rfl rfl rfl rfl ?_ rfl (fun _ => rfl) rfl rfl rfl rfl)
  intro A1 c1 W hS
  refine .p rfl rfl rfl ?_
  refine .nil ?_
  refine .seq ?_
  refine .region ?_
  obtain ⟨y2, hy2, h⟩ := bnd h
  refine .c (.call1 hS Tryd.func41 (spec_l46Saved_ok hy2) rfl rfl ?_ rfl (by kernel_rfl) rfl rfl)
  intro A2 c2 W hS
  refine .p rfl rfl rfl ?_
  refine .nil ?_
  refine .seq ?_
  refine .seq ?_
  refine .region ?_
  refine .p rfl rfl rfl ?_
  refine .nil ?_
  refine .block ?_
  obtain ⟨y3, hy3, h⟩ := bnd h
  refine .via (.iter (fun s1 E' W' => ∃ (A5 : Option Addr) (c5 : Nat), SubL E' [(1, .slice A5 s1.1.length c5), (2, .slice A2 y2.length c2), (3, .int .i64 s1.2)] ∧ Sep No w W' [rowE A2 c2 3 1 (D.int .i64) y2, rowE A5 c5 23 5 dInstr s1.1]) (fun y4 x E' W' => x = .exit 0 ∧ ∃ (A6 : Option Addr) (c6 : Nat), SubL E' [(1, .slice A6 y4.length c6)] ∧ Sep No w W' [rowE A2 c2 3 1 (D.int .i64) y2, rowE A6 c6 23 5 dInstr y4]) hy3 ⟨A1, c1, sb rfl, hS.to [0, 0] rfl⟩ ?_) ?_
  · intro s1 y5 E W h hI
    obtain ⟨A4, c4, hE, hS⟩ := hI
    refine CW.sub hE ?_
    unfold spec_l46Save_b1 at h
    refine .seq ?_
    refine .seq ?_
    refine .region ?_
    refine .p rfl rfl rfl ?_
    refine .p rfl rfl rfl ?_
    refine .r (len T.u47 rfl rfl) ?_ rfl rfl
    refine .p rfl rfl rfl ?_
    refine .nil ?_
    refine .cond rfl (fun hb => ?_) (fun hb => ?_)
    · have h := sel_t hb h
      refine .skip ?_
      refine .seq ?_
      refine .block ?_
      refine .region ?_
      refine .p rfl rfl rfl ?_
      refine .p rfl rfl rfl ?_
      refine .p rfl rfl rfl ?_
      obtain ⟨x1, hx1, h⟩ := bnd h
      refine .r (ix hS.lend hx1 T.u47 T.t3 rfl rfl rfl) ?_ rfl rfl
      refine .r (lde (Rd.flat hS.lend hx1 rfl) T.t3 rfl rfl rfl rfl rfl) ?_ rfl rfl
      refine .p rfl rfl rfl ?_
      refine .p rfl rfl rfl ?_
      refine .p rfl rfl rfl ?_
      obtain ⟨y6, hy6, h⟩ := bnd h
      refine .c (.call0 hS Tryd.func39 (spec_l46Sw_ok hy6) rfl rfl ?_ rfl (by kernel_rfl) rfl rfl)
      intro W hS
      refine .c (.li [y6] dInstr T.u33 T.t23 hS rfl rfl rfl rfl ?_ rfl (fun _ => rfl) rfl rfl rfl rfl)
      intro A7 c7 W hS
      obtain ⟨r1, hr1, h⟩ := bnd h
      have hT := hS.p2
      have hU := hT.p1.lend
      refine .c (.appr hr1 hT hU (fun _ => rfl) T.u33 T.t23 rfl rfl rfl ?_ rfl rfl rfl rfl rfl)
      intro A8 c8 W hS
      refine .p rfl rfl rfl ?_
      refine .nil ?_
      refine .region ?_
      refine .p rfl rfl rfl ?_
      refine .p rfl rfl rfl ?_
      refine .p rfl rfl rfl ?_
      refine .nil ?_
      cases h
      exact ⟨rfl, A8, c8, sb rfl, hS.to [2, 0] rfl⟩
    · have h := sel_f hb h
      refine .exit ?_
      cases h
      exact ⟨by simp, rfl, A4, c4, sb rfl, hS.to [0, 0] rfl⟩
  · intro x E W hJ
    obtain ⟨rfl, A9, c9, hE, hS⟩ := hJ
    refine ⟨_, hE.sub, ?_⟩
    refine .seq ?_
    refine .region ?_
    refine .p rfl rfl rfl ?_
    refine .p rfl rfl rfl ?_
    refine .nil ?_
    refine .ret ?_
    cases h
    exact fin_ret (vs := [_]) (A9, c9) (rt rfl rn) rfl (hS.to [1] rfl)
theorem spec_l46Load_ok {w : World} {r : (List Instr)} (h : spec_l46Load = some r) : Calls Tryd.prog 26 #[] w (Ret No w (fun s : SV => .slice s.1 (r).length s.2) (fun s => [rowE s.1 s.2 23 5 dInstr r])) := by
  unfold spec_l46Load at h
  refine enter Tryd.func26 rfl rfl ?_
  have hS := Sep.start w
  refine .seq ?_
  refine .region ?_
  refine .p rfl rfl rfl ?_
  refine .nil ?_
  refine .seq ?_
  refine .region ?_
  obtain ⟨y1, hy1, h⟩ := bnd h
  refine .c (.call0 hS Tryd.func38 (spec_l46Lw_ok hy1) rfl rfl ?_ rfl (by kernel_rfl) rfl rfl)
  intro W hS
  obtain ⟨y2, hy2, h⟩ := bnd h
  refine .c (.call0 hS Tryd.func38 (spec_l46Lw_ok hy2) rfl rfl ?_ rfl (by kernel_rfl) rfl rfl)
  intro W hS
  obtain ⟨y3, hy3, h⟩ := bnd h
  refine .c (.call0 hS Tryd.func35 (spec_l46If_ok hy3) rfl rfl ?_ rfl (by kernel_rfl) rfl rfl)
  intro W hS
  obtain ⟨y4, hy4, h⟩ := bnd h
  refine .c (.call0 hS Tryd.func27 (spec_l46Addi_ok hy4) rfl rfl ?_ rfl (by kernel_rfl) rfl rfl)
  intro W hS
  obtain ⟨y5, hy5, h⟩ := bnd h
  refine .c (.call0 hS Tryd.func38 (spec_l46Lw_ok hy5) rfl rfl ?_ rfl (by kernel_rfl) rfl rfl)
  intro W hS
  obtain ⟨y6, hy6, h⟩ := bnd h
  refine .c (.call0 hS Tryd.func35 (spec_l46If_ok hy6) rfl rfl ?_ rfl (by kernel_rfl) rfl rfl)
  intro W hS
  obtain ⟨y7, hy7, h⟩ := bnd h
  refine .c (.call0 hS Tryd.func38 (spec_l46Lw_ok hy7) rfl rfl ?_ rfl (by kernel_rfl) rfl rfl)
  intro W hS
  refine .c (.li [y1, y2, y3, y4, y5, y6, y7] dInstr T.u33 T.t23 hS rfl rfl rfl rfl ?_ rfl (fun _ => rfl) rfl rfl rfl rfl)
  intro A1 c1 W hS
  refine .p rfl rfl rfl ?_
  refine .nil ?_
  refine .seq ?_
  refine .region ?_
  obtain ⟨y8, hy8, h⟩ := bnd h
  refine .c (.call1 hS Tryd.func41 (spec_l46Saved_ok hy8) rfl rfl ?_ rfl (by kernel_rfl) rfl rfl)
  intro A2 c2 W hS
  refine .p rfl rfl rfl ?_
  refine .nil ?_
  refine .seq ?_
  refine .seq ?_
  refine .region ?_
  refine .p rfl rfl rfl ?_
  refine .nil ?_
  refine .block ?_
  obtain ⟨y9, hy9, h⟩ := bnd h
  refine .via (.iter (fun s1 E' W' => ∃ (A5 : Option Addr) (c5 : Nat), SubL E' [(1, .slice A5 s1.1.length c5), (2, .slice A2 y8.length c2), (3, .int .i64 s1.2)] ∧ Sep No w W' [rowE A2 c2 3 1 (D.int .i64) y8, rowE A5 c5 23 5 dInstr s1.1]) (fun y10 x E' W' => x = .exit 0 ∧ ∃ (A6 : Option Addr) (c6 : Nat), SubL E' [(1, .slice A6 y10.length c6)] ∧ Sep No w W' [rowE A2 c2 3 1 (D.int .i64) y8, rowE A6 c6 23 5 dInstr y10]) hy9 ⟨A1, c1, sb rfl, hS.to [0, 0] rfl⟩ ?_) ?_
  · intro s1 y11 E W h hI
    obtain ⟨A4, c4, hE, hS⟩ := hI
    refine CW.sub hE ?_
    unfold spec_l46Load_b1 at h
    refine .seq ?_
    refine .seq ?_
    refine .region ?_
    refine .p rfl rfl rfl ?_
    refine .p rfl rfl rfl ?_
    refine .r (len T.u47 rfl rfl) ?_ rfl rfl
    refine .p rfl rfl rfl ?_
    refine .nil ?_
    refine .cond rfl (fun hb => ?_) (fun hb => ?_)
    · have h := sel_t hb h
      refine .skip ?_
      refine .seq ?_
      refine .block ?_
      refine .region ?_
      refine .p rfl rfl rfl ?_
      refine .p rfl rfl rfl ?_
      refine .p rfl rfl rfl ?_
      obtain ⟨x1, hx1, h⟩ := bnd h
      refine .r (ix hS.lend hx1 T.u47 T.t3 rfl rfl rfl) ?_ rfl rfl
      refine .r (lde (Rd.flat hS.lend hx1 rfl) T.t3 rfl rfl rfl rfl rfl) ?_ rfl rfl
      refine .p rfl rfl rfl ?_
      refine .p rfl rfl rfl ?_
      refine .p rfl rfl rfl ?_
      obtain ⟨y12, hy12, h⟩ := bnd h
      refine .c (.call0 hS Tryd.func38 (spec_l46Lw_ok hy12) rfl rfl ?_ rfl (by kernel_rfl) rfl rfl)
      intro W hS
      refine .c (.li [y12] dInstr T.u33 T.t23 hS rfl rfl rfl rfl ?_ rfl (fun _ => rfl) rfl rfl rfl rfl)
      intro A7 c7 W hS
      obtain ⟨r1, hr1, h⟩ := bnd h
      have hT := hS.p2
      have hU := hT.p1.lend
      refine .c (.appr hr1 hT hU (fun _ => rfl) T.u33 T.t23 rfl rfl rfl ?_ rfl rfl rfl rfl rfl)
      intro A8 c8 W hS
      refine .p rfl rfl rfl ?_
      refine .nil ?_
      refine .region ?_
      refine .p rfl rfl rfl ?_
      refine .p rfl rfl rfl ?_
      refine .p rfl rfl rfl ?_
      refine .nil ?_
      cases h
      exact ⟨rfl, A8, c8, sb rfl, hS.to [2, 0] rfl⟩
    · have h := sel_f hb h
      refine .exit ?_
      cases h
      exact ⟨by simp, rfl, A4, c4, sb rfl, hS.to [0, 0] rfl⟩
  · intro x E W hJ
    obtain ⟨rfl, A9, c9, hE, hS⟩ := hJ
    refine ⟨_, hE.sub, ?_⟩
    refine .seq ?_
    refine .region ?_
    refine .p rfl rfl rfl ?_
    obtain ⟨y13, hy13, h⟩ := bnd h
    refine .c (.call0 hS Tryd.func38 (spec_l46Lw_ok hy13) rfl rfl ?_ rfl (by kernel_rfl) rfl rfl)
    intro W hS
    obtain ⟨y14, hy14, h⟩ := bnd h
    refine .c (.call0 hS Tryd.func40 (spec_l46Back_ok hy14) rfl rfl ?_ rfl (by kernel_rfl) rfl rfl)
    intro W hS
    refine .c (.li [y13, y14] dInstr T.u33 T.t23 hS rfl rfl rfl rfl ?_ rfl (fun _ => rfl) rfl rfl rfl rfl)
    intro A10 c10 W hS
    obtain ⟨r2, hr2, h⟩ := bnd h
    have hT := hS.p2
    have hU := hT.p1.lend
    refine .c (.appr hr2 hT hU (fun _ => rfl) T.u33 T.t23 rfl rfl rfl ?_ rfl rfl rfl rfl rfl)
    intro A11 c11 W hS
    refine .p rfl rfl rfl ?_
    refine .nil ?_
    refine .ret ?_
    cases h
    exact fin_ret (vs := [_]) (A11, c11) (rt rfl rn) rfl (hS.to [0] rfl)
theorem spec_l46Code_ok {w : World} {r : (List Instr)} (h : spec_l46Code = some r) : Calls Tryd.prog 15 #[] w (Ret No w (fun s : SV => .slice s.1 (r).length s.2) (fun s => [rowE s.1 s.2 23 5 dInstr r])) := by
  unfold spec_l46Code at h
  refine enter Tryd.func15 rfl rfl ?_
  have hS := Sep.start w
  refine .seq ?_
  refine .region ?_
  refine .p rfl rfl rfl ?_
  refine .nil ?_
  refine .seq ?_
  refine .region ?_
  obtain ⟨y1, hy1, h⟩ := bnd h
  refine .c (.call1 hS Tryd.func21 (spec_l46Entry_ok hy1) rfl rfl ?_ rfl (by kernel_rfl) rfl rfl)
  intro A1 c1 W hS
  obtain ⟨y2, hy2, h⟩ := bnd h
  refine .c (.call1 hS Tryd.func22 (spec_l46Send_ok hy2) rfl rfl ?_ rfl (by kernel_rfl) rfl rfl)
  intro A2 c2 W hS
  obtain ⟨r1, hr1, h⟩ := bnd h
  have hT := hS.p1
  have hU := hT.p1.lend
  refine .c (.appr hr1 hT hU (fun _ => rfl) T.u33 T.t23 rfl rfl rfl ?_ rfl rfl rfl rfl rfl)
  intro A3 c3 W hS
  refine .p rfl rfl rfl ?_
  refine .nil ?_
  refine .seq ?_
  refine .region ?_
  refine .p rfl rfl rfl ?_
  obtain ⟨y3, hy3, h⟩ := bnd h
  refine .c (.call1 hS Tryd.func23 (spec_l46Recv_ok hy3) rfl rfl ?_ rfl (by kernel_rfl) rfl rfl)
  intro A4 c4 W hS
  obtain ⟨r2, hr2, h⟩ := bnd h
  have hT := hS.p1
  have hU := hT.p1.lend
  refine .c (.appr hr2 hT hU (fun _ => rfl) T.u33 T.t23 rfl rfl rfl ?_ rfl rfl rfl rfl rfl)
  intro A5 c5 W hS
  refine .p rfl rfl rfl ?_
  refine .nil ?_
  refine .seq ?_
  refine .region ?_
  refine .p rfl rfl rfl ?_
  obtain ⟨y4, hy4, h⟩ := bnd h
  refine .c (.call1 hS Tryd.func24 (spec_l46Other_ok hy4) rfl rfl ?_ rfl (by kernel_rfl) rfl rfl)
  intro A6 c6 W hS
  obtain ⟨r3, hr3, h⟩ := bnd h
  have hT := hS.p1
  have hU := hT.p1.lend
  refine .c (.appr hr3 hT hU (fun _ => rfl) T.u33 T.t23 rfl rfl rfl ?_ rfl rfl rfl rfl rfl)
  intro A7 c7 W hS
  refine .p rfl rfl rfl ?_
  refine .nil ?_
  refine .seq ?_
  refine .region ?_
  refine .p rfl rfl rfl ?_
  obtain ⟨y5, hy5, h⟩ := bnd h
  refine .c (.call1 hS Tryd.func25 (spec_l46Save_ok hy5) rfl rfl ?_ rfl (by kernel_rfl) rfl rfl)
  intro A8 c8 W hS
  obtain ⟨r4, hr4, h⟩ := bnd h
  have hT := hS.p1
  have hU := hT.p1.lend
  refine .c (.appr hr4 hT hU (fun _ => rfl) T.u33 T.t23 rfl rfl rfl ?_ rfl rfl rfl rfl rfl)
  intro A9 c9 W hS
  refine .p rfl rfl rfl ?_
  refine .nil ?_
  refine .seq ?_
  refine .region ?_
  refine .p rfl rfl rfl ?_
  obtain ⟨y6, hy6, h⟩ := bnd h
  refine .c (.call1 hS Tryd.func26 (spec_l46Load_ok hy6) rfl rfl ?_ rfl (by kernel_rfl) rfl rfl)
  intro A10 c10 W hS
  obtain ⟨r5, hr5, h⟩ := bnd h
  have hT := hS.p1
  have hU := hT.p1.lend
  refine .c (.appr hr5 hT hU (fun _ => rfl) T.u33 T.t23 rfl rfl rfl ?_ rfl rfl rfl rfl rfl)
  intro A11 c11 W hS
  refine .p rfl rfl rfl ?_
  refine .nil ?_
  refine .seq ?_
  refine .region ?_
  refine .p rfl rfl rfl ?_
  obtain ⟨y7, hy7, h⟩ := bnd h
  refine .c (.call0 hS Tryd.func27 (spec_l46Addi_ok hy7) rfl rfl ?_ rfl (by kernel_rfl) rfl rfl)
  intro W hS
  refine .r (bs T.s23 rfl rfl) ?_ rfl rfl
  refine .c (.li [y7, (Instr.mk 21 0 0 0 0)] dInstr T.u33 T.t23 hS rfl rfl rfl rfl ?_ rfl (fun _ => rfl) rfl rfl rfl rfl)
  intro A12 c12 W hS
  obtain ⟨r6, hr6, h⟩ := bnd h
  have hT := hS.p1
  have hU := hT.p1.lend
  refine .c (.appr hr6 hT hU (fun _ => rfl) T.u33 T.t23 rfl rfl rfl ?_ rfl rfl rfl rfl rfl)
  intro A13 c13 W hS
  refine .p rfl rfl rfl ?_
  refine .nil ?_
  refine .ret ?_
  cases h
  exact fin_ret (vs := [_]) (A13, c13) (rt rfl rn) rfl (hS.to [0] rfl)
theorem spec_RuntimeInstr_ok {a0 : Int} {w : World} {r : Instr × Bool} (h : spec_RuntimeInstr a0 = some r) : Calls Tryd.prog 9 #[.int .i64 a0] w (Ret No w (fun s : Unit => .tuple #[.agg #[.int .i64 r.1.Op, .int .i64 r.1.Rd, .int .i64 r.1.Rs, .int .i64 r.1.Rt, .int .i64 r.1.Imm], .bool r.2]) (fun s => [])) := by
  unfold spec_RuntimeInstr at h
  refine enter Tryd.func9 rfl rfl ?_
  have hS := Sep.start w
  refine .seq ?_
  refine .region ?_
  refine .c (.alloc T.t23 hS ?_ rfl rfl rfl)
  intro g1 W hS
  refine .p rfl rfl rfl ?_
  refine .nil ?_
  refine .seq ?_
  refine .seq ?_
  refine .region ?_
  refine .p rfl rfl rfl ?_
  obtain ⟨y1, hy1, h⟩ := bnd h
  refine .c (.call0 hS Tryd.func14 (spec_l6In_ok hy1) rfl rfl ?_ rfl (by kernel_rfl) rfl rfl)
  intro W hS
  refine .p rfl rfl rfl ?_
  refine .nil ?_
  refine .cond rfl (fun hb => ?_) (fun hb => ?_)
  · have h := sel_t hb h
    refine .seq ?_
    refine .region ?_
    refine .r (bs T.s23 rfl rfl) ?_ rfl rfl
    refine .c (.st T.t23 hS rfl rfl rfl ?_ rfl rfl rfl rfl rfl)
    intro W hS
    refine .p rfl rfl rfl ?_
    refine .nil ?_
    refine .ret ?_
    cases h
    exact fin_ret (vs := [_, _]) () (rc hS T.t23 rfl (rt rfl rn) rfl rfl) rfl (hS.to [] rfl)
  · have h := sel_f hb h
    refine .skip ?_
    refine .seq ?_
    refine .region ?_
    obtain ⟨y2, hy2, h⟩ := bnd h
    refine .c (.call1 hS Tryd.func15 (spec_l46Code_ok hy2) rfl rfl ?_ rfl (by kernel_rfl) rfl rfl)
    intro A1 c1 W hS
    refine .p rfl rfl rfl ?_
    obtain ⟨x1, hx1, h⟩ := bnd h
    refine .r (ix hS.lend hx1 T.u33 T.t23 rfl rfl rfl) ?_ rfl rfl
    refine .r (lde (Rd.flat hS.lend hx1 rfl) T.t23 rfl rfl rfl rfl rfl) ?_ rfl rfl
    refine .c (.st T.t23 hS.p1 rfl rfl rfl ?_ rfl rfl rfl rfl rfl)
    intro W hS
    refine .p rfl rfl rfl ?_
    refine .nil ?_
    refine .ret ?_
    cases h
    exact fin_ret (vs := [_, _]) () (rc hS T.t23 rfl (rt rfl rn) rfl rfl) rfl (hS.to [] rfl)
theorem impl_addi_ok {a0 : Int} {a1 : Int} {a2 : Int} {w : World} {r : Instr} (h : impl_addi a0 a1 a2 = some r) : Calls Tryd.prog 28 #[.int .i64 a0, .int .i64 a1, .int .i64 a2] w (Ret No w (fun s : Unit => .agg #[.int .i64 r.Op, .int .i64 r.Rd, .int .i64 r.Rs, .int .i64 r.Rt, .int .i64 r.Imm]) (fun s => [])) := by
  unfold impl_addi at h
  refine enter Tryd.func28 rfl rfl ?_
  have hS := Sep.start w
  refine .seq ?_
  refine .region ?_
  refine .c (.alloc T.t23 hS ?_ rfl rfl rfl)
  intro g1 W hS
  refine .nil ?_
  refine .seq ?_
  refine .region ?_
  refine .p rfl rfl rfl ?_
  refine .p rfl rfl rfl ?_
  refine .p rfl rfl rfl ?_
  refine .r (bs T.s23 rfl rfl) ?_ rfl rfl
  refine .c (.st T.t23 hS rfl rfl rfl ?_ rfl rfl rfl rfl rfl)
  intro W hS
  refine .nil ?_
  refine .ret ?_
  cases h
  exact fin_ret (vs := [_]) () (rc hS T.t23 rfl rn rfl rfl) rfl (hS.to [] rfl)
theorem impl_branch_ok {a0 : Int} {a1 : Int} {a2 : Int} {a3 : Int} {a4 : Int} {w : World} {r : Instr} (h : impl_branch a0 a1 a2 a3 a4 = some r) : Calls Tryd.prog 29 #[.int .i64 a0, .int .i64 a1, .int .i64 a2, .int .i64 a3, .int .i64 a4] w (Ret No w (fun s : Unit => .agg #[.int .i64 r.Op, .int .i64 r.Rd, .int .i64 r.Rs, .int .i64 r.Rt, .int .i64 r.Imm]) (fun s => [])) := by
  unfold impl_branch at h
  refine enter Tryd.func29 rfl rfl ?_
  have hS := Sep.start w
  refine .seq ?_
  refine .region ?_
  refine .c (.alloc T.t23 hS ?_ rfl rfl rfl)
  intro g1 W hS
  refine .nil ?_
  refine .seq ?_
  refine .region ?_
  refine .p rfl rfl rfl ?_
  refine .p rfl rfl rfl ?_
  refine .p rfl rfl rfl ?_
  refine .p rfl rfl rfl ?_
  refine .p rfl rfl rfl ?_
  refine .p rfl rfl rfl ?_
  refine .p rfl rfl rfl ?_
  refine .r (bs T.s23 rfl rfl) ?_ rfl rfl
  refine .c (.st T.t23 hS rfl rfl rfl ?_ rfl rfl rfl rfl rfl)
  intro W hS
  refine .nil ?_
  refine .ret ?_
  cases h
  exact fin_ret (vs := [_]) () (rc hS T.t23 rfl rn rfl rfl) rfl (hS.to [] rfl)
theorem impl_jumpTo_ok {a0 : Int} {a1 : Int} {w : World} {r : Instr} (h : impl_jumpTo a0 a1 = some r) : Calls Tryd.prog 30 #[.int .i64 a0, .int .i64 a1] w (Ret No w (fun s : Unit => .agg #[.int .i64 r.Op, .int .i64 r.Rd, .int .i64 r.Rs, .int .i64 r.Rt, .int .i64 r.Imm]) (fun s => [])) := by
  unfold impl_jumpTo at h
  refine enter Tryd.func30 rfl rfl ?_
  have hS := Sep.start w
  refine .seq ?_
  refine .region ?_
  refine .c (.alloc T.t23 hS ?_ rfl rfl rfl)
  intro g1 W hS
  refine .nil ?_
  refine .seq ?_
  refine .region ?_
  refine .p rfl rfl rfl ?_
  refine .p rfl rfl rfl ?_
  refine .p rfl rfl rfl ?_
  refine .p rfl rfl rfl ?_
  refine .r (bs T.s23 rfl rfl) ?_ rfl rfl
  refine .c (.st T.t23 hS rfl rfl rfl ?_ rfl rfl rfl rfl rfl)
  intro W hS
  refine .nil ?_
  refine .ret ?_
  cases h
  exact fin_ret (vs := [_]) () (rc hS T.t23 rfl rn rfl rfl) rfl (hS.to [] rfl)
theorem impl_three_ok {a0 : Int} {a1 : Int} {a2 : Int} {a3 : Int} {w : World} {r : Instr} (h : impl_three a0 a1 a2 a3 = some r) : Calls Tryd.prog 31 #[.int .i64 a0, .int .i64 a1, .int .i64 a2, .int .i64 a3] w (Ret No w (fun s : Unit => .agg #[.int .i64 r.Op, .int .i64 r.Rd, .int .i64 r.Rs, .int .i64 r.Rt, .int .i64 r.Imm]) (fun s => [])) := by
  unfold impl_three at h
  refine enter Tryd.func31 rfl rfl ?_
  have hS := Sep.start w
  refine .seq ?_
  refine .region ?_
  refine .c (.alloc T.t23 hS ?_ rfl rfl rfl)
  intro g1 W hS
  refine .nil ?_
  refine .seq ?_
  refine .region ?_
  refine .p rfl rfl rfl ?_
  refine .p rfl rfl rfl ?_
  refine .p rfl rfl rfl ?_
  refine .p rfl rfl rfl ?_
  refine .r (bs T.s23 rfl rfl) ?_ rfl rfl
  refine .c (.st T.t23 hS rfl rfl rfl ?_ rfl rfl rfl rfl rfl)
  intro W hS
  refine .nil ?_
  refine .ret ?_
  cases h
  exact fin_ret (vs := [_]) () (rc hS T.t23 rfl rn rfl rfl) rfl (hS.to [] rfl)
theorem impl_lw_ok {a0 : Int} {a1 : Int} {a2 : Int} {w : World} {r : Instr} (h : impl_lw a0 a1 a2 = some r) : Calls Tryd.prog 32 #[.int .i64 a0, .int .i64 a1, .int .i64 a2] w (Ret No w (fun s : Unit => .agg #[.int .i64 r.Op, .int .i64 r.Rd, .int .i64 r.Rs, .int .i64 r.Rt, .int .i64 r.Imm]) (fun s => [])) := by
  unfold impl_lw at h
  refine enter Tryd.func32 rfl rfl ?_
  have hS := Sep.start w
  refine .seq ?_
  refine .region ?_
  refine .c (.alloc T.t23 hS ?_ rfl rfl rfl)
  intro g1 W hS
  refine .nil ?_
  refine .seq ?_
  refine .region ?_
  refine .p rfl rfl rfl ?_
  refine .p rfl rfl rfl ?_
  refine .p rfl rfl rfl ?_
  refine .r (bs T.s23 rfl rfl) ?_ rfl rfl
  refine .c (.st T.t23 hS rfl rfl rfl ?_ rfl rfl rfl rfl rfl)
  intro W hS
  refine .nil ?_
  refine .ret ?_
  cases h
  exact fin_ret (vs := [_]) () (rc hS T.t23 rfl rn rfl rfl) rfl (hS.to [] rfl)
theorem impl_sw_ok {a0 : Int} {a1 : Int} {a2 : Int} {w : World} {r : Instr} (h : impl_sw a0 a1 a2 = some r) : Calls Tryd.prog 33 #[.int .i64 a0, .int .i64 a1, .int .i64 a2] w (Ret No w (fun s : Unit => .agg #[.int .i64 r.Op, .int .i64 r.Rd, .int .i64 r.Rs, .int .i64 r.Rt, .int .i64 r.Imm]) (fun s => [])) := by
  unfold impl_sw at h
  refine enter Tryd.func33 rfl rfl ?_
  have hS := Sep.start w
  refine .seq ?_
  refine .region ?_
  refine .c (.alloc T.t23 hS ?_ rfl rfl rfl)
  intro g1 W hS
  refine .nil ?_
  refine .seq ?_
  refine .region ?_
  refine .p rfl rfl rfl ?_
  refine .p rfl rfl rfl ?_
  refine .p rfl rfl rfl ?_
  refine .r (bs T.s23 rfl rfl) ?_ rfl rfl
  refine .c (.st T.t23 hS rfl rfl rfl ?_ rfl rfl rfl rfl rfl)
  intro W hS
  refine .nil ?_
  refine .ret ?_
  cases h
  exact fin_ret (vs := [_]) () (rc hS T.t23 rfl rn rfl rfl) rfl (hS.to [] rfl)
theorem impl_back_ok {a0 : Int} {w : World} {r : Instr} (h : impl_back a0 = some r) : Calls Tryd.prog 34 #[.int .i64 a0] w (Ret No w (fun s : Unit => .agg #[.int .i64 r.Op, .int .i64 r.Rd, .int .i64 r.Rs, .int .i64 r.Rt, .int .i64 r.Imm]) (fun s => [])) := by
  unfold impl_back at h
  refine enter Tryd.func34 rfl rfl ?_
  have hS := Sep.start w
  refine .seq ?_
  refine .region ?_
  refine .c (.alloc T.t23 hS ?_ rfl rfl rfl)
  intro g1 W hS
  refine .nil ?_
  refine .seq ?_
  refine .region ?_
  refine .p rfl rfl rfl ?_
  refine .r (bs T.s23 rfl rfl) ?_ rfl rfl
  refine .c (.st T.t23 hS rfl rfl rfl ?_ rfl rfl rfl rfl rfl)
  intro W hS
  refine .nil ?_
  refine .ret ?_
  cases h
  exact fin_ret (vs := [_]) () (rc hS T.t23 rfl rn rfl rfl) rfl (hS.to [] rfl)
theorem impl_runtimeList_ok {w : World} {r : (List Instr)} (h : impl_runtimeList = some r) (hG : Gl w) : Calls Tryd.prog 16 #[] w (Ret No w (fun s : SV => .slice s.1 (r).length s.2) (fun s => [rowE s.1 s.2 23 5 dInstr r])) := by
  unfold impl_runtimeList at h
  refine enter Tryd.func16 rfl rfl ?_
  have hS := Sep.start w
  refine .seq ?_
  refine .region ?_
  refine .p rfl rfl rfl ?_
  refine .nil ?_
  refine .seq ?_
  refine .region ?_
  refine .r (bs T.s23 rfl rfl) ?_ rfl rfl
  refine .c (.alloc T.t23 hS ?_ rfl rfl rfl)
  intro g1 W hS
  refine .c (.st T.t23 hS rfl rfl rfl ?_ rfl rfl rfl rfl rfl)
  intro W hS
  refine .nil ?_
  refine .seq ?_
  refine .rs hS [0] T.mix ?_
  intro W hS
  have hT : Sep _ _ W [.box g1 23 [.int .i64 21, .int .i64 0, .int .i64 0, .int .i64 0, .int .i64 0]] := hS.to [0] rfl
  refine .t1 44 rfl (fun W hT => ld T.t23 hT rfl rfl rfl rfl rfl) hT ?_ (by kernel_rfl) (by kernel_rfl) (by kernel_rfl) rfl rfl
  obtain ⟨y1, hy1, h⟩ := bnd h
  refine .by1 0 rfl (.call0 hS Tryd.func28 (impl_addi_ok hy1) rfl rfl ?_ rfl (by kernel_rfl) rfl rfl) (by kernel_rfl)
  intro W hS
  have hT : Sep _ _ W [.box g1 23 [.int .i64 21, .int .i64 0, .int .i64 0, .int .i64 0, .int .i64 0]] := hS.to [0] rfl
  refine ⟨hT, ?_⟩
  obtain ⟨y2, hy2, h⟩ := bnd h
  refine .by1 1 rfl (.call0 hS Tryd.func29 (impl_branch_ok hy2) rfl rfl ?_ rfl (by kernel_rfl) rfl rfl) (by kernel_rfl)
  intro W hS
  have hT : Sep _ _ W [.box g1 23 [.int .i64 21, .int .i64 0, .int .i64 0, .int .i64 0, .int .i64 0]] := hS.to [0] rfl
  refine ⟨hT, ?_⟩
  obtain ⟨y3, hy3, h⟩ := bnd h
  refine .by1 2 rfl (.call0 hS Tryd.func28 (impl_addi_ok hy3) rfl rfl ?_ rfl (by kernel_rfl) rfl rfl) (by kernel_rfl)
  intro W hS
  have hT : Sep _ _ W [.box g1 23 [.int .i64 21, .int .i64 0, .int .i64 0, .int .i64 0, .int .i64 0]] := hS.to [0] rfl
  refine ⟨hT, ?_⟩
  obtain ⟨y4, hy4, h⟩ := bnd h
  refine .by1 3 rfl (.call0 hS Tryd.func29 (impl_branch_ok hy4) rfl rfl ?_ rfl (by kernel_rfl) rfl rfl) (by kernel_rfl)
  intro W hS
  have hT : Sep _ _ W [.box g1 23 [.int .i64 21, .int .i64 0, .int .i64 0, .int .i64 0, .int .i64 0]] := hS.to [0] rfl
  refine ⟨hT, ?_⟩
  obtain ⟨y5, hy5, h⟩ := bnd h
  refine .by1 4 rfl (.call0 hS Tryd.func28 (impl_addi_ok hy5) rfl rfl ?_ rfl (by kernel_rfl) rfl rfl) (by kernel_rfl)
  intro W hS
  have hT : Sep _ _ W [.box g1 23 [.int .i64 21, .int .i64 0, .int .i64 0, .int .i64 0, .int .i64 0]] := hS.to [0] rfl
  refine ⟨hT, ?_⟩
  obtain ⟨y6, hy6, h⟩ := bnd h
  refine .by1 5 rfl (.call0 hS Tryd.func29 (impl_branch_ok hy6) rfl rfl ?_ rfl (by kernel_rfl) rfl rfl) (by kernel_rfl)
  intro W hS
  have hT : Sep _ _ W [.box g1 23 [.int .i64 21, .int .i64 0, .int .i64 0, .int .i64 0, .int .i64 0]] := hS.to [0] rfl
  refine ⟨hT, ?_⟩
  obtain ⟨y7, hy7, h⟩ := bnd h
  refine .by1 6 rfl (.call0 hS Tryd.func28 (impl_addi_ok hy7) rfl rfl ?_ rfl (by kernel_rfl) rfl rfl) (by kernel_rfl)
  intro W hS
  have hT : Sep _ _ W [.box g1 23 [.int .i64 21, .int .i64 0, .int .i64 0, .int .i64 0, .int .i64 0]] := hS.to [0] rfl
  refine ⟨hT, ?_⟩
  obtain ⟨y8, hy8, h⟩ := bnd h
  refine .by1 7 rfl (.call0 hS Tryd.func29 (impl_branch_ok hy8) rfl rfl ?_ rfl (by kernel_rfl) rfl rfl) (by kernel_rfl)
  intro W hS
  have hT : Sep _ _ W [.box g1 23 [.int .i64 21, .int .i64 0, .int .i64 0, .int .i64 0, .int .i64 0]] := hS.to [0] rfl
  refine ⟨hT, ?_⟩
  obtain ⟨y9, hy9, h⟩ := bnd h
  refine .by1 8 rfl (.call0 hS Tryd.func30 (impl_jumpTo_ok hy9) rfl rfl ?_ rfl (by kernel_rfl) rfl rfl) (by kernel_rfl)
  intro W hS
  have hT : Sep _ _ W [.box g1 23 [.int .i64 21, .int .i64 0, .int .i64 0, .int .i64 0, .int .i64 0]] := hS.to [0] rfl
  refine ⟨hT, ?_⟩
  obtain ⟨y10, hy10, h⟩ := bnd h
  refine .by1 9 rfl (.call0 hS Tryd.func28 (impl_addi_ok hy10) rfl rfl ?_ rfl (by kernel_rfl) rfl rfl) (by kernel_rfl)
  intro W hS
  have hT : Sep _ _ W [.box g1 23 [.int .i64 21, .int .i64 0, .int .i64 0, .int .i64 0, .int .i64 0]] := hS.to [0] rfl
  refine ⟨hT, ?_⟩
  obtain ⟨y11, hy11, h⟩ := bnd h
  refine .by1 10 rfl (.call0 hS Tryd.func31 (impl_three_ok hy11) rfl rfl ?_ rfl (by kernel_rfl) rfl rfl) (by kernel_rfl)
  intro W hS
  have hT : Sep _ _ W [.box g1 23 [.int .i64 21, .int .i64 0, .int .i64 0, .int .i64 0, .int .i64 0]] := hS.to [0] rfl
  refine ⟨hT, ?_⟩
  obtain ⟨y12, hy12, h⟩ := bnd h
  refine .by1 11 rfl (.call0 hS Tryd.func31 (impl_three_ok hy12) rfl rfl ?_ rfl (by kernel_rfl) rfl rfl) (by kernel_rfl)
  intro W hS
  have hT : Sep _ _ W [.box g1 23 [.int .i64 21, .int .i64 0, .int .i64 0, .int .i64 0, .int .i64 0]] := hS.to [0] rfl
  refine ⟨hT, ?_⟩
  obtain ⟨y13, hy13, h⟩ := bnd h
  refine .by1 12 rfl (.call0 hS Tryd.func32 (impl_lw_ok hy13) rfl rfl ?_ rfl (by kernel_rfl) rfl rfl) (by kernel_rfl)
  intro W hS
  have hT : Sep _ _ W [.box g1 23 [.int .i64 21, .int .i64 0, .int .i64 0, .int .i64 0, .int .i64 0]] := hS.to [0] rfl
  refine ⟨hT, ?_⟩
  obtain ⟨y14, hy14, h⟩ := bnd h
  refine .by1 13 rfl (.call0 hS Tryd.func32 (impl_lw_ok hy14) rfl rfl ?_ rfl (by kernel_rfl) rfl rfl) (by kernel_rfl)
  intro W hS
  have hT : Sep _ _ W [.box g1 23 [.int .i64 21, .int .i64 0, .int .i64 0, .int .i64 0, .int .i64 0]] := hS.to [0] rfl
  refine ⟨hT, ?_⟩
  obtain ⟨y15, hy15, h⟩ := bnd h
  refine .by1 14 rfl (.call0 hS Tryd.func29 (impl_branch_ok hy15) rfl rfl ?_ rfl (by kernel_rfl) rfl rfl) (by kernel_rfl)
  intro W hS
  have hT : Sep _ _ W [.box g1 23 [.int .i64 21, .int .i64 0, .int .i64 0, .int .i64 0, .int .i64 0]] := hS.to [0] rfl
  refine ⟨hT, ?_⟩
  obtain ⟨y16, hy16, h⟩ := bnd h
  refine .by1 15 rfl (.call0 hS Tryd.func32 (impl_lw_ok hy16) rfl rfl ?_ rfl (by kernel_rfl) rfl rfl) (by kernel_rfl)
  intro W hS
  have hT : Sep _ _ W [.box g1 23 [.int .i64 21, .int .i64 0, .int .i64 0, .int .i64 0, .int .i64 0]] := hS.to [0] rfl
  refine ⟨hT, ?_⟩
  obtain ⟨y17, hy17, h⟩ := bnd h
  refine .by1 16 rfl (.call0 hS Tryd.func31 (impl_three_ok hy17) rfl rfl ?_ rfl (by kernel_rfl) rfl rfl) (by kernel_rfl)
  intro W hS
  have hT : Sep _ _ W [.box g1 23 [.int .i64 21, .int .i64 0, .int .i64 0, .int .i64 0, .int .i64 0]] := hS.to [0] rfl
  refine ⟨hT, ?_⟩
  obtain ⟨y18, hy18, h⟩ := bnd h
  refine .by1 17 rfl (.call0 hS Tryd.func31 (impl_three_ok hy18) rfl rfl ?_ rfl (by kernel_rfl) rfl rfl) (by kernel_rfl)
  intro W hS
  have hT : Sep _ _ W [.box g1 23 [.int .i64 21, .int .i64 0, .int .i64 0, .int .i64 0, .int .i64 0]] := hS.to [0] rfl
  refine ⟨hT, ?_⟩
  obtain ⟨y19, hy19, h⟩ := bnd h
  refine .by1 18 rfl (.call0 hS Tryd.func28 (impl_addi_ok hy19) rfl rfl ?_ rfl (by kernel_rfl) rfl rfl) (by kernel_rfl)
  intro W hS
  have hT : Sep _ _ W [.box g1 23 [.int .i64 21, .int .i64 0, .int .i64 0, .int .i64 0, .int .i64 0]] := hS.to [0] rfl
  refine ⟨hT, ?_⟩
  obtain ⟨y20, hy20, h⟩ := bnd h
  refine .by1 19 rfl (.call0 hS Tryd.func31 (impl_three_ok hy20) rfl rfl ?_ rfl (by kernel_rfl) rfl rfl) (by kernel_rfl)
  intro W hS
  have hT : Sep _ _ W [.box g1 23 [.int .i64 21, .int .i64 0, .int .i64 0, .int .i64 0, .int .i64 0]] := hS.to [0] rfl
  refine ⟨hT, ?_⟩
  obtain ⟨y21, hy21, h⟩ := bnd h
  refine .by1 20 rfl (.call0 hS Tryd.func31 (impl_three_ok hy21) rfl rfl ?_ rfl (by kernel_rfl) rfl rfl) (by kernel_rfl)
  intro W hS
  have hT : Sep _ _ W [.box g1 23 [.int .i64 21, .int .i64 0, .int .i64 0, .int .i64 0, .int .i64 0]] := hS.to [0] rfl
  refine ⟨hT, ?_⟩
  obtain ⟨y22, hy22, h⟩ := bnd h
  refine .by1 21 rfl (.call0 hS Tryd.func33 (impl_sw_ok hy22) rfl rfl ?_ rfl (by kernel_rfl) rfl rfl) (by kernel_rfl)
  intro W hS
  have hT : Sep _ _ W [.box g1 23 [.int .i64 21, .int .i64 0, .int .i64 0, .int .i64 0, .int .i64 0]] := hS.to [0] rfl
  refine ⟨hT, ?_⟩
  obtain ⟨y23, hy23, h⟩ := bnd h
  refine .by1 22 rfl (.call0 hS Tryd.func28 (impl_addi_ok hy23) rfl rfl ?_ rfl (by kernel_rfl) rfl rfl) (by kernel_rfl)
  intro W hS
  have hT : Sep _ _ W [.box g1 23 [.int .i64 21, .int .i64 0, .int .i64 0, .int .i64 0, .int .i64 0]] := hS.to [0] rfl
  refine ⟨hT, ?_⟩
  obtain ⟨y24, hy24, h⟩ := bnd h
  refine .by1 23 rfl (.call0 hS Tryd.func33 (impl_sw_ok hy24) rfl rfl ?_ rfl (by kernel_rfl) rfl rfl) (by kernel_rfl)
  intro W hS
  have hT : Sep _ _ W [.box g1 23 [.int .i64 21, .int .i64 0, .int .i64 0, .int .i64 0, .int .i64 0]] := hS.to [0] rfl
  refine ⟨hT, ?_⟩
  obtain ⟨y25, hy25, h⟩ := bnd h
  refine .by1 24 rfl (.call0 hS Tryd.func33 (impl_sw_ok hy25) rfl rfl ?_ rfl (by kernel_rfl) rfl rfl) (by kernel_rfl)
  intro W hS
  have hT : Sep _ _ W [.box g1 23 [.int .i64 21, .int .i64 0, .int .i64 0, .int .i64 0, .int .i64 0]] := hS.to [0] rfl
  refine ⟨hT, ?_⟩
  obtain ⟨y26, hy26, h⟩ := bnd h
  refine .by1 25 rfl (.call0 hS Tryd.func34 (impl_back_ok hy26) rfl rfl ?_ rfl (by kernel_rfl) rfl rfl) (by kernel_rfl)
  intro W hS
  have hT : Sep _ _ W [.box g1 23 [.int .i64 21, .int .i64 0, .int .i64 0, .int .i64 0, .int .i64 0]] := hS.to [0] rfl
  refine ⟨hT, ?_⟩
  obtain ⟨y27, hy27, h⟩ := bnd h
  refine .by1 26 rfl (.call0 hS Tryd.func28 (impl_addi_ok hy27) rfl rfl ?_ rfl (by kernel_rfl) rfl rfl) (by kernel_rfl)
  intro W hS
  have hT : Sep _ _ W [.box g1 23 [.int .i64 21, .int .i64 0, .int .i64 0, .int .i64 0, .int .i64 0]] := hS.to [0] rfl
  refine ⟨hT, ?_⟩
  obtain ⟨y28, hy28, h⟩ := bnd h
  refine .by1 27 rfl (.call0 hS Tryd.func31 (impl_three_ok hy28) rfl rfl ?_ rfl (by kernel_rfl) rfl rfl) (by kernel_rfl)
  intro W hS
  have hT : Sep _ _ W [.box g1 23 [.int .i64 21, .int .i64 0, .int .i64 0, .int .i64 0, .int .i64 0]] := hS.to [0] rfl
  refine ⟨hT, ?_⟩
  obtain ⟨y29, hy29, h⟩ := bnd h
  refine .by1 28 rfl (.call0 hS Tryd.func31 (impl_three_ok hy29) rfl rfl ?_ rfl (by kernel_rfl) rfl rfl) (by kernel_rfl)
  intro W hS
  have hT : Sep _ _ W [.box g1 23 [.int .i64 21, .int .i64 0, .int .i64 0, .int .i64 0, .int .i64 0]] := hS.to [0] rfl
  refine ⟨hT, ?_⟩
  obtain ⟨y30, hy30, h⟩ := bnd h
  refine .by1 29 rfl (.call0 hS Tryd.func32 (impl_lw_ok hy30) rfl rfl ?_ rfl (by kernel_rfl) rfl rfl) (by kernel_rfl)
  intro W hS
  have hT : Sep _ _ W [.box g1 23 [.int .i64 21, .int .i64 0, .int .i64 0, .int .i64 0, .int .i64 0]] := hS.to [0] rfl
  refine ⟨hT, ?_⟩
  obtain ⟨y31, hy31, h⟩ := bnd h
  refine .by1 30 rfl (.call0 hS Tryd.func29 (impl_branch_ok hy31) rfl rfl ?_ rfl (by kernel_rfl) rfl rfl) (by kernel_rfl)
  intro W hS
  have hT : Sep _ _ W [.box g1 23 [.int .i64 21, .int .i64 0, .int .i64 0, .int .i64 0, .int .i64 0]] := hS.to [0] rfl
  refine ⟨hT, ?_⟩
  obtain ⟨y32, hy32, h⟩ := bnd h
  refine .by1 31 rfl (.call0 hS Tryd.func32 (impl_lw_ok hy32) rfl rfl ?_ rfl (by kernel_rfl) rfl rfl) (by kernel_rfl)
  intro W hS
  have hT : Sep _ _ W [.box g1 23 [.int .i64 21, .int .i64 0, .int .i64 0, .int .i64 0, .int .i64 0]] := hS.to [0] rfl
  refine ⟨hT, ?_⟩
  obtain ⟨y33, hy33, h⟩ := bnd h
  refine .by1 32 rfl (.call0 hS Tryd.func32 (impl_lw_ok hy33) rfl rfl ?_ rfl (by kernel_rfl) rfl rfl) (by kernel_rfl)
  intro W hS
  have hT : Sep _ _ W [.box g1 23 [.int .i64 21, .int .i64 0, .int .i64 0, .int .i64 0, .int .i64 0]] := hS.to [0] rfl
  refine ⟨hT, ?_⟩
  obtain ⟨y34, hy34, h⟩ := bnd h
  refine .by1 33 rfl (.call0 hS Tryd.func28 (impl_addi_ok hy34) rfl rfl ?_ rfl (by kernel_rfl) rfl rfl) (by kernel_rfl)
  intro W hS
  have hT : Sep _ _ W [.box g1 23 [.int .i64 21, .int .i64 0, .int .i64 0, .int .i64 0, .int .i64 0]] := hS.to [0] rfl
  refine ⟨hT, ?_⟩
  obtain ⟨y35, hy35, h⟩ := bnd h
  refine .by1 34 rfl (.call0 hS Tryd.func31 (impl_three_ok hy35) rfl rfl ?_ rfl (by kernel_rfl) rfl rfl) (by kernel_rfl)
  intro W hS
  have hT : Sep _ _ W [.box g1 23 [.int .i64 21, .int .i64 0, .int .i64 0, .int .i64 0, .int .i64 0]] := hS.to [0] rfl
  refine ⟨hT, ?_⟩
  obtain ⟨y36, hy36, h⟩ := bnd h
  refine .by1 35 rfl (.call0 hS Tryd.func31 (impl_three_ok hy36) rfl rfl ?_ rfl (by kernel_rfl) rfl rfl) (by kernel_rfl)
  intro W hS
  have hT : Sep _ _ W [.box g1 23 [.int .i64 21, .int .i64 0, .int .i64 0, .int .i64 0, .int .i64 0]] := hS.to [0] rfl
  refine ⟨hT, ?_⟩
  obtain ⟨y37, hy37, h⟩ := bnd h
  refine .by1 36 rfl (.call0 hS Tryd.func32 (impl_lw_ok hy37) rfl rfl ?_ rfl (by kernel_rfl) rfl rfl) (by kernel_rfl)
  intro W hS
  have hT : Sep _ _ W [.box g1 23 [.int .i64 21, .int .i64 0, .int .i64 0, .int .i64 0, .int .i64 0]] := hS.to [0] rfl
  refine ⟨hT, ?_⟩
  obtain ⟨y38, hy38, h⟩ := bnd h
  refine .by1 37 rfl (.call0 hS Tryd.func28 (impl_addi_ok hy38) rfl rfl ?_ rfl (by kernel_rfl) rfl rfl) (by kernel_rfl)
  intro W hS
  have hT : Sep _ _ W [.box g1 23 [.int .i64 21, .int .i64 0, .int .i64 0, .int .i64 0, .int .i64 0]] := hS.to [0] rfl
  refine ⟨hT, ?_⟩
  obtain ⟨y39, hy39, h⟩ := bnd h
  refine .by1 38 rfl (.call0 hS Tryd.func31 (impl_three_ok hy39) rfl rfl ?_ rfl (by kernel_rfl) rfl rfl) (by kernel_rfl)
  intro W hS
  have hT : Sep _ _ W [.box g1 23 [.int .i64 21, .int .i64 0, .int .i64 0, .int .i64 0, .int .i64 0]] := hS.to [0] rfl
  refine ⟨hT, ?_⟩
  obtain ⟨y40, hy40, h⟩ := bnd h
  refine .by1 39 rfl (.call0 hS Tryd.func33 (impl_sw_ok hy40) rfl rfl ?_ rfl (by kernel_rfl) rfl rfl) (by kernel_rfl)
  intro W hS
  have hT : Sep _ _ W [.box g1 23 [.int .i64 21, .int .i64 0, .int .i64 0, .int .i64 0, .int .i64 0]] := hS.to [0] rfl
  refine ⟨hT, ?_⟩
  obtain ⟨y41, hy41, h⟩ := bnd h
  refine .by1 40 rfl (.call0 hS Tryd.func28 (impl_addi_ok hy41) rfl rfl ?_ rfl (by kernel_rfl) rfl rfl) (by kernel_rfl)
  intro W hS
  have hT : Sep _ _ W [.box g1 23 [.int .i64 21, .int .i64 0, .int .i64 0, .int .i64 0, .int .i64 0]] := hS.to [0] rfl
  refine ⟨hT, ?_⟩
  obtain ⟨y42, hy42, h⟩ := bnd h
  refine .by1 41 rfl (.call0 hS Tryd.func33 (impl_sw_ok hy42) rfl rfl ?_ rfl (by kernel_rfl) rfl rfl) (by kernel_rfl)
  intro W hS
  have hT : Sep _ _ W [.box g1 23 [.int .i64 21, .int .i64 0, .int .i64 0, .int .i64 0, .int .i64 0]] := hS.to [0] rfl
  refine ⟨hT, ?_⟩
  obtain ⟨y43, hy43, h⟩ := bnd h
  refine .by1 42 rfl (.call0 hS Tryd.func33 (impl_sw_ok hy43) rfl rfl ?_ rfl (by kernel_rfl) rfl rfl) (by kernel_rfl)
  intro W hS
  have hT : Sep _ _ W [.box g1 23 [.int .i64 21, .int .i64 0, .int .i64 0, .int .i64 0, .int .i64 0]] := hS.to [0] rfl
  refine ⟨hT, ?_⟩
  obtain ⟨y44, hy44, h⟩ := bnd h
  refine .by1 43 rfl (.call0 hS Tryd.func34 (impl_back_ok hy44) rfl rfl ?_ rfl (by kernel_rfl) rfl rfl) (by kernel_rfl)
  intro W hS
  have hT : Sep _ _ W [.box g1 23 [.int .i64 21, .int .i64 0, .int .i64 0, .int .i64 0, .int .i64 0]] := hS.to [0] rfl
  refine ⟨hT, ?_⟩
  obtain ⟨y45, hy45, h⟩ := bnd h
  refine .by1 45 rfl (.call0 hS Tryd.func33 (impl_sw_ok hy45) rfl rfl ?_ rfl (by kernel_rfl) rfl rfl) (by kernel_rfl)
  intro W hS
  have hT : Sep _ _ W [.box g1 23 [.int .i64 21, .int .i64 0, .int .i64 0, .int .i64 0, .int .i64 0]] := hS.to [0] rfl
  refine ⟨hT, ?_⟩
  obtain ⟨y46, hy46, h⟩ := bnd h
  refine .by1 46 rfl (.call0 hS Tryd.func34 (impl_back_ok hy46) rfl rfl ?_ rfl (by kernel_rfl) rfl rfl) (by kernel_rfl)
  intro W hS
  have hT : Sep _ _ W [.box g1 23 [.int .i64 21, .int .i64 0, .int .i64 0, .int .i64 0, .int .i64 0]] := hS.to [0] rfl
  refine ⟨hT, ?_⟩
  obtain ⟨y47, hy47, h⟩ := bnd h
  refine .by1 47 rfl (.call0 hS Tryd.func28 (impl_addi_ok hy47) rfl rfl ?_ rfl (by kernel_rfl) rfl rfl) (by kernel_rfl)
  intro W hS
  have hT : Sep _ _ W [.box g1 23 [.int .i64 21, .int .i64 0, .int .i64 0, .int .i64 0, .int .i64 0]] := hS.to [0] rfl
  refine ⟨hT, ?_⟩
  obtain ⟨y48, hy48, h⟩ := bnd h
  refine .by1 48 rfl (.call0 hS Tryd.func33 (impl_sw_ok hy48) rfl rfl ?_ rfl (by kernel_rfl) rfl rfl) (by kernel_rfl)
  intro W hS
  have hT : Sep _ _ W [.box g1 23 [.int .i64 21, .int .i64 0, .int .i64 0, .int .i64 0, .int .i64 0]] := hS.to [0] rfl
  refine ⟨hT, ?_⟩
  obtain ⟨y49, hy49, h⟩ := bnd h
  refine .by1 49 rfl (.call0 hS Tryd.func30 (impl_jumpTo_ok hy49) rfl rfl ?_ rfl (by kernel_rfl) rfl rfl) (by kernel_rfl)
  intro W hS
  have hT : Sep _ _ W [.box g1 23 [.int .i64 21, .int .i64 0, .int .i64 0, .int .i64 0, .int .i64 0]] := hS.to [0] rfl
  refine ⟨hT, ?_⟩
  obtain ⟨y50, hy50, h⟩ := bnd h
  refine .by1 50 rfl (.call0 hS Tryd.func28 (impl_addi_ok hy50) rfl rfl ?_ rfl (by kernel_rfl) rfl rfl) (by kernel_rfl)
  intro W hS
  have hT : Sep _ _ W [.box g1 23 [.int .i64 21, .int .i64 0, .int .i64 0, .int .i64 0, .int .i64 0]] := hS.to [0] rfl
  refine ⟨hT, ?_⟩
  obtain ⟨y51, hy51, h⟩ := bnd h
  refine .by1 51 rfl (.call0 hS Tryd.func32 (impl_lw_ok hy51) rfl rfl ?_ rfl (by kernel_rfl) rfl rfl) (by kernel_rfl)
  intro W hS
  have hT : Sep _ _ W [.box g1 23 [.int .i64 21, .int .i64 0, .int .i64 0, .int .i64 0, .int .i64 0]] := hS.to [0] rfl
  refine ⟨hT, ?_⟩
  obtain ⟨y52, hy52, h⟩ := bnd h
  refine .by1 52 rfl (.call0 hS Tryd.func28 (impl_addi_ok hy52) rfl rfl ?_ rfl (by kernel_rfl) rfl rfl) (by kernel_rfl)
  intro W hS
  have hT : Sep _ _ W [.box g1 23 [.int .i64 21, .int .i64 0, .int .i64 0, .int .i64 0, .int .i64 0]] := hS.to [0] rfl
  refine ⟨hT, ?_⟩
  obtain ⟨y53, hy53, h⟩ := bnd h
  refine .by1 53 rfl (.call0 hS Tryd.func33 (impl_sw_ok hy53) rfl rfl ?_ rfl (by kernel_rfl) rfl rfl) (by kernel_rfl)
  intro W hS
  have hT : Sep _ _ W [.box g1 23 [.int .i64 21, .int .i64 0, .int .i64 0, .int .i64 0, .int .i64 0]] := hS.to [0] rfl
  refine ⟨hT, ?_⟩
  obtain ⟨y54, hy54, h⟩ := bnd h
  refine .by1 54 rfl (.call0 hS Tryd.func33 (impl_sw_ok hy54) rfl rfl ?_ rfl (by kernel_rfl) rfl rfl) (by kernel_rfl)
  intro W hS
  have hT : Sep _ _ W [.box g1 23 [.int .i64 21, .int .i64 0, .int .i64 0, .int .i64 0, .int .i64 0]] := hS.to [0] rfl
  refine ⟨hT, ?_⟩
  refine .by1 55 rfl (.li [y1, y2, y3, y4, y5, y6, y7, y8, y9, y10, y11, y12, y13, y14, y15, y16, y17, y18, y19, y20, y21, y22, y23, y24, y25, y26, y27, y28, y29, y30, y31, y32, y33, y34, y35, y36, y37, y38, y39, y40, y41, y42, y43, y44, (Instr.mk 21 0 0 0 0), y45, y46, y47, y48, y49, y50, y51, y52, y53, y54] dInstr T.u33 T.t23 hS rfl rfl rfl rfl ?_ rfl (fun _ => rfl) rfl rfl rfl rfl) (by kernel_rfl)
  intro A1 c1 W hS
  have hT : Sep _ _ W [.box g1 23 [.int .i64 21, .int .i64 0, .int .i64 0, .int .i64 0, .int .i64 0]] := hS.to [1] rfl
  refine ⟨hT, ?_⟩
  refine .t1 56 rfl (fun W hT => pr rfl) hT ?_ (by kernel_rfl) (by kernel_rfl) (by kernel_rfl) rfl rfl
  refine .done ?_ (by kernel_rfl)
  refine .seq ?_
  refine .seq ?_
  refine .region ?_
  refine .r (lg T.t44 (hG.at hS id) rfl rfl rfl rfl rfl) ?_ rfl rfl
  refine .p rfl rfl rfl ?_
  refine .nil ?_
  refine .block ?_
  obtain ⟨y55, hy55, h⟩ := bnd h
  refine .via (.iter (fun s1 E' W' => ∃ (A4 : Option Addr) (c4 : Nat), SubL E' [(1, .pointer (some ⟨g1, 0, none⟩)), (2, .slice A4 s1.1.length c4), (64, .agg (savedRegs.map (Value.int .i64)).toArray), (65, .int .i64 s1.2)] ∧ Sep No w W' [.box g1 23 [.int .i64 21, .int .i64 0, .int .i64 0, .int .i64 0, .int .i64 0], rowE A4 c4 23 5 dInstr s1.1]) (fun y56 x E' W' => x = .exit 0 ∧ ∃ (A5 : Option Addr) (c5 : Nat), SubL E' [(1, .pointer (some ⟨g1, 0, none⟩)), (2, .slice A5 y56.length c5)] ∧ Sep No w W' [.box g1 23 [.int .i64 21, .int .i64 0, .int .i64 0, .int .i64 0, .int .i64 0], rowE A5 c5 23 5 dInstr y56]) hy55 ⟨A1, c1, sb rfl, hS.to [1, 0] rfl⟩ ?_) ?_
  · intro s1 y57 E W h hI
    obtain ⟨A3, c3, hE, hS⟩ := hI
    refine CW.sub hE ?_
    unfold impl_runtimeList_b1 at h
    refine .seq ?_
    refine .region ?_
    refine .p rfl rfl rfl ?_
    refine .nil ?_
    refine .seq ?_
    refine .cond rfl (fun hb => ?_) (fun hb => ?_)
    · have h := sel_t hb h
      refine .skip ?_
      refine .seq ?_
      refine .block ?_
      refine .seq ?_
      refine .region ?_
      refine .p rfl rfl rfl ?_
      obtain ⟨x1, hx1, h⟩ := bnd h
      refine .r (iv (f := Value.int .i64) hx1 T.u44 T.t3 rfl rfl rfl rfl) ?_ rfl rfl
      refine .p rfl rfl rfl ?_
      refine .p rfl rfl rfl ?_
      refine .nil ?_
      refine .region ?_
      refine .p rfl rfl rfl ?_
      refine .p rfl rfl rfl ?_
      refine .p rfl rfl rfl ?_
      refine .p rfl rfl rfl ?_
      refine .p rfl rfl rfl ?_
      obtain ⟨y58, hy58, h⟩ := bnd h
      refine .c (.call0 hS Tryd.func33 (impl_sw_ok hy58) rfl rfl ?_ rfl (by kernel_rfl) rfl rfl)
      intro W hS
      refine .c (.li [y58] dInstr T.u33 T.t23 hS rfl rfl rfl rfl ?_ rfl (fun _ => rfl) rfl rfl rfl rfl)
      intro A6 c6 W hS
      obtain ⟨r1, hr1, h⟩ := bnd h
      have hT := hS.p2
      have hU := hT.p1.lend
      refine .c (.appr hr1 hT hU (fun _ => rfl) T.u33 T.t23 rfl rfl rfl ?_ rfl rfl rfl rfl rfl)
      intro A7 c7 W hS
      refine .p rfl rfl rfl ?_
      refine .nil ?_
      refine .region ?_
      refine .p rfl rfl rfl ?_
      refine .p rfl rfl rfl ?_
      refine .nil ?_
      cases h
      exact ⟨rfl, A7, c7, sb rfl, hS.to [2, 0] rfl⟩
    · have h := sel_f hb h
      refine .exit ?_
      cases h
      exact ⟨by simp, rfl, A3, c3, sb rfl, hS.to [0, 0] rfl⟩
  · intro x E W hJ
    obtain ⟨rfl, A8, c8, hE, hS⟩ := hJ
    refine ⟨_, hE.sub, ?_⟩
    refine .seq ?_
    refine .region ?_
    refine .p rfl rfl rfl ?_
    obtain ⟨y59, hy59, h⟩ := bnd h
    refine .c (.call0 hS Tryd.func32 (impl_lw_ok hy59) rfl rfl ?_ rfl (by kernel_rfl) rfl rfl)
    intro W hS
    obtain ⟨y60, hy60, h⟩ := bnd h
    refine .c (.call0 hS Tryd.func32 (impl_lw_ok hy60) rfl rfl ?_ rfl (by kernel_rfl) rfl rfl)
    intro W hS
    obtain ⟨y61, hy61, h⟩ := bnd h
    refine .c (.call0 hS Tryd.func29 (impl_branch_ok hy61) rfl rfl ?_ rfl (by kernel_rfl) rfl rfl)
    intro W hS
    obtain ⟨y62, hy62, h⟩ := bnd h
    refine .c (.call0 hS Tryd.func28 (impl_addi_ok hy62) rfl rfl ?_ rfl (by kernel_rfl) rfl rfl)
    intro W hS
    obtain ⟨y63, hy63, h⟩ := bnd h
    refine .c (.call0 hS Tryd.func32 (impl_lw_ok hy63) rfl rfl ?_ rfl (by kernel_rfl) rfl rfl)
    intro W hS
    obtain ⟨y64, hy64, h⟩ := bnd h
    refine .c (.call0 hS Tryd.func29 (impl_branch_ok hy64) rfl rfl ?_ rfl (by kernel_rfl) rfl rfl)
    intro W hS
    obtain ⟨y65, hy65, h⟩ := bnd h
    refine .c (.call0 hS Tryd.func32 (impl_lw_ok hy65) rfl rfl ?_ rfl (by kernel_rfl) rfl rfl)
    intro W hS
    refine .c (.li [y59, y60, y61, y62, y63, y64, y65] dInstr T.u33 T.t23 hS rfl rfl rfl rfl ?_ rfl (fun _ => rfl) rfl rfl rfl rfl)
    intro A9 c9 W hS
    obtain ⟨r2, hr2, h⟩ := bnd h
    have hT := hS.p2
    have hU := hT.p1.lend
    refine .c (.appr hr2 hT hU (fun _ => rfl) T.u33 T.t23 rfl rfl rfl ?_ rfl rfl rfl rfl rfl)
    intro A10 c10 W hS
    refine .p rfl rfl rfl ?_
    refine .nil ?_
    refine .seq ?_
    refine .seq ?_
    refine .region ?_
    refine .r (lg T.t44 (hG.at hS id) rfl rfl rfl rfl rfl) ?_ rfl rfl
    refine .p rfl rfl rfl ?_
    refine .nil ?_
    refine .block ?_
    obtain ⟨y66, hy66, h⟩ := bnd h
    refine .via (.iter (fun s2 E' W' => ∃ (A13 : Option Addr) (c13 : Nat), SubL E' [(1, .pointer (some ⟨g1, 0, none⟩)), (2, .slice A13 s2.1.length c13), (88, .agg (savedRegs.map (Value.int .i64)).toArray), (89, .int .i64 s2.2)] ∧ Sep No w W' [rowE A9 c9 23 5 dInstr [y59, y60, y61, y62, y63, y64, y65], .box g1 23 [.int .i64 21, .int .i64 0, .int .i64 0, .int .i64 0, .int .i64 0], rowE A13 c13 23 5 dInstr s2.1]) (fun y67 x E' W' => x = .exit 2 ∧ ∃ (A14 : Option Addr) (c14 : Nat), SubL E' [(1, .pointer (some ⟨g1, 0, none⟩)), (2, .slice A14 y67.length c14)] ∧ Sep No w W' [rowE A9 c9 23 5 dInstr [y59, y60, y61, y62, y63, y64, y65], .box g1 23 [.int .i64 21, .int .i64 0, .int .i64 0, .int .i64 0, .int .i64 0], rowE A14 c14 23 5 dInstr y67]) hy66 ⟨A10, c10, sb rfl, hS.to [1, 1, 0] rfl⟩ ?_) ?_
    · intro s2 y68 E W h hI
      obtain ⟨A12, c12, hE, hS⟩ := hI
      refine CW.sub hE ?_
      unfold impl_runtimeList_b2 at h
      refine .seq ?_
      refine .region ?_
      refine .p rfl rfl rfl ?_
      refine .nil ?_
      refine .seq ?_
      refine .cond rfl (fun hb => ?_) (fun hb => ?_)
      · have h := sel_t hb h
        refine .skip ?_
        refine .seq ?_
        refine .block ?_
        refine .seq ?_
        refine .region ?_
        refine .p rfl rfl rfl ?_
        obtain ⟨x2, hx2, h⟩ := bnd h
        refine .r (iv (f := Value.int .i64) hx2 T.u44 T.t3 rfl rfl rfl rfl) ?_ rfl rfl
        refine .p rfl rfl rfl ?_
        refine .p rfl rfl rfl ?_
        refine .nil ?_
        refine .region ?_
        refine .p rfl rfl rfl ?_
        refine .p rfl rfl rfl ?_
        refine .p rfl rfl rfl ?_
        refine .p rfl rfl rfl ?_
        refine .p rfl rfl rfl ?_
        obtain ⟨y69, hy69, h⟩ := bnd h
        refine .c (.call0 hS Tryd.func32 (impl_lw_ok hy69) rfl rfl ?_ rfl (by kernel_rfl) rfl rfl)
        intro W hS
        refine .c (.li [y69] dInstr T.u33 T.t23 hS rfl rfl rfl rfl ?_ rfl (fun _ => rfl) rfl rfl rfl rfl)
        intro A15 c15 W hS
        obtain ⟨r3, hr3, h⟩ := bnd h
        have hT := hS.p3
        have hU := hT.p1.lend
        refine .c (.appr hr3 hT hU (fun _ => rfl) T.u33 T.t23 rfl rfl rfl ?_ rfl rfl rfl rfl rfl)
        intro A16 c16 W hS
        refine .p rfl rfl rfl ?_
        refine .nil ?_
        refine .region ?_
        refine .p rfl rfl rfl ?_
        refine .p rfl rfl rfl ?_
        refine .nil ?_
        cases h
        exact ⟨rfl, A16, c16, sb rfl, hS.to [2, 2, 0] rfl⟩
      · have h := sel_f hb h
        refine .exit ?_
        cases h
        exact ⟨by simp, rfl, A12, c12, sb rfl, hS.to [0, 0, 0] rfl⟩
    · intro x E W hJ
      obtain ⟨rfl, A17, c17, hE, hS⟩ := hJ
      refine ⟨_, hE.sub, ?_⟩
      refine .seq ?_
      refine .rs hS [0, 0] T.mix ?_
      intro W hS
      have hT : Sep _ _ W [rowE A9 c9 23 5 dInstr [y59, y60, y61, y62, y63, y64, y65], .box g1 23 [.int .i64 21, .int .i64 0, .int .i64 0, .int .i64 0, .int .i64 0]] := hS.to [0, 0] rfl
      refine .t1 0 rfl (fun W hT => pr rfl) hT ?_ (by kernel_rfl) (by kernel_rfl) (by kernel_rfl) rfl rfl
      refine .t1 4 rfl (fun W hT => ld T.t23 hT.p1 rfl rfl rfl rfl rfl) hT ?_ (by kernel_rfl) (by kernel_rfl) (by kernel_rfl) rfl rfl
      obtain ⟨y70, hy70, h⟩ := bnd h
      refine .by1 1 rfl (.call0 hS Tryd.func32 (impl_lw_ok hy70) rfl rfl ?_ rfl (by kernel_rfl) rfl rfl) (by kernel_rfl)
      intro W hS
      have hT : Sep _ _ W [rowE A9 c9 23 5 dInstr [y59, y60, y61, y62, y63, y64, y65], .box g1 23 [.int .i64 21, .int .i64 0, .int .i64 0, .int .i64 0, .int .i64 0]] := hS.to [0, 0] rfl
      refine ⟨hT, ?_⟩
      obtain ⟨y71, hy71, h⟩ := bnd h
      refine .by1 2 rfl (.call0 hS Tryd.func34 (impl_back_ok hy71) rfl rfl ?_ rfl (by kernel_rfl) rfl rfl) (by kernel_rfl)
      intro W hS
      have hT : Sep _ _ W [rowE A9 c9 23 5 dInstr [y59, y60, y61, y62, y63, y64, y65], .box g1 23 [.int .i64 21, .int .i64 0, .int .i64 0, .int .i64 0, .int .i64 0]] := hS.to [0, 0] rfl
      refine ⟨hT, ?_⟩
      obtain ⟨y72, hy72, h⟩ := bnd h
      refine .by1 3 rfl (.call0 hS Tryd.func28 (impl_addi_ok hy72) rfl rfl ?_ rfl (by kernel_rfl) rfl rfl) (by kernel_rfl)
      intro W hS
      have hT : Sep _ _ W [rowE A9 c9 23 5 dInstr [y59, y60, y61, y62, y63, y64, y65], .box g1 23 [.int .i64 21, .int .i64 0, .int .i64 0, .int .i64 0, .int .i64 0]] := hS.to [0, 0] rfl
      refine ⟨hT, ?_⟩
      refine .by1 5 rfl (.li [y70, y71, y72, (Instr.mk 21 0 0 0 0)] dInstr T.u33 T.t23 hS rfl rfl rfl rfl ?_ rfl (fun _ => rfl) rfl rfl rfl rfl) (by kernel_rfl)
      intro A18 c18 W hS
      have hT : Sep _ _ W [rowE A9 c9 23 5 dInstr [y59, y60, y61, y62, y63, y64, y65], .box g1 23 [.int .i64 21, .int .i64 0, .int .i64 0, .int .i64 0, .int .i64 0]] := hS.to [1, 1] rfl
      refine ⟨hT, ?_⟩
      obtain ⟨r4, hr4, h⟩ := bnd h
      have hT := hS.p3
      have hU := hT.p1.lend
      refine .by1 6 rfl (.appr hr4 hT hU (fun _ => rfl) T.u33 T.t23 rfl rfl rfl ?_ rfl rfl rfl rfl rfl) (by kernel_rfl)
      intro A19 c19 W hS
      have hT : Sep _ _ W [rowE A9 c9 23 5 dInstr [y59, y60, y61, y62, y63, y64, y65], .box g1 23 [.int .i64 21, .int .i64 0, .int .i64 0, .int .i64 0, .int .i64 0]] := hS.to [2, 2] rfl
      refine ⟨hT, ?_⟩
      refine .t1 7 rfl (fun W hT => pr rfl) hT ?_ (by kernel_rfl) (by kernel_rfl) (by kernel_rfl) rfl rfl
      refine .done ?_ (by kernel_rfl)
      refine .ret ?_
      cases h
      exact fin_ret (vs := [_]) (A19, c19) (rt rfl rn) rfl (hS.to [0] rfl)
theorem impl_RuntimeInstr_ok {a0 : Int} {w : World} {r : Instr × Bool} (h : impl_RuntimeInstr a0 = some r) (hG : Gl w) : Calls Tryd.prog 10 #[.int .i64 a0] w (Ret No w (fun s : Unit => .tuple #[.agg #[.int .i64 r.1.Op, .int .i64 r.1.Rd, .int .i64 r.1.Rs, .int .i64 r.1.Rt, .int .i64 r.1.Imm], .bool r.2]) (fun s => [])) := by
  unfold impl_RuntimeInstr at h
  refine enter Tryd.func10 rfl rfl ?_
  have hS := Sep.start w
  refine .seq ?_
  refine .region ?_
  refine .c (.alloc T.t23 hS ?_ rfl rfl rfl)
  intro g1 W hS
  refine .p rfl rfl rfl ?_
  refine .nil ?_
  refine .seq ?_
  refine .region ?_
  obtain ⟨y1, hy1, h⟩ := bnd h
  refine .c (.call1 hS Tryd.func16 (impl_runtimeList_ok hy1 (hG.at hS id)) rfl rfl ?_ rfl (by kernel_rfl) rfl rfl)
  intro A1 c1 W hS
  refine .p rfl rfl rfl ?_
  refine .nil ?_
  refine .seq ?_
  refine .seq ?_
  refine .region ?_
  refine .p rfl rfl rfl ?_
  refine .p rfl rfl rfl ?_
  refine .p rfl rfl rfl ?_
  refine .chunk 5 13 ((decide (a0 < 0)) || (decide (a0 ≥ (y1.length : Int)))) hS ?_ ?_
  · refine .both (decide (a0 < 0)) (fun hb => ?_) (fun hb => ?_)
    · skip
      refine .x hb ?_ rfl rfl
      refine .x hb ?_ rfl rfl
      refine .x hb ?_ rfl rfl
      refine .x hb ?_ rfl rfl
      refine .r (pkt hb rfl rfl rfl) ?_ rfl rfl
      exact .nil (ck 5 hS rfl (or_t hb) rfl rfl)
    · have hg1 := hb
      refine .g hg1 (.p rfl rfl rfl ?_) rfl
      refine .g hg1 (.p rfl rfl rfl ?_) rfl
      refine .g hg1 (.r (len T.u33 rfl rfl) ?_ rfl rfl) rfl
      refine .g hg1 (.p rfl rfl rfl ?_) rfl
      refine .r (pkf hg1 rfl rfl rfl) ?_ rfl rfl
      exact .nil (ck 5 hS rfl (or_f hg1) rfl rfl)
  intro W hS
  refine .nil ?_
  refine .cond rfl (fun hb => ?_) (fun hb => ?_)
  · have h := sel_t hb h
    refine .seq ?_
    refine .region ?_
    refine .r (bs T.s23 rfl rfl) ?_ rfl rfl
    refine .c (.st T.t23 hS.p1 rfl rfl rfl ?_ rfl rfl rfl rfl rfl)
    intro W hS
    refine .p rfl rfl rfl ?_
    refine .nil ?_
    refine .ret ?_
    cases h
    exact fin_ret (vs := [_, _]) () (rc hS T.t23 rfl (rt rfl rn) rfl rfl) rfl (hS.to [] rfl)
  · have h := sel_f hb h
    refine .skip ?_
    refine .seq ?_
    refine .region ?_
    refine .p rfl rfl rfl ?_
    refine .p rfl rfl rfl ?_
    obtain ⟨x1, hx1, h⟩ := bnd h
    refine .r (ix hS.lend hx1 T.u33 T.t23 rfl rfl rfl) ?_ rfl rfl
    refine .r (lde (Rd.flat hS.lend hx1 rfl) T.t23 rfl rfl rfl rfl rfl) ?_ rfl rfl
    refine .c (.st T.t23 hS.p1 rfl rfl rfl ?_ rfl rfl rfl rfl rfl)
    intro W hS
    refine .p rfl rfl rfl ?_
    refine .nil ?_
    refine .ret ?_
    cases h
    exact fin_ret (vs := [_, _]) () (rc hS T.t23 rfl (rt rfl rn) rfl rfl) rfl (hS.to [] rfl)
theorem laws_eqInstr_ok {a0 : Instr} {a1 : Instr} {w : World} {r : Bool} (h : laws_eqInstr a0 a1 = some r) : Calls Tryd.prog 11 #[.agg #[.int .i64 a0.Op, .int .i64 a0.Rd, .int .i64 a0.Rs, .int .i64 a0.Rt, .int .i64 a0.Imm], .agg #[.int .i64 a1.Op, .int .i64 a1.Rd, .int .i64 a1.Rs, .int .i64 a1.Rt, .int .i64 a1.Imm]] w (Ret No w (fun s : Unit => .bool r) (fun s => [])) := by
  unfold laws_eqInstr at h
  refine enter Tryd.func11 rfl rfl ?_
  have hS := Sep.start w
  refine .seq ?_
  refine .region ?_
  refine .c (.box hS rfl rfl ?_ rfl rfl)
  intro g1 W hS
  refine .c (.box hS rfl rfl ?_ rfl rfl)
  intro g2 W hS
  refine .p rfl rfl rfl ?_
  refine .nil ?_
  refine .seq ?_
  refine .seq ?_
  refine .region ?_
  refine .r (fa T.f23_0 rfl rfl rfl) ?_ rfl rfl
  refine .r (ld T.t3 hS.p1 rfl rfl rfl rfl rfl) ?_ rfl rfl
  refine .r (fa T.f23_0 rfl rfl rfl) ?_ rfl rfl
  refine .r (ld T.t3 hS rfl rfl rfl rfl rfl) ?_ rfl rfl
  refine .p rfl rfl rfl ?_
  refine .nil ?_
  refine .cond rfl (fun hb => ?_) (fun hb => ?_)
  · have h := sel_t hb h
    refine .seq ?_
    refine .region ?_
    refine .p rfl rfl rfl ?_
    refine .nil ?_
    refine .ret ?_
    cases h
    exact fin_ret (vs := [_]) () (rt rfl rn) rfl (hS.to [] rfl)
  · have h := sel_f hb h
    refine .skip ?_
    refine .seq ?_
    refine .seq ?_
    refine .region ?_
    refine .r (fa T.f23_1 rfl rfl rfl) ?_ rfl rfl
    refine .r (ld T.t3 hS.p1 rfl rfl rfl rfl rfl) ?_ rfl rfl
    refine .r (fa T.f23_1 rfl rfl rfl) ?_ rfl rfl
    refine .r (ld T.t3 hS rfl rfl rfl rfl rfl) ?_ rfl rfl
    refine .p rfl rfl rfl ?_
    refine .nil ?_
    refine .cond rfl (fun hb => ?_) (fun hb => ?_)
    · have h := sel_t hb h
      refine .seq ?_
      refine .region ?_
      refine .p rfl rfl rfl ?_
      refine .nil ?_
      refine .ret ?_
      cases h
      exact fin_ret (vs := [_]) () (rt rfl rn) rfl (hS.to [] rfl)
    · have h := sel_f hb h
      refine .skip ?_
      refine .seq ?_
      refine .seq ?_
      refine .region ?_
      refine .r (fa T.f23_2 rfl rfl rfl) ?_ rfl rfl
      refine .r (ld T.t3 hS.p1 rfl rfl rfl rfl rfl) ?_ rfl rfl
      refine .r (fa T.f23_2 rfl rfl rfl) ?_ rfl rfl
      refine .r (ld T.t3 hS rfl rfl rfl rfl rfl) ?_ rfl rfl
      refine .p rfl rfl rfl ?_
      refine .nil ?_
      refine .cond rfl (fun hb => ?_) (fun hb => ?_)
      · have h := sel_t hb h
        refine .seq ?_
        refine .region ?_
        refine .p rfl rfl rfl ?_
        refine .nil ?_
        refine .ret ?_
        cases h
        exact fin_ret (vs := [_]) () (rt rfl rn) rfl (hS.to [] rfl)
      · have h := sel_f hb h
        refine .skip ?_
        refine .seq ?_
        refine .seq ?_
        refine .region ?_
        refine .r (fa T.f23_3 rfl rfl rfl) ?_ rfl rfl
        refine .r (ld T.t3 hS.p1 rfl rfl rfl rfl rfl) ?_ rfl rfl
        refine .r (fa T.f23_3 rfl rfl rfl) ?_ rfl rfl
        refine .r (ld T.t3 hS rfl rfl rfl rfl rfl) ?_ rfl rfl
        refine .p rfl rfl rfl ?_
        refine .nil ?_
        refine .cond rfl (fun hb => ?_) (fun hb => ?_)
        · have h := sel_t hb h
          refine .seq ?_
          refine .region ?_
          refine .p rfl rfl rfl ?_
          refine .nil ?_
          refine .ret ?_
          cases h
          exact fin_ret (vs := [_]) () (rt rfl rn) rfl (hS.to [] rfl)
        · have h := sel_f hb h
          refine .skip ?_
          refine .seq ?_
          refine .seq ?_
          refine .region ?_
          refine .r (fa T.f23_4 rfl rfl rfl) ?_ rfl rfl
          refine .r (ld T.t3 hS.p1 rfl rfl rfl rfl rfl) ?_ rfl rfl
          refine .r (fa T.f23_4 rfl rfl rfl) ?_ rfl rfl
          refine .r (ld T.t3 hS rfl rfl rfl rfl rfl) ?_ rfl rfl
          refine .p rfl rfl rfl ?_
          refine .nil ?_
          refine .cond rfl (fun hb => ?_) (fun hb => ?_)
          · have h := sel_t hb h
            refine .seq ?_
            refine .region ?_
            refine .p rfl rfl rfl ?_
            refine .nil ?_
            refine .ret ?_
            cases h
            exact fin_ret (vs := [_]) () (rt rfl rn) rfl (hS.to [] rfl)
          · have h := sel_f hb h
            refine .skip ?_
            refine .seq ?_
            refine .region ?_
            refine .p rfl rfl rfl ?_
            refine .nil ?_
            refine .ret ?_
            cases h
            exact fin_ret (vs := [_]) () (rt rfl rn) rfl (hS.to [] rfl)
theorem laws_FnExactRuntimeInstr_ok {a0 : Int} {w : World} {r : Bool} (h : laws_FnExactRuntimeInstr a0 = some r) (hG : Gl w) : Calls Tryd.prog 3 #[.int .i64 a0] w (Ret No w (fun s : Unit => .bool r) (fun s => [])) := by
  unfold laws_FnExactRuntimeInstr at h
  refine enter Tryd.func3 rfl rfl ?_
  have hS := Sep.start w
  refine .seq ?_
  refine .region ?_
  refine .p rfl rfl rfl ?_
  refine .nil ?_
  refine .seq ?_
  refine .region ?_
  refine .p rfl rfl rfl ?_
  obtain ⟨y1, hy1, h⟩ := bnd h
  refine .c (.call0 hS Tryd.func9 (spec_RuntimeInstr_ok hy1) rfl rfl ?_ rfl (by kernel_rfl) rfl rfl)
  intro W hS
  refine .p rfl rfl rfl ?_
  refine .p rfl rfl rfl ?_
  refine .p rfl rfl rfl ?_
  refine .c (.alloc T.t23 hS ?_ rfl rfl rfl)
  intro g1 W hS
  refine .c (.st T.t23 hS rfl rfl rfl ?_ rfl rfl rfl rfl rfl)
  intro W hS
  refine .p rfl rfl rfl ?_
  refine .nil ?_
  refine .seq ?_
  refine .region ?_
  refine .p rfl rfl rfl ?_
  obtain ⟨y2, hy2, h⟩ := bnd h
  refine .c (.call0 hS Tryd.func10 (impl_RuntimeInstr_ok hy2 (hG.at hS id)) rfl rfl ?_ rfl (by kernel_rfl) rfl rfl)
  intro W hS
  refine .p rfl rfl rfl ?_
  refine .p rfl rfl rfl ?_
  refine .p rfl rfl rfl ?_
  refine .c (.alloc T.t23 hS ?_ rfl rfl rfl)
  intro g2 W hS
  refine .c (.st T.t23 hS rfl rfl rfl ?_ rfl rfl rfl rfl rfl)
  intro W hS
  refine .p rfl rfl rfl ?_
  refine .nil ?_
  refine .seq ?_
  refine .seq ?_
  refine .region ?_
  refine .r (ld T.t23 hS rfl rfl rfl rfl rfl) ?_ rfl rfl
  refine .r (ld T.t23 hS.p1 rfl rfl rfl rfl rfl) ?_ rfl rfl
  obtain ⟨y3, hy3, h⟩ := bnd h
  refine .c (.call0 hS Tryd.func11 (laws_eqInstr_ok hy3) rfl rfl ?_ rfl (by kernel_rfl) rfl rfl)
  intro W hS
  refine .p rfl rfl rfl ?_
  refine .p rfl rfl rfl ?_
  refine .chunk 4 25 ((!y3) || (y2.2 != y1.2)) hS ?_ ?_
  · refine .both (!y3) (fun hb => ?_) (fun hb => ?_)
    · skip
      refine .x hb ?_ rfl rfl
      refine .x hb ?_ rfl rfl
      refine .x hb ?_ rfl rfl
      refine .r (pkt hb rfl rfl rfl) ?_ rfl rfl
      exact .nil (ck 4 hS rfl (or_t hb) rfl rfl)
    · have hg1 := hb
      refine .g hg1 (.p rfl rfl rfl ?_) rfl
      refine .g hg1 (.p rfl rfl rfl ?_) rfl
      refine .g hg1 (.r (neb T.u4 rfl rfl rfl) ?_ rfl rfl) rfl
      refine .r (pkf hg1 rfl rfl rfl) ?_ rfl rfl
      exact .nil (ck 4 hS rfl (or_f hg1) rfl rfl)
  intro W hS
  refine .nil ?_
  refine .cond rfl (fun hb => ?_) (fun hb => ?_)
  · have h := sel_t hb h
    refine .seq ?_
    refine .region ?_
    refine .p rfl rfl rfl ?_
    refine .nil ?_
    refine .ret ?_
    cases h
    exact fin_ret (vs := [_]) () (rt rfl rn) rfl (hS.to [] rfl)
  · have h := sel_f hb h
    refine .skip ?_
    refine .seq ?_
    refine .region ?_
    refine .p rfl rfl rfl ?_
    refine .nil ?_
    refine .ret ?_
    cases h
    exact fin_ret (vs := [_]) () (rt rfl rn) rfl (hS.to [] rfl)
theorem spec_l6Open_ok {a0 : List Int} {A_0 : Option Addr} {c_0 : Nat} {w : World} {r : L6Rd} (h : spec_l6Open a0 = some r) (q_0 : Rd w (Old No w) A_0 c_0 5 1 (D.int .u8) a0) : Calls Tryd.prog 17 #[.slice A_0 (a0).length c_0] w (Ret No w (fun s : Nat × {x : SV // ∀ (W : World) (T : Nat → Prop), Rd W T A_0 c_0 5 1 (D.int .u8) a0 → Rd W T x.1 x.2 5 1 (D.int .u8) r.b} => .pointer (some ⟨s.1, 0, none⟩)) (fun s => [.box s.1 46 [.slice s.2.1.1 (r.b).length s.2.1.2, .int .i64 r.p]])) := by
  unfold spec_l6Open at h
  refine enter Tryd.func17 rfl rfl ?_
  have hS := Sep.start w
  refine .seq ?_
  refine .region ?_
  refine .p rfl rfl rfl ?_
  refine .nil ?_
  obtain ⟨y1, hy1, h⟩ := bnd h
  refine .seq (CW.via (R' := fun x E' W' => x = .normal ∧ ∃ (A1 : Option Addr) (c1 : Nat), (∀ (W : World) (T : Nat → Prop), Rd W T A_0 c_0 5 1 (D.int .u8) a0 → Rd W T A1 c1 5 1 (D.int .u8) y1) ∧ SubL E' [(0, .slice A1 (y1).length c1)] ∧ Sep No w W' []) ?_ ?_)
  · have h := hy1
    refine .seq ?_
    refine .region ?_
    refine .p rfl rfl rfl ?_
    refine .r (len T.u28 rfl rfl) ?_ rfl rfl
    refine .p rfl rfl rfl ?_
    refine .nil ?_
    refine .cond rfl (fun hb => ?_) (fun hb => ?_)
    · have h := sel_t hb h
      refine .region ?_
      refine .p rfl rfl rfl ?_
      obtain ⟨r1, hr1, h⟩ := bnd h
      refine .r (sl hr1 (Rd.cap q_0) T.u28 T.t5 rfl rfl rfl rfl) ?_ rfl rfl
      refine .p rfl rfl rfl ?_
      refine .nil ?_
      cases h
      exact ⟨rfl, (cutA A_0 c_0 (Int.toNat 0) 1), (c_0 - Int.toNat 0), fun _ _ q_0 => (sl_rd hr1 q_0), sb rfl, hS.to [] rfl⟩
    · have h := sel_f hb h
      refine .skip ?_
      cases h
      exact ⟨rfl, A_0, c_0, fun _ _ q_0 => q_0, sb rfl, hS.to [] rfl⟩
  · intro x E W hJ
    obtain ⟨rfl, A2, c2, q2, hE, hS⟩ := hJ
    refine ⟨_, hE.sub, ?_⟩
    refine .seq ?_
    refine .region ?_
    refine .p rfl rfl rfl ?_
    refine .r (bs T.s46 rfl rfl) ?_ rfl rfl
    refine .c (.box hS rfl rfl ?_ rfl rfl)
    intro g1 W hS
    refine .p rfl rfl rfl ?_
    refine .nil ?_
    refine .ret ?_
    cases h
    exact fin_ret (vs := [_]) (g1, ⟨(A2, c2), fun _ _ q_0 => (q2 _ _ q_0)⟩) (rt rfl rn) rfl (hS.to [0] rfl)
theorem spec_l6Rd_pick_ok {a0 : L6Rd} {a1 : Int} {A_0_b : Option Addr} {c_0_b : Nat} {g_0 : Nat} {S : Nat → Prop} {w : World} {r : Int × Int} (h : spec_l6Rd_pick a0 a1 = some r) (q_0_b : Rd w (Old S w) A_0_b c_0_b 5 1 (D.int .u8) a0.b) (hO : Owns w [.box g_0 46 [.slice A_0_b (a0.b).length c_0_b, .int .i64 a0.p]] S) (hlt : ∀ b, S b → b < w.heap.size) : Calls Tryd.prog 18 #[.pointer (some ⟨g_0, 0, none⟩), .int .i64 a1] w (Ret S w (fun s : Unit => .int .i64 r.1) (fun s => [.box g_0 46 [.slice A_0_b (a0.b).length c_0_b, .int .i64 r.2]])) := by
  unfold spec_l6Rd_pick at h
  refine enter Tryd.func18 rfl rfl ?_
  have hS := Sep.startM hO hlt
  refine .seq ?_
  refine .region ?_
  refine .p rfl rfl rfl ?_
  refine .nil ?_
  refine .seq ?_
  refine .region ?_
  refine .p rfl rfl rfl ?_
  refine .p rfl rfl rfl ?_
  refine .p rfl rfl rfl ?_
  refine .r (fa T.f46_1 rfl rfl rfl) ?_ rfl rfl
  refine .r (ld T.t3 hS rfl rfl rfl rfl rfl) ?_ rfl rfl
  refine .p rfl rfl rfl ?_
  refine .p rfl rfl rfl ?_
  refine .r (fa T.f46_1 rfl rfl rfl) ?_ rfl rfl
  refine .c (.st T.t3 hS rfl rfl rfl ?_ rfl rfl rfl rfl rfl)
  intro W hS
  refine .nil ?_
  refine .seq ?_
  refine .seq ?_
  refine .region ?_
  refine .p rfl rfl rfl ?_
  refine .p rfl rfl rfl ?_
  refine .p rfl rfl rfl ?_
  refine .chunk 7 24 ((decide (a1 < 1)) || ((a0.b.length : Int) == 0)) hS ?_ ?_
  · refine .both (decide (a1 < 1)) (fun hb => ?_) (fun hb => ?_)
    · skip
      refine .x hb ?_ rfl rfl
      refine .x hb ?_ rfl rfl
      refine .x hb ?_ rfl rfl
      refine .x hb ?_ rfl rfl
      refine .x hb ?_ rfl rfl
      refine .x hb ?_ rfl rfl
      refine .r (pkt hb rfl rfl rfl) ?_ rfl rfl
      exact .nil (ck 7 hS rfl (or_t hb) rfl rfl)
    · have hg1 := hb
      refine .g hg1 (.p rfl rfl rfl ?_) rfl
      refine .g hg1 (.p rfl rfl rfl ?_) rfl
      refine .g hg1 (.r (fa T.f46_0 rfl rfl rfl) ?_ rfl rfl) rfl
      refine .g hg1 (.r (ld T.t28 hS rfl rfl rfl rfl rfl) ?_ rfl rfl) rfl
      refine .g hg1 (.r (len T.u28 rfl rfl) ?_ rfl rfl) rfl
      refine .g hg1 (.p rfl rfl rfl ?_) rfl
      refine .r (pkf hg1 rfl rfl rfl) ?_ rfl rfl
      exact .nil (ck 7 hS rfl (or_f hg1) rfl rfl)
  intro W hS
  refine .nil ?_
  refine .cond rfl (fun hb => ?_) (fun hb => ?_)
  · have h := sel_t hb h
    refine .seq ?_
    refine .region ?_
    refine .p rfl rfl rfl ?_
    refine .nil ?_
    refine .ret ?_
    cases h
    exact fin_ret (vs := [_]) () (rt rfl rn) rfl (hS.to [0] rfl)
  · have h := sel_f hb h
    refine .skip ?_
    refine .seq ?_
    refine .region ?_
    refine .p rfl rfl rfl ?_
    refine .p rfl rfl rfl ?_
    refine .r (fa T.f46_1 rfl rfl rfl) ?_ rfl rfl
    refine .r (ld T.t3 hS rfl rfl rfl rfl rfl) ?_ rfl rfl
    refine .p rfl rfl rfl ?_
    refine .p rfl rfl rfl ?_
    refine .nil ?_
    refine .seq ?_
    refine .seq ?_
    refine .region ?_
    refine .p rfl rfl rfl ?_
    refine .p rfl rfl rfl ?_
    refine .p rfl rfl rfl ?_
    refine .r (fa T.f46_0 rfl rfl rfl) ?_ rfl rfl
    refine .r (ld T.t28 hS rfl rfl rfl rfl rfl) ?_ rfl rfl
    refine .r (len T.u28 rfl rfl) ?_ rfl rfl
    refine .p rfl rfl rfl ?_
    refine .nil ?_
    refine .cond rfl (fun hb => ?_) (fun hb => ?_)
    · have h := sel_t hb h
      refine .seq ?_
      refine .region ?_
      refine .p rfl rfl rfl ?_
      refine .p rfl rfl rfl ?_
      refine .r (fa T.f46_0 rfl rfl rfl) ?_ rfl rfl
      refine .r (ld T.t28 hS rfl rfl rfl rfl rfl) ?_ rfl rfl
      refine .p rfl rfl rfl ?_
      obtain ⟨x1, hx1, h⟩ := bnd h
      refine .r (ix (hS.keep q_0_b) hx1 T.u28 T.t5 rfl rfl rfl) ?_ rfl rfl
      refine .r (lde (Rd.flat (hS.keep q_0_b) hx1 rfl) T.t5 rfl rfl rfl rfl rfl) ?_ rfl rfl
      refine .r (cv T.u5 T.u3 rfl rfl) ?_ rfl rfl
      refine .p rfl rfl rfl ?_
      obtain ⟨d1, hd1, h⟩ := bnd h
      refine .r (dr hd1 rfl rfl rfl) ?_ rfl rfl
      refine .p rfl rfl rfl ?_
      refine .nil ?_
      refine .ret ?_
      cases h
      exact fin_ret (vs := [_]) () (rt rfl rn) rfl (hS.to [0] rfl)
    · have h := sel_f hb h
      refine .skip ?_
      refine .seq ?_
      refine .rs hS [0] T.mix ?_
      intro W hS
      have hT : Sep _ _ W [.box g_0 46 [.slice A_0_b (a0.b).length c_0_b, .int .i64 (w64 (a0.p + 1))]] := hS.to [0] rfl
      refine .t1 0 rfl (fun W hT => pr rfl) hT ?_ (by kernel_rfl) (by kernel_rfl) (by kernel_rfl) rfl rfl
      refine .t1 1 rfl (fun W hT => pr rfl) hT ?_ (by kernel_rfl) (by kernel_rfl) (by kernel_rfl) rfl rfl
      refine .t1 2 rfl (fun W hT => fa T.f46_0 rfl rfl rfl) hT ?_ (by kernel_rfl) (by kernel_rfl) (by kernel_rfl) rfl rfl
      refine .t1 3 rfl (fun W hT => ld T.t28 hT rfl rfl rfl rfl rfl) hT ?_ (by kernel_rfl) (by kernel_rfl) (by kernel_rfl) rfl rfl
      refine .t1 4 rfl (fun W hT => pr rfl) hT ?_ (by kernel_rfl) (by kernel_rfl) (by kernel_rfl) rfl rfl
      refine .t1 5 rfl (fun W hT => pr rfl) hT ?_ (by kernel_rfl) (by kernel_rfl) (by kernel_rfl) rfl rfl
      refine .t1 6 rfl (fun W hT => pr rfl) hT ?_ (by kernel_rfl) (by kernel_rfl) (by kernel_rfl) rfl rfl
      refine .t1 7 rfl (fun W hT => fa T.f46_0 rfl rfl rfl) hT ?_ (by kernel_rfl) (by kernel_rfl) (by kernel_rfl) rfl rfl
      refine .t1 8 rfl (fun W hT => ld T.t28 hT rfl rfl rfl rfl rfl) hT ?_ (by kernel_rfl) (by kernel_rfl) (by kernel_rfl) rfl rfl
      refine .t1 9 rfl (fun W hT => len T.u28 rfl rfl) hT ?_ (by kernel_rfl) (by kernel_rfl) (by kernel_rfl) rfl rfl
      obtain ⟨d2, hd2, h⟩ := bnd h
      refine .t1 10 rfl (fun W hT => dr hd2 rfl rfl rfl) hT ?_ (by kernel_rfl) (by kernel_rfl) (by kernel_rfl) rfl rfl
      obtain ⟨x2, hx2, h⟩ := bnd h
      refine .t1 11 rfl (fun W hT => ix (hT.keep q_0_b) hx2 T.u28 T.t5 rfl rfl rfl) hT ?_ (by kernel_rfl) (by kernel_rfl) (by kernel_rfl) rfl rfl
      refine .t1 12 rfl (fun W hT => lde (Rd.flat (hT.keep q_0_b) hx2 rfl) T.t5 rfl rfl rfl rfl rfl) hT ?_ (by kernel_rfl) (by kernel_rfl) (by kernel_rfl) rfl rfl
      refine .t1 13 rfl (fun W hT => cv T.u5 T.u3 rfl rfl) hT ?_ (by kernel_rfl) (by kernel_rfl) (by kernel_rfl) rfl rfl
      refine .t1 14 rfl (fun W hT => pr rfl) hT ?_ (by kernel_rfl) (by kernel_rfl) (by kernel_rfl) rfl rfl
      refine .t1 15 rfl (fun W hT => pr rfl) hT ?_ (by kernel_rfl) (by kernel_rfl) (by kernel_rfl) rfl rfl
      refine .t1 16 rfl (fun W hT => pr rfl) hT ?_ (by kernel_rfl) (by kernel_rfl) (by kernel_rfl) rfl rfl
      refine .t1 17 rfl (fun W hT => fa T.f46_0 rfl rfl rfl) hT ?_ (by kernel_rfl) (by kernel_rfl) (by kernel_rfl) rfl rfl
      refine .t1 18 rfl (fun W hT => ld T.t28 hT rfl rfl rfl rfl rfl) hT ?_ (by kernel_rfl) (by kernel_rfl) (by kernel_rfl) rfl rfl
      refine .t1 19 rfl (fun W hT => pr rfl) hT ?_ (by kernel_rfl) (by kernel_rfl) (by kernel_rfl) rfl rfl
      refine .t1 20 rfl (fun W hT => pr rfl) hT ?_ (by kernel_rfl) (by kernel_rfl) (by kernel_rfl) rfl rfl
      refine .t1 21 rfl (fun W hT => pr rfl) hT ?_ (by kernel_rfl) (by kernel_rfl) (by kernel_rfl) rfl rfl
      refine .t1 22 rfl (fun W hT => pr rfl) hT ?_ (by kernel_rfl) (by kernel_rfl) (by kernel_rfl) rfl rfl
      refine .t1 23 rfl (fun W hT => pr rfl) hT ?_ (by kernel_rfl) (by kernel_rfl) (by kernel_rfl) rfl rfl
      refine .t1 24 rfl (fun W hT => fa T.f46_0 rfl rfl rfl) hT ?_ (by kernel_rfl) (by kernel_rfl) (by kernel_rfl) rfl rfl
      refine .t1 25 rfl (fun W hT => ld T.t28 hT rfl rfl rfl rfl rfl) hT ?_ (by kernel_rfl) (by kernel_rfl) (by kernel_rfl) rfl rfl
      refine .t1 26 rfl (fun W hT => len T.u28 rfl rfl) hT ?_ (by kernel_rfl) (by kernel_rfl) (by kernel_rfl) rfl rfl
      obtain ⟨d3, hd3, h⟩ := bnd h
      refine .t1 27 rfl (fun W hT => dr hd3 rfl rfl rfl) hT ?_ (by kernel_rfl) (by kernel_rfl) (by kernel_rfl) rfl rfl
      obtain ⟨x3, hx3, h⟩ := bnd h
      refine .t1 28 rfl (fun W hT => ix (hT.keep q_0_b) hx3 T.u28 T.t5 rfl rfl rfl) hT ?_ (by kernel_rfl) (by kernel_rfl) (by kernel_rfl) rfl rfl
      refine .t1 29 rfl (fun W hT => lde (Rd.flat (hT.keep q_0_b) hx3 rfl) T.t5 rfl rfl rfl rfl rfl) hT ?_ (by kernel_rfl) (by kernel_rfl) (by kernel_rfl) rfl rfl
      refine .t1 30 rfl (fun W hT => cv T.u5 T.u3 rfl rfl) hT ?_ (by kernel_rfl) (by kernel_rfl) (by kernel_rfl) rfl rfl
      refine .t1 31 rfl (fun W hT => pr rfl) hT ?_ (by kernel_rfl) (by kernel_rfl) (by kernel_rfl) rfl rfl
      refine .t1 32 rfl (fun W hT => pr rfl) hT ?_ (by kernel_rfl) (by kernel_rfl) (by kernel_rfl) rfl rfl
      refine .t1 33 rfl (fun W hT => pr rfl) hT ?_ (by kernel_rfl) (by kernel_rfl) (by kernel_rfl) rfl rfl
      refine .t1 34 rfl (fun W hT => pr rfl) hT ?_ (by kernel_rfl) (by kernel_rfl) (by kernel_rfl) rfl rfl
      refine .t1 35 rfl (fun W hT => pr rfl) hT ?_ (by kernel_rfl) (by kernel_rfl) (by kernel_rfl) rfl rfl
      refine .t1 36 rfl (fun W hT => pr rfl) hT ?_ (by kernel_rfl) (by kernel_rfl) (by kernel_rfl) rfl rfl
      refine .t1 37 rfl (fun W hT => pr rfl) hT ?_ (by kernel_rfl) (by kernel_rfl) (by kernel_rfl) rfl rfl
      refine .t1 38 rfl (fun W hT => pr rfl) hT ?_ (by kernel_rfl) (by kernel_rfl) (by kernel_rfl) rfl rfl
      refine .t1 39 rfl (fun W hT => fa T.f46_0 rfl rfl rfl) hT ?_ (by kernel_rfl) (by kernel_rfl) (by kernel_rfl) rfl rfl
      refine .t1 40 rfl (fun W hT => ld T.t28 hT rfl rfl rfl rfl rfl) hT ?_ (by kernel_rfl) (by kernel_rfl) (by kernel_rfl) rfl rfl
      refine .t1 41 rfl (fun W hT => len T.u28 rfl rfl) hT ?_ (by kernel_rfl) (by kernel_rfl) (by kernel_rfl) rfl rfl
      obtain ⟨d4, hd4, h⟩ := bnd h
      refine .t1 42 rfl (fun W hT => dq hd4 rfl rfl rfl) hT ?_ (by kernel_rfl) (by kernel_rfl) (by kernel_rfl) rfl rfl
      refine .t1 43 rfl (fun W hT => pr rfl) hT ?_ (by kernel_rfl) (by kernel_rfl) (by kernel_rfl) rfl rfl
      refine .t1 44 rfl (fun W hT => pr rfl) hT ?_ (by kernel_rfl) (by kernel_rfl) (by kernel_rfl) rfl rfl
      refine .t1 45 rfl (fun W hT => pr rfl) hT ?_ (by kernel_rfl) (by kernel_rfl) (by kernel_rfl) rfl rfl
      refine .done ?_ (by kernel_rfl)
      refine .seq ?_
      refine .region ?_
      refine .p rfl rfl rfl ?_
      refine .p rfl rfl rfl ?_
      refine .p rfl rfl rfl ?_
      refine .p rfl rfl rfl ?_
      refine .p rfl rfl rfl ?_
      refine .nil ?_
      refine .seq ?_
      refine .region ?_
      refine .p rfl rfl rfl ?_
      refine .p rfl rfl rfl ?_
      obtain ⟨d5, hd5, h⟩ := bnd h
      refine .r (dr hd5 rfl rfl rfl) ?_ rfl rfl
      refine .p rfl rfl rfl ?_
      refine .nil ?_
      refine .ret ?_
      cases h
      exact fin_ret (vs := [_]) () (rt rfl rn) rfl (hS.to [0] rfl)
theorem spec_DrawRuntimeInstr_ok {a0 : List Int} {A_0 : Option Addr} {c_0 : Nat} {w : World} {r : Int} (h : spec_DrawRuntimeInstr a0 = some r) (q_0 : Rd w (Old No w) A_0 c_0 5 1 (D.int .u8) a0) : Calls Tryd.prog 12 #[.slice A_0 (a0).length c_0] w (Ret No w (fun s : Unit => .int .i64 r) (fun s => [])) := by
  unfold spec_DrawRuntimeInstr at h
  refine enter Tryd.func12 rfl rfl ?_
  have hS := Sep.start w
  refine .seq ?_
  refine .region ?_
  refine .p rfl rfl rfl ?_
  refine .nil ?_
  refine .seq ?_
  refine .region ?_
  refine .p rfl rfl rfl ?_
  obtain ⟨y1, hy1, h⟩ := bnd h
  refine .c (.call hS Tryd.func17 (spec_l6Open_ok hy1 (hS.keep q_0)) rfl rfl ?_ rfl (by kernel_rfl) rfl rfl)
  rintro ⟨g1, ⟨⟨A1, c1⟩, q1⟩⟩ W hS
  have hS : Sep _ _ W [.box g1 46 [.slice A1 (y1.b).length c1, .int .i64 y1.p]] := hS
  refine .p rfl rfl rfl ?_
  refine .nil ?_
  refine .seq ?_
  refine .region ?_
  refine .p rfl rfl rfl ?_
  obtain ⟨y2, hy2, h⟩ := bnd h
  refine .c (.callS (L0 := [.box g1 46 [.slice A1 (y1.b).length c1, .int .i64 y1.p]]) hS Tryd.func18 (fun S h1 h2 => (spec_l6Rd_pick_ok hy2 (hS.keepS (q1 _ _ q_0) h1) h2 (fun b hb => (h1 b hb).2))) rfl rfl ?_ rfl (by kernel_rfl) rfl rfl)
  rintro ⟨⟩ W hS
  have hS : Sep _ _ W [.box g1 46 [.slice A1 (y1.b).length c1, .int .i64 y2.2]] := hS
  refine .p rfl rfl rfl ?_
  refine .p rfl rfl rfl ?_
  refine .nil ?_
  refine .ret ?_
  cases h
  exact fin_ret (vs := [_]) () (rt rfl rn) rfl (hS.to [] rfl)
theorem laws_FnRuntimeEnd_ok {a0 : List Int} {A_0 : Option Addr} {c_0 : Nat} {w : World} {r : Bool} (h : laws_FnRuntimeEnd a0 = some r) (q_0 : Rd w (Old No w) A_0 c_0 5 1 (D.int .u8) a0) (hG : Gl w) : Calls Tryd.prog 4 #[.slice A_0 (a0).length c_0] w (Ret No w (fun s : Unit => .bool r) (fun s => [])) := by
  unfold laws_FnRuntimeEnd at h
  refine enter Tryd.func4 rfl rfl ?_
  have hS := Sep.start w
  refine .seq ?_
  refine .region ?_
  refine .p rfl rfl rfl ?_
  refine .nil ?_
  refine .seq ?_
  refine .seq ?_
  refine .region ?_
  refine .p rfl rfl rfl ?_
  refine .r (len T.u28 rfl rfl) ?_ rfl rfl
  refine .p rfl rfl rfl ?_
  refine .nil ?_
  refine .cond rfl (fun hb => ?_) (fun hb => ?_)
  · have h := sel_t hb h
    refine .seq ?_
    refine .region ?_
    refine .p rfl rfl rfl ?_
    refine .nil ?_
    refine .ret ?_
    cases h
    exact fin_ret (vs := [_]) () (rt rfl rn) rfl (hS.to [] rfl)
  · have h := sel_f hb h
    refine .skip ?_
    refine .seq ?_
    refine .region ?_
    refine .p rfl rfl rfl ?_
    obtain ⟨y1, hy1, h⟩ := bnd h
    refine .c (.call0 hS Tryd.func12 (spec_DrawRuntimeInstr_ok hy1 (hS.keep q_0)) rfl rfl ?_ rfl (by kernel_rfl) rfl rfl)
    intro W hS
    refine .p rfl rfl rfl ?_
    refine .nil ?_
    refine .seq ?_
    refine .region ?_
    refine .p rfl rfl rfl ?_
    obtain ⟨y2, hy2, h⟩ := bnd h
    refine .c (.call0 hS Tryd.func10 (impl_RuntimeInstr_ok hy2 (hG.at hS id)) rfl rfl ?_ rfl (by kernel_rfl) rfl rfl)
    intro W hS
    refine .p rfl rfl rfl ?_
    refine .p rfl rfl rfl ?_
    refine .p rfl rfl rfl ?_
    refine .c (.alloc T.t23 hS ?_ rfl rfl rfl)
    intro g1 W hS
    refine .c (.st T.t23 hS rfl rfl rfl ?_ rfl rfl rfl rfl rfl)
    intro W hS
    refine .p rfl rfl rfl ?_
    refine .nil ?_
    refine .seq ?_
    refine .region ?_
    refine .p rfl rfl rfl ?_
    obtain ⟨y3, hy3, h⟩ := bnd h
    refine .c (.call0 hS Tryd.func9 (spec_RuntimeInstr_ok hy3) rfl rfl ?_ rfl (by kernel_rfl) rfl rfl)
    intro W hS
    refine .p rfl rfl rfl ?_
    refine .p rfl rfl rfl ?_
    refine .p rfl rfl rfl ?_
    refine .c (.alloc T.t23 hS ?_ rfl rfl rfl)
    intro g2 W hS
    refine .c (.st T.t23 hS rfl rfl rfl ?_ rfl rfl rfl rfl rfl)
    intro W hS
    refine .p rfl rfl rfl ?_
    refine .nil ?_
    refine .seq ?_
    refine .seq ?_
    refine .region ?_
    refine .p rfl rfl rfl ?_
    refine .p rfl rfl rfl ?_
    refine .r (neb T.u4 rfl rfl rfl) ?_ rfl rfl
    refine .p rfl rfl rfl ?_
    refine .chunk 4 32 ((y2.2 != y3.2) || (!((y2.1.Op == y3.1.Op) && ((y2.1.Rd == y3.1.Rd) && ((y2.1.Rs == y3.1.Rs) && ((y2.1.Rt == y3.1.Rt) && ((y2.1.Imm == y3.1.Imm) && true))))))) hS ?_ ?_
    · refine .both (y2.2 != y3.2) (fun hb => ?_) (fun hb => ?_)
      · skip
        refine .x hb ?_ rfl rfl
        refine .x hb ?_ rfl rfl
        refine .x hb ?_ rfl rfl
        refine .r (pkt hb rfl rfl rfl) ?_ rfl rfl
        exact .nil (ck 4 hS rfl (or_t hb) rfl rfl)
      · have hg1 := hb
        refine .g hg1 (.r (ld T.t23 hS.p1 rfl rfl rfl rfl rfl) ?_ rfl rfl) rfl
        refine .g hg1 (.r (ld T.t23 hS rfl rfl rfl rfl rfl) ?_ rfl rfl) rfl
        refine .g hg1 (.r (nes T.e23 rfl rfl rfl rfl) ?_ rfl rfl) rfl
        refine .r (pkf hg1 rfl rfl rfl) ?_ rfl rfl
        exact .nil (ck 4 hS rfl (or_f hg1) rfl rfl)
    intro W hS
    refine .p rfl rfl rfl ?_
    refine .chunk 3 36 (((y2.2 != y3.2) || (!((y2.1.Op == y3.1.Op) && ((y2.1.Rd == y3.1.Rd) && ((y2.1.Rs == y3.1.Rs) && ((y2.1.Rt == y3.1.Rt) && ((y2.1.Imm == y3.1.Imm) && true))))))) || (!y2.2)) hS ?_ ?_
    · refine .both ((y2.2 != y3.2) || (!((y2.1.Op == y3.1.Op) && ((y2.1.Rd == y3.1.Rd) && ((y2.1.Rs == y3.1.Rs) && ((y2.1.Rt == y3.1.Rt) && ((y2.1.Imm == y3.1.Imm) && true))))))) (fun hb => ?_) (fun hb => ?_)
      · skip
        refine .x hb ?_ rfl rfl
        refine .x hb ?_ rfl rfl
        refine .r (pkt hb rfl rfl rfl) ?_ rfl rfl
        exact .nil (ck 3 hS rfl (or_t hb) rfl rfl)
      · have hg2 := hb
        refine .g hg2 (.p rfl rfl rfl ?_) rfl
        refine .g hg2 (.p rfl rfl rfl ?_) rfl
        refine .r (pkf hg2 rfl rfl rfl) ?_ rfl rfl
        exact .nil (ck 3 hS rfl (or_f hg2) rfl rfl)
    intro W hS
    refine .nil ?_
    refine .cond rfl (fun hb => ?_) (fun hb => ?_)
    · have h := sel_t hb h
      refine .seq ?_
      refine .region ?_
      refine .p rfl rfl rfl ?_
      refine .p rfl rfl rfl ?_
      refine .r (eqb T.u4 rfl rfl rfl) ?_ rfl rfl
      refine .p rfl rfl rfl ?_
      refine .chunk 4 44 ((y2.2 == y3.2) && ((y2.1.Op == y3.1.Op) && ((y2.1.Rd == y3.1.Rd) && ((y2.1.Rs == y3.1.Rs) && ((y2.1.Rt == y3.1.Rt) && ((y2.1.Imm == y3.1.Imm) && true)))))) hS ?_ ?_
      · refine .both (y2.2 == y3.2) (fun hb => ?_) (fun hb => ?_)
        · have hg3 := hb
          refine .g hg3 (.r (ld T.t23 hS.p1 rfl rfl rfl rfl rfl) ?_ rfl rfl) rfl
          refine .g hg3 (.r (ld T.t23 hS rfl rfl rfl rfl rfl) ?_ rfl rfl) rfl
          refine .g hg3 (.r (eqs T.e23 rfl rfl rfl rfl) ?_ rfl rfl) rfl
          refine .r (pkt hg3 rfl rfl rfl) ?_ rfl rfl
          exact .nil (ck 4 hS rfl (and_t hg3) rfl rfl)
        · skip
          refine .x hb ?_ rfl rfl
          refine .x hb ?_ rfl rfl
          refine .x hb ?_ rfl rfl
          refine .r (pkf hb rfl rfl rfl) ?_ rfl rfl
          exact .nil (ck 4 hS rfl (and_f hb) rfl rfl)
      intro W hS
      refine .p rfl rfl rfl ?_
      refine .nil ?_
      refine .ret ?_
      cases h
      exact fin_ret (vs := [_]) () (rt rfl rn) rfl (hS.to [] rfl)
    · have h := sel_f hb h
      refine .skip ?_
      refine .seq ?_
      refine .region ?_
      refine .p rfl rfl rfl ?_
      refine .p rfl rfl rfl ?_
      obtain ⟨y4, hy4, h⟩ := bnd h
      refine .c (.call0 hS Tryd.func10 (impl_RuntimeInstr_ok hy4 (hG.at hS id)) rfl rfl ?_ rfl (by kernel_rfl) rfl rfl)
      intro W hS
      refine .p rfl rfl rfl ?_
      refine .p rfl rfl rfl ?_
      refine .p rfl rfl rfl ?_
      refine .c (.alloc T.t23 hS ?_ rfl rfl rfl)
      intro g3 W hS
      refine .c (.st T.t23 hS rfl rfl rfl ?_ rfl rfl rfl rfl rfl)
      intro W hS
      refine .p rfl rfl rfl ?_
      refine .nil ?_
      refine .seq ?_
      refine .region ?_
      refine .p rfl rfl rfl ?_
      refine .p rfl rfl rfl ?_
      refine .p rfl rfl rfl ?_
      refine .chunk 11 64 ((!y4.2) && ((y2.1.Op == 21) == ((y1 == 44) || (y1 == 91)))) hS ?_ ?_
      · refine .both (!y4.2) (fun hb => ?_) (fun hb => ?_)
        · have hg4 := hb
          refine .g hg4 (.r (fa T.f23_0 rfl rfl rfl) ?_ rfl rfl) rfl
          refine .g hg4 (.r (ld T.t3 hS.p2 rfl rfl rfl rfl rfl) ?_ rfl rfl) rfl
          refine .g hg4 (.p rfl rfl rfl ?_) rfl
          refine .g hg4 (.p rfl rfl rfl ?_) rfl
          refine .g hg4 (.p rfl rfl rfl ?_) rfl
          refine .g hg4 (.p rfl rfl rfl ?_) rfl
          refine .chunk 3 62 ((y1 == 44) || (y1 == 91)) hS ?_ ?_
          · refine .both (y1 == 44) (fun hb => ?_) (fun hb => ?_)
            · skip
              refine .x hb ?_ rfl rfl
              refine .x hb ?_ rfl rfl
              refine .g hg4 (.r (pkt hb rfl rfl rfl) ?_ rfl rfl) rfl
              exact .nil (ck 3 hS rfl (or_t hb) rfl rfl)
            · have hg5 := hb
              refine .g hg5 (.p rfl rfl rfl ?_) rfl
              refine .g hg5 (.p rfl rfl rfl ?_) rfl
              refine .g hg4 (.r (pkf hg5 rfl rfl rfl) ?_ rfl rfl) rfl
              exact .nil (ck 3 hS rfl (or_f hg5) rfl rfl)
          intro W hS
          refine .g hg4 (.r (eqb T.u4 rfl rfl rfl) ?_ rfl rfl) rfl
          refine .r (pkt hg4 rfl rfl rfl) ?_ rfl rfl
          exact .nil (ck 9 hS rfl (and_t hg4) rfl rfl)
        · skip
          refine .x hb ?_ rfl rfl
          refine .x hb ?_ rfl rfl
          refine .x hb ?_ rfl rfl
          refine .x hb ?_ rfl rfl
          refine .x hb ?_ rfl rfl
          refine .x hb ?_ rfl rfl
          refine .xu ?_ rfl rfl
          refine .xu ?_ rfl rfl
          refine .x hb ?_ rfl rfl
          refine .x hb ?_ rfl rfl
          refine .r (pkf hb rfl rfl rfl) ?_ rfl rfl
          exact .nil (ck 11 hS rfl (and_f hb) rfl rfl)
      intro W hS
      refine .p rfl rfl rfl ?_
      refine .nil ?_
      refine .ret ?_
      cases h
      exact fin_ret (vs := [_]) () (rt rfl rn) rfl (hS.to [] rfl)
theorem laws_FnRuntimeIdle_ok {a0 : List Int} {A_0 : Option Addr} {c_0 : Nat} {w : World} {r : Bool} (h : laws_FnRuntimeIdle a0 = some r) (q_0 : Rd w (Old No w) A_0 c_0 5 1 (D.int .u8) a0) (hG : Gl w) : Calls Tryd.prog 5 #[.slice A_0 (a0).length c_0] w (Ret No w (fun s : Unit => .bool r) (fun s => [])) := by
  unfold laws_FnRuntimeIdle at h
  refine enter Tryd.func5 rfl rfl ?_
  have hS := Sep.start w
  refine .seq ?_
  refine .region ?_
  refine .p rfl rfl rfl ?_
  refine .nil ?_
  refine .seq ?_
  refine .seq ?_
  refine .region ?_
  refine .p rfl rfl rfl ?_
  refine .r (len T.u28 rfl rfl) ?_ rfl rfl
  refine .p rfl rfl rfl ?_
  refine .nil ?_
  refine .cond rfl (fun hb => ?_) (fun hb => ?_)
  · have h := sel_t hb h
    refine .seq ?_
    refine .region ?_
    refine .p rfl rfl rfl ?_
    refine .nil ?_
    refine .ret ?_
    cases h
    exact fin_ret (vs := [_]) () (rt rfl rn) rfl (hS.to [] rfl)
  · have h := sel_f hb h
    refine .skip ?_
    refine .seq ?_
    refine .region ?_
    refine .p rfl rfl rfl ?_
    obtain ⟨y1, hy1, h⟩ := bnd h
    refine .c (.call0 hS Tryd.func12 (spec_DrawRuntimeInstr_ok hy1 (hS.keep q_0)) rfl rfl ?_ rfl (by kernel_rfl) rfl rfl)
    intro W hS
    refine .p rfl rfl rfl ?_
    refine .nil ?_
    refine .seq ?_
    refine .region ?_
    refine .p rfl rfl rfl ?_
    obtain ⟨y2, hy2, h⟩ := bnd h
    refine .c (.call0 hS Tryd.func10 (impl_RuntimeInstr_ok hy2 (hG.at hS id)) rfl rfl ?_ rfl (by kernel_rfl) rfl rfl)
    intro W hS
    refine .p rfl rfl rfl ?_
    refine .p rfl rfl rfl ?_
    refine .p rfl rfl rfl ?_
    refine .c (.alloc T.t23 hS ?_ rfl rfl rfl)
    intro g1 W hS
    refine .c (.st T.t23 hS rfl rfl rfl ?_ rfl rfl rfl rfl rfl)
    intro W hS
    refine .p rfl rfl rfl ?_
    refine .nil ?_
    refine .seq ?_
    refine .region ?_
    refine .p rfl rfl rfl ?_
    obtain ⟨y3, hy3, h⟩ := bnd h
    refine .c (.call0 hS Tryd.func9 (spec_RuntimeInstr_ok hy3) rfl rfl ?_ rfl (by kernel_rfl) rfl rfl)
    intro W hS
    refine .p rfl rfl rfl ?_
    refine .p rfl rfl rfl ?_
    refine .p rfl rfl rfl ?_
    refine .c (.alloc T.t23 hS ?_ rfl rfl rfl)
    intro g2 W hS
    refine .c (.st T.t23 hS rfl rfl rfl ?_ rfl rfl rfl rfl rfl)
    intro W hS
    refine .p rfl rfl rfl ?_
    refine .nil ?_
    refine .seq ?_
    refine .seq ?_
    refine .region ?_
    refine .p rfl rfl rfl ?_
    refine .p rfl rfl rfl ?_
    refine .r (neb T.u4 rfl rfl rfl) ?_ rfl rfl
    refine .p rfl rfl rfl ?_
    refine .chunk 4 32 ((y2.2 != y3.2) || (!((y2.1.Op == y3.1.Op) && ((y2.1.Rd == y3.1.Rd) && ((y2.1.Rs == y3.1.Rs) && ((y2.1.Rt == y3.1.Rt) && ((y2.1.Imm == y3.1.Imm) && true))))))) hS ?_ ?_
    · refine .both (y2.2 != y3.2) (fun hb => ?_) (fun hb => ?_)
      · skip
        refine .x hb ?_ rfl rfl
        refine .x hb ?_ rfl rfl
        refine .x hb ?_ rfl rfl
        refine .r (pkt hb rfl rfl rfl) ?_ rfl rfl
        exact .nil (ck 4 hS rfl (or_t hb) rfl rfl)
      · have hg1 := hb
        refine .g hg1 (.r (ld T.t23 hS.p1 rfl rfl rfl rfl rfl) ?_ rfl rfl) rfl
        refine .g hg1 (.r (ld T.t23 hS rfl rfl rfl rfl rfl) ?_ rfl rfl) rfl
        refine .g hg1 (.r (nes T.e23 rfl rfl rfl rfl) ?_ rfl rfl) rfl
        refine .r (pkf hg1 rfl rfl rfl) ?_ rfl rfl
        exact .nil (ck 4 hS rfl (or_f hg1) rfl rfl)
    intro W hS
    refine .p rfl rfl rfl ?_
    refine .chunk 3 36 (((y2.2 != y3.2) || (!((y2.1.Op == y3.1.Op) && ((y2.1.Rd == y3.1.Rd) && ((y2.1.Rs == y3.1.Rs) && ((y2.1.Rt == y3.1.Rt) && ((y2.1.Imm == y3.1.Imm) && true))))))) || (!y2.2)) hS ?_ ?_
    · refine .both ((y2.2 != y3.2) || (!((y2.1.Op == y3.1.Op) && ((y2.1.Rd == y3.1.Rd) && ((y2.1.Rs == y3.1.Rs) && ((y2.1.Rt == y3.1.Rt) && ((y2.1.Imm == y3.1.Imm) && true))))))) (fun hb => ?_) (fun hb => ?_)
      · skip
        refine .x hb ?_ rfl rfl
        refine .x hb ?_ rfl rfl
        refine .r (pkt hb rfl rfl rfl) ?_ rfl rfl
        exact .nil (ck 3 hS rfl (or_t hb) rfl rfl)
      · have hg2 := hb
        refine .g hg2 (.p rfl rfl rfl ?_) rfl
        refine .g hg2 (.p rfl rfl rfl ?_) rfl
        refine .r (pkf hg2 rfl rfl rfl) ?_ rfl rfl
        exact .nil (ck 3 hS rfl (or_f hg2) rfl rfl)
    intro W hS
    refine .nil ?_
    refine .cond rfl (fun hb => ?_) (fun hb => ?_)
    · have h := sel_t hb h
      refine .seq ?_
      refine .region ?_
      refine .p rfl rfl rfl ?_
      refine .p rfl rfl rfl ?_
      refine .r (eqb T.u4 rfl rfl rfl) ?_ rfl rfl
      refine .p rfl rfl rfl ?_
      refine .chunk 4 44 ((y2.2 == y3.2) && ((y2.1.Op == y3.1.Op) && ((y2.1.Rd == y3.1.Rd) && ((y2.1.Rs == y3.1.Rs) && ((y2.1.Rt == y3.1.Rt) && ((y2.1.Imm == y3.1.Imm) && true)))))) hS ?_ ?_
      · refine .both (y2.2 == y3.2) (fun hb => ?_) (fun hb => ?_)
        · have hg3 := hb
          refine .g hg3 (.r (ld T.t23 hS.p1 rfl rfl rfl rfl rfl) ?_ rfl rfl) rfl
          refine .g hg3 (.r (ld T.t23 hS rfl rfl rfl rfl rfl) ?_ rfl rfl) rfl
          refine .g hg3 (.r (eqs T.e23 rfl rfl rfl rfl) ?_ rfl rfl) rfl
          refine .r (pkt hg3 rfl rfl rfl) ?_ rfl rfl
          exact .nil (ck 4 hS rfl (and_t hg3) rfl rfl)
        · skip
          refine .x hb ?_ rfl rfl
          refine .x hb ?_ rfl rfl
          refine .x hb ?_ rfl rfl
          refine .r (pkf hb rfl rfl rfl) ?_ rfl rfl
          exact .nil (ck 4 hS rfl (and_f hb) rfl rfl)
      intro W hS
      refine .p rfl rfl rfl ?_
      refine .nil ?_
      refine .ret ?_
      cases h
      exact fin_ret (vs := [_]) () (rt rfl rn) rfl (hS.to [] rfl)
    · have h := sel_f hb h
      refine .skip ?_
      refine .seq ?_
      refine .region ?_
      refine .r (fa T.f23_0 rfl rfl rfl) ?_ rfl rfl
      refine .r (ld T.t3 hS.p1 rfl rfl rfl rfl rfl) ?_ rfl rfl
      refine .p rfl rfl rfl ?_
      refine .p rfl rfl rfl ?_
      refine .chunk 4 52 ((y2.1.Op == 16) && (y2.1.Rt == 0)) hS ?_ ?_
      · refine .both (y2.1.Op == 16) (fun hb => ?_) (fun hb => ?_)
        · have hg4 := hb
          refine .g hg4 (.r (fa T.f23_3 rfl rfl rfl) ?_ rfl rfl) rfl
          refine .g hg4 (.r (ld T.t3 hS.p1 rfl rfl rfl rfl rfl) ?_ rfl rfl) rfl
          refine .g hg4 (.p rfl rfl rfl ?_) rfl
          refine .r (pkt hg4 rfl rfl rfl) ?_ rfl rfl
          exact .nil (ck 4 hS rfl (and_t hg4) rfl rfl)
        · skip
          refine .x hb ?_ rfl rfl
          refine .x hb ?_ rfl rfl
          refine .x hb ?_ rfl rfl
          refine .r (pkf hb rfl rfl rfl) ?_ rfl rfl
          exact .nil (ck 4 hS rfl (and_f hb) rfl rfl)
      intro W hS
      refine .p rfl rfl rfl ?_
      refine .nil ?_
      refine .seq ?_
      refine .region ?_
      refine .r (fa T.f23_0 rfl rfl rfl) ?_ rfl rfl
      refine .r (ld T.t3 hS.p1 rfl rfl rfl rfl rfl) ?_ rfl rfl
      refine .p rfl rfl rfl ?_
      refine .p rfl rfl rfl ?_
      refine .chunk 4 60 ((y2.1.Op == 14) && (y2.1.Imm == 0)) hS ?_ ?_
      · refine .both (y2.1.Op == 14) (fun hb => ?_) (fun hb => ?_)
        · have hg5 := hb
          refine .g hg5 (.r (fa T.f23_4 rfl rfl rfl) ?_ rfl rfl) rfl
          refine .g hg5 (.r (ld T.t3 hS.p1 rfl rfl rfl rfl rfl) ?_ rfl rfl) rfl
          refine .g hg5 (.p rfl rfl rfl ?_) rfl
          refine .r (pkt hg5 rfl rfl rfl) ?_ rfl rfl
          exact .nil (ck 4 hS rfl (and_t hg5) rfl rfl)
        · skip
          refine .x hb ?_ rfl rfl
          refine .x hb ?_ rfl rfl
          refine .x hb ?_ rfl rfl
          refine .r (pkf hb rfl rfl rfl) ?_ rfl rfl
          exact .nil (ck 4 hS rfl (and_f hb) rfl rfl)
      intro W hS
      refine .p rfl rfl rfl ?_
      refine .nil ?_
      refine .seq ?_
      refine .region ?_
      refine .p rfl rfl rfl ?_
      refine .p rfl rfl rfl ?_
      refine .p rfl rfl rfl ?_
      refine .chunk 9 72 ((!((y2.1.Op == 16) && (y2.1.Rt == 0))) || ((y2.1.Rs == 3) && (y2.1.Imm == 0))) hS ?_ ?_
      · refine .both (!((y2.1.Op == 16) && (y2.1.Rt == 0))) (fun hb => ?_) (fun hb => ?_)
        · skip
          refine .x hb ?_ rfl rfl
          refine .x hb ?_ rfl rfl
          refine .x hb ?_ rfl rfl
          refine .x hb ?_ rfl rfl
          refine .xu ?_ rfl rfl
          refine .xu ?_ rfl rfl
          refine .xu ?_ rfl rfl
          refine .x hb ?_ rfl rfl
          refine .r (pkt hb rfl rfl rfl) ?_ rfl rfl
          exact .nil (ck 9 hS rfl (or_t hb) rfl rfl)
        · have hg6 := hb
          refine .g hg6 (.r (fa T.f23_2 rfl rfl rfl) ?_ rfl rfl) rfl
          refine .g hg6 (.r (ld T.t3 hS.p1 rfl rfl rfl rfl rfl) ?_ rfl rfl) rfl
          refine .g hg6 (.p rfl rfl rfl ?_) rfl
          refine .g hg6 (.p rfl rfl rfl ?_) rfl
          refine .chunk 4 71 ((y2.1.Rs == 3) && (y2.1.Imm == 0)) hS ?_ ?_
          · refine .both (y2.1.Rs == 3) (fun hb => ?_) (fun hb => ?_)
            · have hg7 := hb
              refine .g hg7 (.r (fa T.f23_4 rfl rfl rfl) ?_ rfl rfl) rfl
              refine .g hg7 (.r (ld T.t3 hS.p1 rfl rfl rfl rfl rfl) ?_ rfl rfl) rfl
              refine .g hg7 (.p rfl rfl rfl ?_) rfl
              refine .g hg6 (.r (pkt hg7 rfl rfl rfl) ?_ rfl rfl) rfl
              exact .nil (ck 4 hS rfl (and_t hg7) rfl rfl)
            · skip
              refine .x hb ?_ rfl rfl
              refine .x hb ?_ rfl rfl
              refine .x hb ?_ rfl rfl
              refine .g hg6 (.r (pkf hb rfl rfl rfl) ?_ rfl rfl) rfl
              exact .nil (ck 4 hS rfl (and_f hb) rfl rfl)
          intro W hS
          refine .r (pkf hg6 rfl rfl rfl) ?_ rfl rfl
          exact .nil (ck 6 hS rfl (or_f hg6) rfl rfl)
      intro W hS
      refine .p rfl rfl rfl ?_
      refine .chunk 13 86 (((!((y2.1.Op == 16) && (y2.1.Rt == 0))) || ((y2.1.Rs == 3) && (y2.1.Imm == 0))) && (((!((y2.1.Op == 14) && (y2.1.Imm == 0))) || (y2.1.Rs == 3)) || (y2.1.Rs == 4))) hS ?_ ?_
      · refine .both ((!((y2.1.Op == 16) && (y2.1.Rt == 0))) || ((y2.1.Rs == 3) && (y2.1.Imm == 0))) (fun hb => ?_) (fun hb => ?_)
        · have hg8 := hb
          refine .g hg8 (.p rfl rfl rfl ?_) rfl
          refine .g hg8 (.p rfl rfl rfl ?_) rfl
          refine .g hg8 (.p rfl rfl rfl ?_) rfl
          refine .chunk 4 80 ((!((y2.1.Op == 14) && (y2.1.Imm == 0))) || (y2.1.Rs == 3)) hS ?_ ?_
          · refine .both (!((y2.1.Op == 14) && (y2.1.Imm == 0))) (fun hb => ?_) (fun hb => ?_)
            · skip
              refine .x hb ?_ rfl rfl
              refine .x hb ?_ rfl rfl
              refine .x hb ?_ rfl rfl
              refine .g hg8 (.r (pkt hb rfl rfl rfl) ?_ rfl rfl) rfl
              exact .nil (ck 4 hS rfl (or_t hb) rfl rfl)
            · have hg9 := hb
              refine .g hg9 (.r (fa T.f23_2 rfl rfl rfl) ?_ rfl rfl) rfl
              refine .g hg9 (.r (ld T.t3 hS.p1 rfl rfl rfl rfl rfl) ?_ rfl rfl) rfl
              refine .g hg9 (.p rfl rfl rfl ?_) rfl
              refine .g hg8 (.r (pkf hg9 rfl rfl rfl) ?_ rfl rfl) rfl
              exact .nil (ck 4 hS rfl (or_f hg9) rfl rfl)
          intro W hS
          refine .g hg8 (.p rfl rfl rfl ?_) rfl
          refine .chunk 4 85 (((!((y2.1.Op == 14) && (y2.1.Imm == 0))) || (y2.1.Rs == 3)) || (y2.1.Rs == 4)) hS ?_ ?_
          · refine .both ((!((y2.1.Op == 14) && (y2.1.Imm == 0))) || (y2.1.Rs == 3)) (fun hb => ?_) (fun hb => ?_)
            · skip
              refine .x hb ?_ rfl rfl
              refine .x hb ?_ rfl rfl
              refine .x hb ?_ rfl rfl
              refine .g hg8 (.r (pkt hb rfl rfl rfl) ?_ rfl rfl) rfl
              exact .nil (ck 4 hS rfl (or_t hb) rfl rfl)
            · have hg10 := hb
              refine .g hg10 (.r (fa T.f23_2 rfl rfl rfl) ?_ rfl rfl) rfl
              refine .g hg10 (.r (ld T.t3 hS.p1 rfl rfl rfl rfl rfl) ?_ rfl rfl) rfl
              refine .g hg10 (.p rfl rfl rfl ?_) rfl
              refine .g hg8 (.r (pkf hg10 rfl rfl rfl) ?_ rfl rfl) rfl
              exact .nil (ck 4 hS rfl (or_f hg10) rfl rfl)
          intro W hS
          refine .r (pkt hg8 rfl rfl rfl) ?_ rfl rfl
          exact .nil (ck 7 hS rfl (and_t hg8) rfl rfl)
        · skip
          refine .x hb ?_ rfl rfl
          refine .x hb ?_ rfl rfl
          refine .x hb ?_ rfl rfl
          refine .xu ?_ rfl rfl
          refine .xu ?_ rfl rfl
          refine .xu ?_ rfl rfl
          refine .x hb ?_ rfl rfl
          refine .x hb ?_ rfl rfl
          refine .xu ?_ rfl rfl
          refine .xu ?_ rfl rfl
          refine .xu ?_ rfl rfl
          refine .x hb ?_ rfl rfl
          refine .r (pkf hb rfl rfl rfl) ?_ rfl rfl
          exact .nil (ck 13 hS rfl (and_f hb) rfl rfl)
      intro W hS
      refine .p rfl rfl rfl ?_
      refine .nil ?_
      refine .ret ?_
      cases h
      exact fin_ret (vs := [_]) () (rt rfl rn) rfl (hS.to [] rfl)
theorem laws_FnRuntimeRegs_ok {a0 : List Int} {A_0 : Option Addr} {c_0 : Nat} {w : World} {r : Bool} (h : laws_FnRuntimeRegs a0 = some r) (q_0 : Rd w (Old No w) A_0 c_0 5 1 (D.int .u8) a0) (hG : Gl w) : Calls Tryd.prog 6 #[.slice A_0 (a0).length c_0] w (Ret No w (fun s : Unit => .bool r) (fun s => [])) := by
  unfold laws_FnRuntimeRegs at h
  refine enter Tryd.func6 rfl rfl ?_
  have hS := Sep.start w
  refine .seq ?_
  refine .region ?_
  refine .p rfl rfl rfl ?_
  refine .nil ?_
  refine .seq ?_
  refine .seq ?_
  refine .region ?_
  refine .p rfl rfl rfl ?_
  refine .r (len T.u28 rfl rfl) ?_ rfl rfl
  refine .p rfl rfl rfl ?_
  refine .nil ?_
  refine .cond rfl (fun hb => ?_) (fun hb => ?_)
  · have h := sel_t hb h
    refine .seq ?_
    refine .region ?_
    refine .p rfl rfl rfl ?_
    refine .nil ?_
    refine .ret ?_
    cases h
    exact fin_ret (vs := [_]) () (rt rfl rn) rfl (hS.to [] rfl)
  · have h := sel_f hb h
    refine .skip ?_
    refine .seq ?_
    refine .region ?_
    refine .p rfl rfl rfl ?_
    obtain ⟨y1, hy1, h⟩ := bnd h
    refine .c (.call0 hS Tryd.func12 (spec_DrawRuntimeInstr_ok hy1 (hS.keep q_0)) rfl rfl ?_ rfl (by kernel_rfl) rfl rfl)
    intro W hS
    refine .p rfl rfl rfl ?_
    refine .nil ?_
    refine .seq ?_
    refine .region ?_
    refine .p rfl rfl rfl ?_
    obtain ⟨y2, hy2, h⟩ := bnd h
    refine .c (.call0 hS Tryd.func10 (impl_RuntimeInstr_ok hy2 (hG.at hS id)) rfl rfl ?_ rfl (by kernel_rfl) rfl rfl)
    intro W hS
    refine .p rfl rfl rfl ?_
    refine .p rfl rfl rfl ?_
    refine .p rfl rfl rfl ?_
    refine .c (.alloc T.t23 hS ?_ rfl rfl rfl)
    intro g1 W hS
    refine .c (.st T.t23 hS rfl rfl rfl ?_ rfl rfl rfl rfl rfl)
    intro W hS
    refine .p rfl rfl rfl ?_
    refine .nil ?_
    refine .seq ?_
    refine .region ?_
    refine .p rfl rfl rfl ?_
    obtain ⟨y3, hy3, h⟩ := bnd h
    refine .c (.call0 hS Tryd.func9 (spec_RuntimeInstr_ok hy3) rfl rfl ?_ rfl (by kernel_rfl) rfl rfl)
    intro W hS
    refine .p rfl rfl rfl ?_
    refine .p rfl rfl rfl ?_
    refine .p rfl rfl rfl ?_
    refine .c (.alloc T.t23 hS ?_ rfl rfl rfl)
    intro g2 W hS
    refine .c (.st T.t23 hS rfl rfl rfl ?_ rfl rfl rfl rfl rfl)
    intro W hS
    refine .p rfl rfl rfl ?_
    refine .nil ?_
    refine .seq ?_
    refine .seq ?_
    refine .region ?_
    refine .p rfl rfl rfl ?_
    refine .p rfl rfl rfl ?_
    refine .r (neb T.u4 rfl rfl rfl) ?_ rfl rfl
    refine .p rfl rfl rfl ?_
    refine .chunk 4 32 ((y2.2 != y3.2) || (!((y2.1.Op == y3.1.Op) && ((y2.1.Rd == y3.1.Rd) && ((y2.1.Rs == y3.1.Rs) && ((y2.1.Rt == y3.1.Rt) && ((y2.1.Imm == y3.1.Imm) && true))))))) hS ?_ ?_
    · refine .both (y2.2 != y3.2) (fun hb => ?_) (fun hb => ?_)
      · skip
        refine .x hb ?_ rfl rfl
        refine .x hb ?_ rfl rfl
        refine .x hb ?_ rfl rfl
        refine .r (pkt hb rfl rfl rfl) ?_ rfl rfl
        exact .nil (ck 4 hS rfl (or_t hb) rfl rfl)
      · have hg1 := hb
        refine .g hg1 (.r (ld T.t23 hS.p1 rfl rfl rfl rfl rfl) ?_ rfl rfl) rfl
        refine .g hg1 (.r (ld T.t23 hS rfl rfl rfl rfl rfl) ?_ rfl rfl) rfl
        refine .g hg1 (.r (nes T.e23 rfl rfl rfl rfl) ?_ rfl rfl) rfl
        refine .r (pkf hg1 rfl rfl rfl) ?_ rfl rfl
        exact .nil (ck 4 hS rfl (or_f hg1) rfl rfl)
    intro W hS
    refine .p rfl rfl rfl ?_
    refine .chunk 3 36 (((y2.2 != y3.2) || (!((y2.1.Op == y3.1.Op) && ((y2.1.Rd == y3.1.Rd) && ((y2.1.Rs == y3.1.Rs) && ((y2.1.Rt == y3.1.Rt) && ((y2.1.Imm == y3.1.Imm) && true))))))) || (!y2.2)) hS ?_ ?_
    · refine .both ((y2.2 != y3.2) || (!((y2.1.Op == y3.1.Op) && ((y2.1.Rd == y3.1.Rd) && ((y2.1.Rs == y3.1.Rs) && ((y2.1.Rt == y3.1.Rt) && ((y2.1.Imm == y3.1.Imm) && true))))))) (fun hb => ?_) (fun hb => ?_)
      · skip
        refine .x hb ?_ rfl rfl
        refine .x hb ?_ rfl rfl
        refine .r (pkt hb rfl rfl rfl) ?_ rfl rfl
        exact .nil (ck 3 hS rfl (or_t hb) rfl rfl)
      · have hg2 := hb
        refine .g hg2 (.p rfl rfl rfl ?_) rfl
        refine .g hg2 (.p rfl rfl rfl ?_) rfl
        refine .r (pkf hg2 rfl rfl rfl) ?_ rfl rfl
        exact .nil (ck 3 hS rfl (or_f hg2) rfl rfl)
    intro W hS
    refine .nil ?_
    refine .cond rfl (fun hb => ?_) (fun hb => ?_)
    · have h := sel_t hb h
      refine .seq ?_
      refine .region ?_
      refine .p rfl rfl rfl ?_
      refine .p rfl rfl rfl ?_
      refine .r (eqb T.u4 rfl rfl rfl) ?_ rfl rfl
      refine .p rfl rfl rfl ?_
      refine .chunk 4 44 ((y2.2 == y3.2) && ((y2.1.Op == y3.1.Op) && ((y2.1.Rd == y3.1.Rd) && ((y2.1.Rs == y3.1.Rs) && ((y2.1.Rt == y3.1.Rt) && ((y2.1.Imm == y3.1.Imm) && true)))))) hS ?_ ?_
      · refine .both (y2.2 == y3.2) (fun hb => ?_) (fun hb => ?_)
        · have hg3 := hb
          refine .g hg3 (.r (ld T.t23 hS.p1 rfl rfl rfl rfl rfl) ?_ rfl rfl) rfl
          refine .g hg3 (.r (ld T.t23 hS rfl rfl rfl rfl rfl) ?_ rfl rfl) rfl
          refine .g hg3 (.r (eqs T.e23 rfl rfl rfl rfl) ?_ rfl rfl) rfl
          refine .r (pkt hg3 rfl rfl rfl) ?_ rfl rfl
          exact .nil (ck 4 hS rfl (and_t hg3) rfl rfl)
        · skip
          refine .x hb ?_ rfl rfl
          refine .x hb ?_ rfl rfl
          refine .x hb ?_ rfl rfl
          refine .r (pkf hb rfl rfl rfl) ?_ rfl rfl
          exact .nil (ck 4 hS rfl (and_f hb) rfl rfl)
      intro W hS
      refine .p rfl rfl rfl ?_
      refine .nil ?_
      refine .ret ?_
      cases h
      exact fin_ret (vs := [_]) () (rt rfl rn) rfl (hS.to [] rfl)
    · have h := sel_f hb h
      refine .skip ?_
      refine .seq ?_
      refine .region ?_
      refine .r (fa T.f23_0 rfl rfl rfl) ?_ rfl rfl
      refine .r (ld T.t3 hS.p1 rfl rfl rfl rfl rfl) ?_ rfl rfl
      refine .p rfl rfl rfl ?_
      refine .p rfl rfl rfl ?_
      refine .chunk 4 52 ((y2.1.Op != 16) && (y2.1.Op != 17)) hS ?_ ?_
      · refine .both (y2.1.Op != 16) (fun hb => ?_) (fun hb => ?_)
        · have hg4 := hb
          refine .g hg4 (.r (fa T.f23_0 rfl rfl rfl) ?_ rfl rfl) rfl
          refine .g hg4 (.r (ld T.t3 hS.p1 rfl rfl rfl rfl rfl) ?_ rfl rfl) rfl
          refine .g hg4 (.p rfl rfl rfl ?_) rfl
          refine .r (pkt hg4 rfl rfl rfl) ?_ rfl rfl
          exact .nil (ck 4 hS rfl (and_t hg4) rfl rfl)
        · skip
          refine .x hb ?_ rfl rfl
          refine .x hb ?_ rfl rfl
          refine .x hb ?_ rfl rfl
          refine .r (pkf hb rfl rfl rfl) ?_ rfl rfl
          exact .nil (ck 4 hS rfl (and_f hb) rfl rfl)
      intro W hS
      refine .p rfl rfl rfl ?_
      refine .chunk 4 57 (((y2.1.Op != 16) && (y2.1.Op != 17)) && (y2.1.Op != 18)) hS ?_ ?_
      · refine .both ((y2.1.Op != 16) && (y2.1.Op != 17)) (fun hb => ?_) (fun hb => ?_)
        · have hg5 := hb
          refine .g hg5 (.r (fa T.f23_0 rfl rfl rfl) ?_ rfl rfl) rfl
          refine .g hg5 (.r (ld T.t3 hS.p1 rfl rfl rfl rfl rfl) ?_ rfl rfl) rfl
          refine .g hg5 (.p rfl rfl rfl ?_) rfl
          refine .r (pkt hg5 rfl rfl rfl) ?_ rfl rfl
          exact .nil (ck 4 hS rfl (and_t hg5) rfl rfl)
        · skip
          refine .x hb ?_ rfl rfl
          refine .x hb ?_ rfl rfl
          refine .x hb ?_ rfl rfl
          refine .r (pkf hb rfl rfl rfl) ?_ rfl rfl
          exact .nil (ck 4 hS rfl (and_f hb) rfl rfl)
      intro W hS
      refine .p rfl rfl rfl ?_
      refine .nil ?_
      refine .seq ?_
      refine .region ?_
      refine .r (fa T.f23_0 rfl rfl rfl) ?_ rfl rfl
      refine .r (ld T.t3 hS.p1 rfl rfl rfl rfl rfl) ?_ rfl rfl
      refine .p rfl rfl rfl ?_
      refine .p rfl rfl rfl ?_
      refine .chunk 4 65 ((y2.1.Op != 16) || (y2.1.Rs == 3)) hS ?_ ?_
      · refine .both (y2.1.Op != 16) (fun hb => ?_) (fun hb => ?_)
        · skip
          refine .x hb ?_ rfl rfl
          refine .x hb ?_ rfl rfl
          refine .x hb ?_ rfl rfl
          refine .r (pkt hb rfl rfl rfl) ?_ rfl rfl
          exact .nil (ck 4 hS rfl (or_t hb) rfl rfl)
        · have hg6 := hb
          refine .g hg6 (.r (fa T.f23_2 rfl rfl rfl) ?_ rfl rfl) rfl
          refine .g hg6 (.r (ld T.t3 hS.p1 rfl rfl rfl rfl rfl) ?_ rfl rfl) rfl
          refine .g hg6 (.p rfl rfl rfl ?_) rfl
          refine .r (pkf hg6 rfl rfl rfl) ?_ rfl rfl
          exact .nil (ck 4 hS rfl (or_f hg6) rfl rfl)
      intro W hS
      refine .p rfl rfl rfl ?_
      refine .chunk 4 70 (((y2.1.Op != 16) || (y2.1.Rs == 3)) || (y2.1.Rs == 4)) hS ?_ ?_
      · refine .both ((y2.1.Op != 16) || (y2.1.Rs == 3)) (fun hb => ?_) (fun hb => ?_)
        · skip
          refine .x hb ?_ rfl rfl
          refine .x hb ?_ rfl rfl
          refine .x hb ?_ rfl rfl
          refine .r (pkt hb rfl rfl rfl) ?_ rfl rfl
          exact .nil (ck 4 hS rfl (or_t hb) rfl rfl)
        · have hg7 := hb
          refine .g hg7 (.r (fa T.f23_2 rfl rfl rfl) ?_ rfl rfl) rfl
          refine .g hg7 (.r (ld T.t3 hS.p1 rfl rfl rfl rfl rfl) ?_ rfl rfl) rfl
          refine .g hg7 (.p rfl rfl rfl ?_) rfl
          refine .r (pkf hg7 rfl rfl rfl) ?_ rfl rfl
          exact .nil (ck 4 hS rfl (or_f hg7) rfl rfl)
      intro W hS
      refine .p rfl rfl rfl ?_
      refine .chunk 4 75 ((((y2.1.Op != 16) || (y2.1.Rs == 3)) || (y2.1.Rs == 4)) || (y2.1.Rs == 6)) hS ?_ ?_
      · refine .both (((y2.1.Op != 16) || (y2.1.Rs == 3)) || (y2.1.Rs == 4)) (fun hb => ?_) (fun hb => ?_)
        · skip
          refine .x hb ?_ rfl rfl
          refine .x hb ?_ rfl rfl
          refine .x hb ?_ rfl rfl
          refine .r (pkt hb rfl rfl rfl) ?_ rfl rfl
          exact .nil (ck 4 hS rfl (or_t hb) rfl rfl)
        · have hg8 := hb
          refine .g hg8 (.r (fa T.f23_2 rfl rfl rfl) ?_ rfl rfl) rfl
          refine .g hg8 (.r (ld T.t3 hS.p1 rfl rfl rfl rfl rfl) ?_ rfl rfl) rfl
          refine .g hg8 (.p rfl rfl rfl ?_) rfl
          refine .r (pkf hg8 rfl rfl rfl) ?_ rfl rfl
          exact .nil (ck 4 hS rfl (or_f hg8) rfl rfl)
      intro W hS
      refine .p rfl rfl rfl ?_
      refine .chunk 4 80 (((((y2.1.Op != 16) || (y2.1.Rs == 3)) || (y2.1.Rs == 4)) || (y2.1.Rs == 6)) || (y2.1.Rs == 29)) hS ?_ ?_
      · refine .both ((((y2.1.Op != 16) || (y2.1.Rs == 3)) || (y2.1.Rs == 4)) || (y2.1.Rs == 6)) (fun hb => ?_) (fun hb => ?_)
        · skip
          refine .x hb ?_ rfl rfl
          refine .x hb ?_ rfl rfl
          refine .x hb ?_ rfl rfl
          refine .r (pkt hb rfl rfl rfl) ?_ rfl rfl
          exact .nil (ck 4 hS rfl (or_t hb) rfl rfl)
        · have hg9 := hb
          refine .g hg9 (.r (fa T.f23_2 rfl rfl rfl) ?_ rfl rfl) rfl
          refine .g hg9 (.r (ld T.t3 hS.p1 rfl rfl rfl rfl rfl) ?_ rfl rfl) rfl
          refine .g hg9 (.p rfl rfl rfl ?_) rfl
          refine .r (pkf hg9 rfl rfl rfl) ?_ rfl rfl
          exact .nil (ck 4 hS rfl (or_f hg9) rfl rfl)
      intro W hS
      refine .p rfl rfl rfl ?_
      refine .nil ?_
      refine .seq ?_
      refine .region ?_
      refine .p rfl rfl rfl ?_
      refine .p rfl rfl rfl ?_
      refine .chunk 21 103 ((((((y2.1.Op != 16) || (y2.1.Rs == 3)) || (y2.1.Rs == 4)) || (y2.1.Rs == 6)) || (y2.1.Rs == 29)) && ((!(((y2.1.Op != 16) && (y2.1.Op != 17)) && (y2.1.Op != 18))) || ((y2.1.Rd != 3) && (((y2.1.Rd != 4) || (y1 == 71)) || (y1 == 74))))) hS ?_ ?_
      · refine .both (((((y2.1.Op != 16) || (y2.1.Rs == 3)) || (y2.1.Rs == 4)) || (y2.1.Rs == 6)) || (y2.1.Rs == 29)) (fun hb => ?_) (fun hb => ?_)
        · have hg10 := hb
          refine .g hg10 (.p rfl rfl rfl ?_) rfl
          refine .g hg10 (.p rfl rfl rfl ?_) rfl
          refine .g hg10 (.p rfl rfl rfl ?_) rfl
          refine .chunk 17 102 ((!(((y2.1.Op != 16) && (y2.1.Op != 17)) && (y2.1.Op != 18))) || ((y2.1.Rd != 3) && (((y2.1.Rd != 4) || (y1 == 71)) || (y1 == 74)))) hS ?_ ?_
          · refine .both (!(((y2.1.Op != 16) && (y2.1.Op != 17)) && (y2.1.Op != 18))) (fun hb => ?_) (fun hb => ?_)
            · skip
              refine .x hb ?_ rfl rfl
              refine .x hb ?_ rfl rfl
              refine .x hb ?_ rfl rfl
              refine .x hb ?_ rfl rfl
              refine .xu ?_ rfl rfl
              refine .xu ?_ rfl rfl
              refine .xu ?_ rfl rfl
              refine .xu ?_ rfl rfl
              refine .xu ?_ rfl rfl
              refine .xu ?_ rfl rfl
              refine .xu ?_ rfl rfl
              refine .xu ?_ rfl rfl
              refine .xu ?_ rfl rfl
              refine .xu ?_ rfl rfl
              refine .xu ?_ rfl rfl
              refine .x hb ?_ rfl rfl
              refine .g hg10 (.r (pkt hb rfl rfl rfl) ?_ rfl rfl) rfl
              exact .nil (ck 17 hS rfl (or_t hb) rfl rfl)
            · have hg11 := hb
              refine .g hg11 (.r (fa T.f23_1 rfl rfl rfl) ?_ rfl rfl) rfl
              refine .g hg11 (.r (ld T.t3 hS.p1 rfl rfl rfl rfl rfl) ?_ rfl rfl) rfl
              refine .g hg11 (.p rfl rfl rfl ?_) rfl
              refine .g hg11 (.p rfl rfl rfl ?_) rfl
              refine .chunk 12 101 ((y2.1.Rd != 3) && (((y2.1.Rd != 4) || (y1 == 71)) || (y1 == 74))) hS ?_ ?_
              · refine .both (y2.1.Rd != 3) (fun hb => ?_) (fun hb => ?_)
                · have hg12 := hb
                  refine .g hg12 (.r (fa T.f23_1 rfl rfl rfl) ?_ rfl rfl) rfl
                  refine .g hg12 (.r (ld T.t3 hS.p1 rfl rfl rfl rfl rfl) ?_ rfl rfl) rfl
                  refine .g hg12 (.p rfl rfl rfl ?_) rfl
                  refine .g hg12 (.p rfl rfl rfl ?_) rfl
                  refine .chunk 3 96 ((y2.1.Rd != 4) || (y1 == 71)) hS ?_ ?_
                  · refine .both (y2.1.Rd != 4) (fun hb => ?_) (fun hb => ?_)
                    · skip
                      refine .x hb ?_ rfl rfl
                      refine .x hb ?_ rfl rfl
                      refine .g hg12 (.r (pkt hb rfl rfl rfl) ?_ rfl rfl) rfl
                      exact .nil (ck 3 hS rfl (or_t hb) rfl rfl)
                    · have hg13 := hb
                      refine .g hg13 (.p rfl rfl rfl ?_) rfl
                      refine .g hg13 (.p rfl rfl rfl ?_) rfl
                      refine .g hg12 (.r (pkf hg13 rfl rfl rfl) ?_ rfl rfl) rfl
                      exact .nil (ck 3 hS rfl (or_f hg13) rfl rfl)
                  intro W hS
                  refine .g hg12 (.p rfl rfl rfl ?_) rfl
                  refine .chunk 3 100 (((y2.1.Rd != 4) || (y1 == 71)) || (y1 == 74)) hS ?_ ?_
                  · refine .both ((y2.1.Rd != 4) || (y1 == 71)) (fun hb => ?_) (fun hb => ?_)
                    · skip
                      refine .x hb ?_ rfl rfl
                      refine .x hb ?_ rfl rfl
                      refine .g hg12 (.r (pkt hb rfl rfl rfl) ?_ rfl rfl) rfl
                      exact .nil (ck 3 hS rfl (or_t hb) rfl rfl)
                    · have hg14 := hb
                      refine .g hg14 (.p rfl rfl rfl ?_) rfl
                      refine .g hg14 (.p rfl rfl rfl ?_) rfl
                      refine .g hg12 (.r (pkf hg14 rfl rfl rfl) ?_ rfl rfl) rfl
                      exact .nil (ck 3 hS rfl (or_f hg14) rfl rfl)
                  intro W hS
                  refine .g hg11 (.r (pkt hg12 rfl rfl rfl) ?_ rfl rfl) rfl
                  exact .nil (ck 8 hS rfl (and_t hg12) rfl rfl)
                · skip
                  refine .x hb ?_ rfl rfl
                  refine .x hb ?_ rfl rfl
                  refine .x hb ?_ rfl rfl
                  refine .x hb ?_ rfl rfl
                  refine .xu ?_ rfl rfl
                  refine .xu ?_ rfl rfl
                  refine .x hb ?_ rfl rfl
                  refine .x hb ?_ rfl rfl
                  refine .xu ?_ rfl rfl
                  refine .xu ?_ rfl rfl
                  refine .x hb ?_ rfl rfl
                  refine .g hg11 (.r (pkf hb rfl rfl rfl) ?_ rfl rfl) rfl
                  exact .nil (ck 12 hS rfl (and_f hb) rfl rfl)
              intro W hS
              refine .g hg10 (.r (pkf hg11 rfl rfl rfl) ?_ rfl rfl) rfl
              exact .nil (ck 6 hS rfl (or_f hg11) rfl rfl)
          intro W hS
          refine .r (pkt hg10 rfl rfl rfl) ?_ rfl rfl
          exact .nil (ck 5 hS rfl (and_t hg10) rfl rfl)
        · skip
          refine .x hb ?_ rfl rfl
          refine .x hb ?_ rfl rfl
          refine .x hb ?_ rfl rfl
          refine .xu ?_ rfl rfl
          refine .xu ?_ rfl rfl
          refine .xu ?_ rfl rfl
          refine .xu ?_ rfl rfl
          refine .xu ?_ rfl rfl
          refine .xu ?_ rfl rfl
          refine .xu ?_ rfl rfl
          refine .xu ?_ rfl rfl
          refine .xu ?_ rfl rfl
          refine .xu ?_ rfl rfl
          refine .xu ?_ rfl rfl
          refine .xu ?_ rfl rfl
          refine .xu ?_ rfl rfl
          refine .xu ?_ rfl rfl
          refine .xu ?_ rfl rfl
          refine .xu ?_ rfl rfl
          refine .x hb ?_ rfl rfl
          refine .r (pkf hb rfl rfl rfl) ?_ rfl rfl
          exact .nil (ck 21 hS rfl (and_f hb) rfl rfl)
      intro W hS
      refine .p rfl rfl rfl ?_
      refine .nil ?_
      refine .ret ?_
      cases h
      exact fin_ret (vs := [_]) () (rt rfl rn) rfl (hS.to [] rfl)
theorem impl_isMachineReg_ok {a0 : Int} {w : World} {r : Bool} (h : impl_isMachineReg a0 = some r) : Calls Tryd.prog 19 #[.int .i64 a0] w (Ret No w (fun s : Unit => .bool r) (fun s => [])) := by
  unfold impl_isMachineReg at h
  refine enter Tryd.func19 rfl rfl ?_
  have hS := Sep.start w
  refine .seq ?_
  refine .region ?_
  refine .p rfl rfl rfl ?_
  refine .nil ?_
  refine .seq ?_
  refine .region ?_
  refine .p rfl rfl rfl ?_
  refine .p rfl rfl rfl ?_
  refine .p rfl rfl rfl ?_
  refine .chunk 3 8 ((decide (a0 ≥ 0)) && (decide (a0 < 32))) hS ?_ ?_
  · refine .both (decide (a0 ≥ 0)) (fun hb => ?_) (fun hb => ?_)
    · have hg1 := hb
      refine .g hg1 (.p rfl rfl rfl ?_) rfl
      refine .g hg1 (.p rfl rfl rfl ?_) rfl
      refine .r (pkt hg1 rfl rfl rfl) ?_ rfl rfl
      exact .nil (ck 3 hS rfl (and_t hg1) rfl rfl)
    · skip
      refine .x hb ?_ rfl rfl
      refine .x hb ?_ rfl rfl
      refine .r (pkf hb rfl rfl rfl) ?_ rfl rfl
      exact .nil (ck 3 hS rfl (and_f hb) rfl rfl)
  intro W hS
  refine .p rfl rfl rfl ?_
  refine .nil ?_
  refine .ret ?_
  cases h
  exact fin_ret (vs := [_]) () (rt rfl rn) rfl (hS.to [] rfl)
theorem impl_formatOf_ok {a0 : Int} {w : World} {r : Int} (h : impl_formatOf a0 = some r) : Calls Tryd.prog 20 #[.int .i64 a0] w (Ret No w (fun s : Unit => .int .u8 r) (fun s => [])) := by
  unfold impl_formatOf at h
  refine enter Tryd.func20 rfl rfl ?_
  have hS := Sep.start w
  refine .seq ?_
  refine .region ?_
  refine .p rfl rfl rfl ?_
  refine .nil ?_
  refine .seq ?_
  refine .block ?_
  refine .seq ?_
  refine .region ?_
  refine .p rfl rfl rfl ?_
  refine .p rfl rfl rfl ?_
  refine .p rfl rfl rfl ?_
  refine .chunk 3 9 ((decide (a0 ≥ 1)) && (decide (a0 ≤ 11))) hS ?_ ?_
  · refine .both (decide (a0 ≥ 1)) (fun hb => ?_) (fun hb => ?_)
    · have hg1 := hb
      refine .g hg1 (.p rfl rfl rfl ?_) rfl
      refine .g hg1 (.p rfl rfl rfl ?_) rfl
      refine .r (pkt hg1 rfl rfl rfl) ?_ rfl rfl
      exact .nil (ck 3 hS rfl (and_t hg1) rfl rfl)
    · skip
      refine .x hb ?_ rfl rfl
      refine .x hb ?_ rfl rfl
      refine .r (pkf hb rfl rfl rfl) ?_ rfl rfl
      exact .nil (ck 3 hS rfl (and_f hb) rfl rfl)
  intro W hS
  refine .p rfl rfl rfl ?_
  refine .nil ?_
  refine .cond rfl (fun hb => ?_) (fun hb => ?_)
  · have h := sel_t hb h
    refine .seq ?_
    refine .region ?_
    refine .p rfl rfl rfl ?_
    refine .nil ?_
    refine .ret ?_
    cases h
    exact fin_ret (vs := [_]) () (rt rfl rn) rfl (hS.to [] rfl)
  · have h := sel_f hb h
    refine .seq ?_
    refine .region ?_
    refine .p rfl rfl rfl ?_
    refine .p rfl rfl rfl ?_
    refine .p rfl rfl rfl ?_
    refine .chunk 3 16 ((decide (a0 ≥ 12)) && (decide (a0 ≤ 15))) hS ?_ ?_
    · refine .both (decide (a0 ≥ 12)) (fun hb => ?_) (fun hb => ?_)
      · have hg2 := hb
        refine .g hg2 (.p rfl rfl rfl ?_) rfl
        refine .g hg2 (.p rfl rfl rfl ?_) rfl
        refine .r (pkt hg2 rfl rfl rfl) ?_ rfl rfl
        exact .nil (ck 3 hS rfl (and_t hg2) rfl rfl)
      · skip
        refine .x hb ?_ rfl rfl
        refine .x hb ?_ rfl rfl
        refine .r (pkf hb rfl rfl rfl) ?_ rfl rfl
        exact .nil (ck 3 hS rfl (and_f hb) rfl rfl)
    intro W hS
    refine .p rfl rfl rfl ?_
    refine .nil ?_
    refine .cond rfl (fun hb => ?_) (fun hb => ?_)
    · have h := sel_t hb h
      refine .seq ?_
      refine .region ?_
      refine .p rfl rfl rfl ?_
      refine .nil ?_
      refine .ret ?_
      cases h
      exact fin_ret (vs := [_]) () (rt rfl rn) rfl (hS.to [] rfl)
    · have h := sel_f hb h
      refine .seq ?_
      refine .region ?_
      refine .p rfl rfl rfl ?_
      refine .p rfl rfl rfl ?_
      refine .p rfl rfl rfl ?_
      refine .nil ?_
      refine .cond rfl (fun hb => ?_) (fun hb => ?_)
      · have h := sel_t hb h
        refine .seq ?_
        refine .region ?_
        refine .p rfl rfl rfl ?_
        refine .nil ?_
        refine .ret ?_
        cases h
        exact fin_ret (vs := [_]) () (rt rfl rn) rfl (hS.to [] rfl)
      · have h := sel_f hb h
        refine .seq ?_
        refine .region ?_
        refine .p rfl rfl rfl ?_
        refine .p rfl rfl rfl ?_
        refine .p rfl rfl rfl ?_
        refine .chunk 3 26 ((a0 == 17) || (a0 == 18)) hS ?_ ?_
        · refine .both (a0 == 17) (fun hb => ?_) (fun hb => ?_)
          · skip
            refine .x hb ?_ rfl rfl
            refine .x hb ?_ rfl rfl
            refine .r (pkt hb rfl rfl rfl) ?_ rfl rfl
            exact .nil (ck 3 hS rfl (or_t hb) rfl rfl)
          · have hg3 := hb
            refine .g hg3 (.p rfl rfl rfl ?_) rfl
            refine .g hg3 (.p rfl rfl rfl ?_) rfl
            refine .r (pkf hg3 rfl rfl rfl) ?_ rfl rfl
            exact .nil (ck 3 hS rfl (or_f hg3) rfl rfl)
        intro W hS
        refine .p rfl rfl rfl ?_
        refine .nil ?_
        refine .cond rfl (fun hb => ?_) (fun hb => ?_)
        · have h := sel_t hb h
          refine .seq ?_
          refine .region ?_
          refine .p rfl rfl rfl ?_
          refine .nil ?_
          refine .ret ?_
          cases h
          exact fin_ret (vs := [_]) () (rt rfl rn) rfl (hS.to [] rfl)
        · have h := sel_f hb h
          refine .seq ?_
          refine .region ?_
          refine .p rfl rfl rfl ?_
          refine .p rfl rfl rfl ?_
          refine .p rfl rfl rfl ?_
          refine .nil ?_
          refine .cond rfl (fun hb => ?_) (fun hb => ?_)
          · have h := sel_t hb h
            refine .seq ?_
            refine .region ?_
            refine .p rfl rfl rfl ?_
            refine .nil ?_
            refine .ret ?_
            cases h
            exact fin_ret (vs := [_]) () (rt rfl rn) rfl (hS.to [] rfl)
          · have h := sel_f hb h
            refine .seq ?_
            refine .region ?_
            refine .p rfl rfl rfl ?_
            refine .p rfl rfl rfl ?_
            refine .p rfl rfl rfl ?_
            refine .nil ?_
            refine .cond rfl (fun hb => ?_) (fun hb => ?_)
            · have h := sel_t hb h
              refine .seq ?_
              refine .region ?_
              refine .p rfl rfl rfl ?_
              refine .nil ?_
              refine .ret ?_
              cases h
              exact fin_ret (vs := [_]) () (rt rfl rn) rfl (hS.to [] rfl)
            · have h := sel_f hb h
              refine .seq ?_
              refine .region ?_
              refine .p rfl rfl rfl ?_
              refine .p rfl rfl rfl ?_
              refine .p rfl rfl rfl ?_
              refine .nil ?_
              refine .cond rfl (fun hb => ?_) (fun hb => ?_)
              · have h := sel_t hb h
                refine .seq ?_
                refine .region ?_
                refine .p rfl rfl rfl ?_
                refine .nil ?_
                refine .ret ?_
                cases h
                exact fin_ret (vs := [_]) () (rt rfl rn) rfl (hS.to [] rfl)
              · have h := sel_f hb h
                refine .skip ?_
                refine .seq ?_
                refine .region ?_
                refine .p rfl rfl rfl ?_
                refine .nil ?_
                refine .ret ?_
                cases h
                exact fin_ret (vs := [_]) () (rt rfl rn) rfl (hS.to [] rfl)
theorem impl_InstrValid_ok {a0 : Instr} {w : World} {r : Bool} (h : impl_InstrValid a0 = some r) : Calls Tryd.prog 13 #[.agg #[.int .i64 a0.Op, .int .i64 a0.Rd, .int .i64 a0.Rs, .int .i64 a0.Rt, .int .i64 a0.Imm]] w (Ret No w (fun s : Unit => .bool r) (fun s => [])) := by
  unfold impl_InstrValid at h
  refine enter Tryd.func13 rfl rfl ?_
  have hS := Sep.start w
  refine .seq ?_
  refine .region ?_
  refine .c (.box hS rfl rfl ?_ rfl rfl)
  intro g1 W hS
  refine .p rfl rfl rfl ?_
  refine .nil ?_
  refine .seq ?_
  refine .rs hS [0] T.mix ?_
  intro W hS
  have hT : Sep _ _ W [.box g1 23 [.int .i64 a0.Op, .int .i64 a0.Rd, .int .i64 a0.Rs, .int .i64 a0.Rt, .int .i64 a0.Imm]] := hS.to [0] rfl
  refine .t1 0 rfl (fun W hT => fa T.f23_1 rfl rfl rfl) hT ?_ (by kernel_rfl) (by kernel_rfl) (by kernel_rfl) rfl rfl
  refine .t1 1 rfl (fun W hT => ld T.t3 hT rfl rfl rfl rfl rfl) hT ?_ (by kernel_rfl) (by kernel_rfl) (by kernel_rfl) rfl rfl
  refine .t1 3 rfl (fun W hT => fa T.f23_2 rfl rfl rfl) hT ?_ (by kernel_rfl) (by kernel_rfl) (by kernel_rfl) rfl rfl
  refine .t1 4 rfl (fun W hT => ld T.t3 hT rfl rfl rfl rfl rfl) hT ?_ (by kernel_rfl) (by kernel_rfl) (by kernel_rfl) rfl rfl
  refine .t1 6 rfl (fun W hT => fa T.f23_3 rfl rfl rfl) hT ?_ (by kernel_rfl) (by kernel_rfl) (by kernel_rfl) rfl rfl
  refine .t1 7 rfl (fun W hT => ld T.t3 hT rfl rfl rfl rfl rfl) hT ?_ (by kernel_rfl) (by kernel_rfl) (by kernel_rfl) rfl rfl
  obtain ⟨y1, hy1, h⟩ := bnd h
  refine .by1 2 rfl (.call0 hS Tryd.func19 (impl_isMachineReg_ok hy1) rfl rfl ?_ rfl (by kernel_rfl) rfl rfl) (by kernel_rfl)
  intro W hS
  have hT : Sep _ _ W [.box g1 23 [.int .i64 a0.Op, .int .i64 a0.Rd, .int .i64 a0.Rs, .int .i64 a0.Rt, .int .i64 a0.Imm]] := hS.to [0] rfl
  refine ⟨hT, ?_⟩
  obtain ⟨y2, hy2, h⟩ := bnd h
  refine .by1 5 rfl (.call0 hS Tryd.func19 (impl_isMachineReg_ok hy2) rfl rfl ?_ rfl (by kernel_rfl) rfl rfl) (by kernel_rfl)
  intro W hS
  have hT : Sep _ _ W [.box g1 23 [.int .i64 a0.Op, .int .i64 a0.Rd, .int .i64 a0.Rs, .int .i64 a0.Rt, .int .i64 a0.Imm]] := hS.to [0] rfl
  refine ⟨hT, ?_⟩
  obtain ⟨y3, hy3, h⟩ := bnd h
  refine .by1 8 rfl (.call0 hS Tryd.func19 (impl_isMachineReg_ok hy3) rfl rfl ?_ rfl (by kernel_rfl) rfl rfl) (by kernel_rfl)
  intro W hS
  have hT : Sep _ _ W [.box g1 23 [.int .i64 a0.Op, .int .i64 a0.Rd, .int .i64 a0.Rs, .int .i64 a0.Rt, .int .i64 a0.Imm]] := hS.to [0] rfl
  refine ⟨hT, ?_⟩
  refine .t1 9 rfl (fun W hT => pr rfl) hT ?_ (by kernel_rfl) (by kernel_rfl) (by kernel_rfl) rfl rfl
  refine .t1 10 rfl (fun W hT => pr rfl) hT ?_ (by kernel_rfl) (by kernel_rfl) (by kernel_rfl) rfl rfl
  refine .t1 11 rfl (fun W hT => pr rfl) hT ?_ (by kernel_rfl) (by kernel_rfl) (by kernel_rfl) rfl rfl
  refine .done ?_ (by kernel_rfl)
  refine .seq ?_
  refine .region ?_
  refine .r (fa T.f23_4 rfl rfl rfl) ?_ rfl rfl
  refine .r (ld T.t3 hS rfl rfl rfl rfl rfl) ?_ rfl rfl
  refine .p rfl rfl rfl ?_
  refine .p rfl rfl rfl ?_
  refine .chunk 4 23 ((decide (a0.Imm ≥ (-2048))) && (decide (a0.Imm ≤ 2047))) hS ?_ ?_
  · refine .both (decide (a0.Imm ≥ (-2048))) (fun hb => ?_) (fun hb => ?_)
    · have hg1 := hb
      refine .g hg1 (.r (fa T.f23_4 rfl rfl rfl) ?_ rfl rfl) rfl
      refine .g hg1 (.r (ld T.t3 hS rfl rfl rfl rfl rfl) ?_ rfl rfl) rfl
      refine .g hg1 (.p rfl rfl rfl ?_) rfl
      refine .r (pkt hg1 rfl rfl rfl) ?_ rfl rfl
      exact .nil (ck 4 hS rfl (and_t hg1) rfl rfl)
    · skip
      refine .x hb ?_ rfl rfl
      refine .x hb ?_ rfl rfl
      refine .x hb ?_ rfl rfl
      refine .r (pkf hb rfl rfl rfl) ?_ rfl rfl
      exact .nil (ck 4 hS rfl (and_f hb) rfl rfl)
  intro W hS
  refine .p rfl rfl rfl ?_
  refine .nil ?_
  refine .seq ?_
  refine .seq ?_
  refine .region ?_
  refine .r (fa T.f23_0 rfl rfl rfl) ?_ rfl rfl
  refine .r (ld T.t3 hS rfl rfl rfl rfl rfl) ?_ rfl rfl
  obtain ⟨y4, hy4, h⟩ := bnd h
  refine .c (.call0 hS Tryd.func20 (impl_formatOf_ok hy4) rfl rfl ?_ rfl (by kernel_rfl) rfl rfl)
  intro W hS
  refine .nil ?_
  refine .block ?_
  refine .seq ?_
  refine .region ?_
  refine .p rfl rfl rfl ?_
  refine .p rfl rfl rfl ?_
  refine .nil ?_
  refine .cond rfl (fun hb => ?_) (fun hb => ?_)
  · have h := sel_t hb h
    refine .seq ?_
    refine .region ?_
    refine .p rfl rfl rfl ?_
    refine .p rfl rfl rfl ?_
    refine .chunk 2 32 (y1 && y2) hS ?_ ?_
    · refine .both (y1) (fun hb => ?_) (fun hb => ?_)
      · have hg2 := hb
        refine .g hg2 (.p rfl rfl rfl ?_) rfl
        refine .r (pkt hg2 rfl rfl rfl) ?_ rfl rfl
        exact .nil (ck 2 hS rfl (and_t hg2) rfl rfl)
      · skip
        refine .x hb ?_ rfl rfl
        refine .r (pkf hb rfl rfl rfl) ?_ rfl rfl
        exact .nil (ck 2 hS rfl (and_f hb) rfl rfl)
    intro W hS
    refine .p rfl rfl rfl ?_
    refine .chunk 2 35 ((y1 && y2) && y3) hS ?_ ?_
    · refine .both (y1 && y2) (fun hb => ?_) (fun hb => ?_)
      · have hg3 := hb
        refine .g hg3 (.p rfl rfl rfl ?_) rfl
        refine .r (pkt hg3 rfl rfl rfl) ?_ rfl rfl
        exact .nil (ck 2 hS rfl (and_t hg3) rfl rfl)
      · skip
        refine .x hb ?_ rfl rfl
        refine .r (pkf hb rfl rfl rfl) ?_ rfl rfl
        exact .nil (ck 2 hS rfl (and_f hb) rfl rfl)
    intro W hS
    refine .p rfl rfl rfl ?_
    refine .chunk 4 40 (((y1 && y2) && y3) && (a0.Imm == 0)) hS ?_ ?_
    · refine .both ((y1 && y2) && y3) (fun hb => ?_) (fun hb => ?_)
      · have hg4 := hb
        refine .g hg4 (.r (fa T.f23_4 rfl rfl rfl) ?_ rfl rfl) rfl
        refine .g hg4 (.r (ld T.t3 hS rfl rfl rfl rfl rfl) ?_ rfl rfl) rfl
        refine .g hg4 (.p rfl rfl rfl ?_) rfl
        refine .r (pkt hg4 rfl rfl rfl) ?_ rfl rfl
        exact .nil (ck 4 hS rfl (and_t hg4) rfl rfl)
      · skip
        refine .x hb ?_ rfl rfl
        refine .x hb ?_ rfl rfl
        refine .x hb ?_ rfl rfl
        refine .r (pkf hb rfl rfl rfl) ?_ rfl rfl
        exact .nil (ck 4 hS rfl (and_f hb) rfl rfl)
    intro W hS
    refine .p rfl rfl rfl ?_
    refine .nil ?_
    refine .ret ?_
    cases h
    exact fin_ret (vs := [_]) () (rt rfl rn) rfl (hS.to [] rfl)
  · have h := sel_f hb h
    refine .seq ?_
    refine .region ?_
    refine .p rfl rfl rfl ?_
    refine .p rfl rfl rfl ?_
    refine .nil ?_
    refine .cond rfl (fun hb => ?_) (fun hb => ?_)
    · have h := sel_t hb h
      refine .seq ?_
      refine .region ?_
      refine .p rfl rfl rfl ?_
      refine .p rfl rfl rfl ?_
      refine .chunk 2 46 (y1 && y2) hS ?_ ?_
      · refine .both (y1) (fun hb => ?_) (fun hb => ?_)
        · have hg5 := hb
          refine .g hg5 (.p rfl rfl rfl ?_) rfl
          refine .r (pkt hg5 rfl rfl rfl) ?_ rfl rfl
          exact .nil (ck 2 hS rfl (and_t hg5) rfl rfl)
        · skip
          refine .x hb ?_ rfl rfl
          refine .r (pkf hb rfl rfl rfl) ?_ rfl rfl
          exact .nil (ck 2 hS rfl (and_f hb) rfl rfl)
      intro W hS
      refine .p rfl rfl rfl ?_
      refine .chunk 4 51 ((y1 && y2) && (a0.Rt == 0)) hS ?_ ?_
      · refine .both (y1 && y2) (fun hb => ?_) (fun hb => ?_)
        · have hg6 := hb
          refine .g hg6 (.r (fa T.f23_3 rfl rfl rfl) ?_ rfl rfl) rfl
          refine .g hg6 (.r (ld T.t3 hS rfl rfl rfl rfl rfl) ?_ rfl rfl) rfl
          refine .g hg6 (.p rfl rfl rfl ?_) rfl
          refine .r (pkt hg6 rfl rfl rfl) ?_ rfl rfl
          exact .nil (ck 4 hS rfl (and_t hg6) rfl rfl)
        · skip
          refine .x hb ?_ rfl rfl
          refine .x hb ?_ rfl rfl
          refine .x hb ?_ rfl rfl
          refine .r (pkf hb rfl rfl rfl) ?_ rfl rfl
          exact .nil (ck 4 hS rfl (and_f hb) rfl rfl)
      intro W hS
      refine .p rfl rfl rfl ?_
      refine .chunk 2 54 (((y1 && y2) && (a0.Rt == 0)) && ((decide (a0.Imm ≥ (-2048))) && (decide (a0.Imm ≤ 2047)))) hS ?_ ?_
      · refine .both ((y1 && y2) && (a0.Rt == 0)) (fun hb => ?_) (fun hb => ?_)
        · have hg7 := hb
          refine .g hg7 (.p rfl rfl rfl ?_) rfl
          refine .r (pkt hg7 rfl rfl rfl) ?_ rfl rfl
          exact .nil (ck 2 hS rfl (and_t hg7) rfl rfl)
        · skip
          refine .x hb ?_ rfl rfl
          refine .r (pkf hb rfl rfl rfl) ?_ rfl rfl
          exact .nil (ck 2 hS rfl (and_f hb) rfl rfl)
      intro W hS
      refine .p rfl rfl rfl ?_
      refine .nil ?_
      refine .ret ?_
      cases h
      exact fin_ret (vs := [_]) () (rt rfl rn) rfl (hS.to [] rfl)
    · have h := sel_f hb h
      refine .seq ?_
      refine .region ?_
      refine .p rfl rfl rfl ?_
      refine .p rfl rfl rfl ?_
      refine .nil ?_
      refine .cond rfl (fun hb => ?_) (fun hb => ?_)
      · have h := sel_t hb h
        refine .seq ?_
        refine .region ?_
        refine .r (fa T.f23_1 rfl rfl rfl) ?_ rfl rfl
        refine .r (ld T.t3 hS rfl rfl rfl rfl rfl) ?_ rfl rfl
        refine .p rfl rfl rfl ?_
        refine .p rfl rfl rfl ?_
        refine .chunk 2 62 ((a0.Rd == 0) && y2) hS ?_ ?_
        · refine .both (a0.Rd == 0) (fun hb => ?_) (fun hb => ?_)
          · have hg8 := hb
            refine .g hg8 (.p rfl rfl rfl ?_) rfl
            refine .r (pkt hg8 rfl rfl rfl) ?_ rfl rfl
            exact .nil (ck 2 hS rfl (and_t hg8) rfl rfl)
          · skip
            refine .x hb ?_ rfl rfl
            refine .r (pkf hb rfl rfl rfl) ?_ rfl rfl
            exact .nil (ck 2 hS rfl (and_f hb) rfl rfl)
        intro W hS
        refine .p rfl rfl rfl ?_
        refine .chunk 2 65 (((a0.Rd == 0) && y2) && y3) hS ?_ ?_
        · refine .both ((a0.Rd == 0) && y2) (fun hb => ?_) (fun hb => ?_)
          · have hg9 := hb
            refine .g hg9 (.p rfl rfl rfl ?_) rfl
            refine .r (pkt hg9 rfl rfl rfl) ?_ rfl rfl
            exact .nil (ck 2 hS rfl (and_t hg9) rfl rfl)
          · skip
            refine .x hb ?_ rfl rfl
            refine .r (pkf hb rfl rfl rfl) ?_ rfl rfl
            exact .nil (ck 2 hS rfl (and_f hb) rfl rfl)
        intro W hS
        refine .p rfl rfl rfl ?_
        refine .chunk 2 68 ((((a0.Rd == 0) && y2) && y3) && ((decide (a0.Imm ≥ (-2048))) && (decide (a0.Imm ≤ 2047)))) hS ?_ ?_
        · refine .both (((a0.Rd == 0) && y2) && y3) (fun hb => ?_) (fun hb => ?_)
          · have hg10 := hb
            refine .g hg10 (.p rfl rfl rfl ?_) rfl
            refine .r (pkt hg10 rfl rfl rfl) ?_ rfl rfl
            exact .nil (ck 2 hS rfl (and_t hg10) rfl rfl)
          · skip
            refine .x hb ?_ rfl rfl
            refine .r (pkf hb rfl rfl rfl) ?_ rfl rfl
            exact .nil (ck 2 hS rfl (and_f hb) rfl rfl)
        intro W hS
        refine .p rfl rfl rfl ?_
        refine .nil ?_
        refine .ret ?_
        cases h
        exact fin_ret (vs := [_]) () (rt rfl rn) rfl (hS.to [] rfl)
      · have h := sel_f hb h
        refine .seq ?_
        refine .region ?_
        refine .p rfl rfl rfl ?_
        refine .p rfl rfl rfl ?_
        refine .nil ?_
        refine .cond rfl (fun hb => ?_) (fun hb => ?_)
        · have h := sel_t hb h
          refine .seq ?_
          refine .region ?_
          refine .r (fa T.f23_1 rfl rfl rfl) ?_ rfl rfl
          refine .r (ld T.t3 hS rfl rfl rfl rfl rfl) ?_ rfl rfl
          refine .p rfl rfl rfl ?_
          refine .p rfl rfl rfl ?_
          refine .chunk 2 76 ((a0.Rd == 0) && y2) hS ?_ ?_
          · refine .both (a0.Rd == 0) (fun hb => ?_) (fun hb => ?_)
            · have hg11 := hb
              refine .g hg11 (.p rfl rfl rfl ?_) rfl
              refine .r (pkt hg11 rfl rfl rfl) ?_ rfl rfl
              exact .nil (ck 2 hS rfl (and_t hg11) rfl rfl)
            · skip
              refine .x hb ?_ rfl rfl
              refine .r (pkf hb rfl rfl rfl) ?_ rfl rfl
              exact .nil (ck 2 hS rfl (and_f hb) rfl rfl)
          intro W hS
          refine .p rfl rfl rfl ?_
          refine .chunk 2 79 (((a0.Rd == 0) && y2) && y3) hS ?_ ?_
          · refine .both ((a0.Rd == 0) && y2) (fun hb => ?_) (fun hb => ?_)
            · have hg12 := hb
              refine .g hg12 (.p rfl rfl rfl ?_) rfl
              refine .r (pkt hg12 rfl rfl rfl) ?_ rfl rfl
              exact .nil (ck 2 hS rfl (and_t hg12) rfl rfl)
            · skip
              refine .x hb ?_ rfl rfl
              refine .r (pkf hb rfl rfl rfl) ?_ rfl rfl
              exact .nil (ck 2 hS rfl (and_f hb) rfl rfl)
          intro W hS
          refine .p rfl rfl rfl ?_
          refine .chunk 4 84 ((((a0.Rd == 0) && y2) && y3) && (decide (a0.Imm ≥ (-4096)))) hS ?_ ?_
          · refine .both (((a0.Rd == 0) && y2) && y3) (fun hb => ?_) (fun hb => ?_)
            · have hg13 := hb
              refine .g hg13 (.r (fa T.f23_4 rfl rfl rfl) ?_ rfl rfl) rfl
              refine .g hg13 (.r (ld T.t3 hS rfl rfl rfl rfl rfl) ?_ rfl rfl) rfl
              refine .g hg13 (.p rfl rfl rfl ?_) rfl
              refine .r (pkt hg13 rfl rfl rfl) ?_ rfl rfl
              exact .nil (ck 4 hS rfl (and_t hg13) rfl rfl)
            · skip
              refine .x hb ?_ rfl rfl
              refine .x hb ?_ rfl rfl
              refine .x hb ?_ rfl rfl
              refine .r (pkf hb rfl rfl rfl) ?_ rfl rfl
              exact .nil (ck 4 hS rfl (and_f hb) rfl rfl)
          intro W hS
          refine .p rfl rfl rfl ?_
          refine .chunk 4 89 (((((a0.Rd == 0) && y2) && y3) && (decide (a0.Imm ≥ (-4096)))) && (decide (a0.Imm ≤ 4094))) hS ?_ ?_
          · refine .both ((((a0.Rd == 0) && y2) && y3) && (decide (a0.Imm ≥ (-4096)))) (fun hb => ?_) (fun hb => ?_)
            · have hg14 := hb
              refine .g hg14 (.r (fa T.f23_4 rfl rfl rfl) ?_ rfl rfl) rfl
              refine .g hg14 (.r (ld T.t3 hS rfl rfl rfl rfl rfl) ?_ rfl rfl) rfl
              refine .g hg14 (.p rfl rfl rfl ?_) rfl
              refine .r (pkt hg14 rfl rfl rfl) ?_ rfl rfl
              exact .nil (ck 4 hS rfl (and_t hg14) rfl rfl)
            · skip
              refine .x hb ?_ rfl rfl
              refine .x hb ?_ rfl rfl
              refine .x hb ?_ rfl rfl
              refine .r (pkf hb rfl rfl rfl) ?_ rfl rfl
              exact .nil (ck 4 hS rfl (and_f hb) rfl rfl)
          intro W hS
          refine .p rfl rfl rfl ?_
          refine .chunk 5 95 ((((((a0.Rd == 0) && y2) && y3) && (decide (a0.Imm ≥ (-4096)))) && (decide (a0.Imm ≤ 4094))) && ((Int.tmod a0.Imm 2) == 0)) hS ?_ ?_
          · refine .both (((((a0.Rd == 0) && y2) && y3) && (decide (a0.Imm ≥ (-4096)))) && (decide (a0.Imm ≤ 4094))) (fun hb => ?_) (fun hb => ?_)
            · have hg15 := hb
              refine .g hg15 (.r (fa T.f23_4 rfl rfl rfl) ?_ rfl rfl) rfl
              refine .g hg15 (.r (ld T.t3 hS rfl rfl rfl rfl rfl) ?_ rfl rfl) rfl
              refine .g hg15 (.p rfl rfl rfl ?_) rfl
              refine .g hg15 (.p rfl rfl rfl ?_) rfl
              refine .r (pkt hg15 rfl rfl rfl) ?_ rfl rfl
              exact .nil (ck 5 hS rfl (and_t hg15) rfl rfl)
            · skip
              refine .x hb ?_ rfl rfl
              refine .x hb ?_ rfl rfl
              refine .x hb ?_ rfl rfl
              refine .x hb ?_ rfl rfl
              refine .r (pkf hb rfl rfl rfl) ?_ rfl rfl
              exact .nil (ck 5 hS rfl (and_f hb) rfl rfl)
          intro W hS
          refine .p rfl rfl rfl ?_
          refine .nil ?_
          refine .ret ?_
          cases h
          exact fin_ret (vs := [_]) () (rt rfl rn) rfl (hS.to [] rfl)
        · have h := sel_f hb h
          refine .seq ?_
          refine .region ?_
          refine .p rfl rfl rfl ?_
          refine .p rfl rfl rfl ?_
          refine .nil ?_
          refine .cond rfl (fun hb => ?_) (fun hb => ?_)
          · have h := sel_t hb h
            refine .seq ?_
            refine .region ?_
            refine .p rfl rfl rfl ?_
            refine .p rfl rfl rfl ?_
            refine .chunk 4 103 (y1 && (a0.Rs == 0)) hS ?_ ?_
            · refine .both (y1) (fun hb => ?_) (fun hb => ?_)
              · have hg16 := hb
                refine .g hg16 (.r (fa T.f23_2 rfl rfl rfl) ?_ rfl rfl) rfl
                refine .g hg16 (.r (ld T.t3 hS rfl rfl rfl rfl rfl) ?_ rfl rfl) rfl
                refine .g hg16 (.p rfl rfl rfl ?_) rfl
                refine .r (pkt hg16 rfl rfl rfl) ?_ rfl rfl
                exact .nil (ck 4 hS rfl (and_t hg16) rfl rfl)
              · skip
                refine .x hb ?_ rfl rfl
                refine .x hb ?_ rfl rfl
                refine .x hb ?_ rfl rfl
                refine .r (pkf hb rfl rfl rfl) ?_ rfl rfl
                exact .nil (ck 4 hS rfl (and_f hb) rfl rfl)
            intro W hS
            refine .p rfl rfl rfl ?_
            refine .chunk 4 108 ((y1 && (a0.Rs == 0)) && (a0.Rt == 0)) hS ?_ ?_
            · refine .both (y1 && (a0.Rs == 0)) (fun hb => ?_) (fun hb => ?_)
              · have hg17 := hb
                refine .g hg17 (.r (fa T.f23_3 rfl rfl rfl) ?_ rfl rfl) rfl
                refine .g hg17 (.r (ld T.t3 hS rfl rfl rfl rfl rfl) ?_ rfl rfl) rfl
                refine .g hg17 (.p rfl rfl rfl ?_) rfl
                refine .r (pkt hg17 rfl rfl rfl) ?_ rfl rfl
                exact .nil (ck 4 hS rfl (and_t hg17) rfl rfl)
              · skip
                refine .x hb ?_ rfl rfl
                refine .x hb ?_ rfl rfl
                refine .x hb ?_ rfl rfl
                refine .r (pkf hb rfl rfl rfl) ?_ rfl rfl
                exact .nil (ck 4 hS rfl (and_f hb) rfl rfl)
            intro W hS
            refine .p rfl rfl rfl ?_
            refine .chunk 4 113 (((y1 && (a0.Rs == 0)) && (a0.Rt == 0)) && (decide (a0.Imm ≥ 0))) hS ?_ ?_
            · refine .both ((y1 && (a0.Rs == 0)) && (a0.Rt == 0)) (fun hb => ?_) (fun hb => ?_)
              · have hg18 := hb
                refine .g hg18 (.r (fa T.f23_4 rfl rfl rfl) ?_ rfl rfl) rfl
                refine .g hg18 (.r (ld T.t3 hS rfl rfl rfl rfl rfl) ?_ rfl rfl) rfl
                refine .g hg18 (.p rfl rfl rfl ?_) rfl
                refine .r (pkt hg18 rfl rfl rfl) ?_ rfl rfl
                exact .nil (ck 4 hS rfl (and_t hg18) rfl rfl)
              · skip
                refine .x hb ?_ rfl rfl
                refine .x hb ?_ rfl rfl
                refine .x hb ?_ rfl rfl
                refine .r (pkf hb rfl rfl rfl) ?_ rfl rfl
                exact .nil (ck 4 hS rfl (and_f hb) rfl rfl)
            intro W hS
            refine .p rfl rfl rfl ?_
            refine .chunk 4 118 ((((y1 && (a0.Rs == 0)) && (a0.Rt == 0)) && (decide (a0.Imm ≥ 0))) && (decide (a0.Imm ≤ 1048575))) hS ?_ ?_
            · refine .both (((y1 && (a0.Rs == 0)) && (a0.Rt == 0)) && (decide (a0.Imm ≥ 0))) (fun hb => ?_) (fun hb => ?_)
              · have hg19 := hb
                refine .g hg19 (.r (fa T.f23_4 rfl rfl rfl) ?_ rfl rfl) rfl
                refine .g hg19 (.r (ld T.t3 hS rfl rfl rfl rfl rfl) ?_ rfl rfl) rfl
                refine .g hg19 (.p rfl rfl rfl ?_) rfl
                refine .r (pkt hg19 rfl rfl rfl) ?_ rfl rfl
                exact .nil (ck 4 hS rfl (and_t hg19) rfl rfl)
              · skip
                refine .x hb ?_ rfl rfl
                refine .x hb ?_ rfl rfl
                refine .x hb ?_ rfl rfl
                refine .r (pkf hb rfl rfl rfl) ?_ rfl rfl
                exact .nil (ck 4 hS rfl (and_f hb) rfl rfl)
            intro W hS
            refine .p rfl rfl rfl ?_
            refine .nil ?_
            refine .ret ?_
            cases h
            exact fin_ret (vs := [_]) () (rt rfl rn) rfl (hS.to [] rfl)
          · have h := sel_f hb h
            refine .seq ?_
            refine .region ?_
            refine .p rfl rfl rfl ?_
            refine .p rfl rfl rfl ?_
            refine .nil ?_
            refine .cond rfl (fun hb => ?_) (fun hb => ?_)
            · have h := sel_t hb h
              refine .seq ?_
              refine .region ?_
              refine .p rfl rfl rfl ?_
              refine .p rfl rfl rfl ?_
              refine .chunk 4 126 (y1 && (a0.Rs == 0)) hS ?_ ?_
              · refine .both (y1) (fun hb => ?_) (fun hb => ?_)
                · have hg20 := hb
                  refine .g hg20 (.r (fa T.f23_2 rfl rfl rfl) ?_ rfl rfl) rfl
                  refine .g hg20 (.r (ld T.t3 hS rfl rfl rfl rfl rfl) ?_ rfl rfl) rfl
                  refine .g hg20 (.p rfl rfl rfl ?_) rfl
                  refine .r (pkt hg20 rfl rfl rfl) ?_ rfl rfl
                  exact .nil (ck 4 hS rfl (and_t hg20) rfl rfl)
                · skip
                  refine .x hb ?_ rfl rfl
                  refine .x hb ?_ rfl rfl
                  refine .x hb ?_ rfl rfl
                  refine .r (pkf hb rfl rfl rfl) ?_ rfl rfl
                  exact .nil (ck 4 hS rfl (and_f hb) rfl rfl)
              intro W hS
              refine .p rfl rfl rfl ?_
              refine .chunk 4 131 ((y1 && (a0.Rs == 0)) && (a0.Rt == 0)) hS ?_ ?_
              · refine .both (y1 && (a0.Rs == 0)) (fun hb => ?_) (fun hb => ?_)
                · have hg21 := hb
                  refine .g hg21 (.r (fa T.f23_3 rfl rfl rfl) ?_ rfl rfl) rfl
                  refine .g hg21 (.r (ld T.t3 hS rfl rfl rfl rfl rfl) ?_ rfl rfl) rfl
                  refine .g hg21 (.p rfl rfl rfl ?_) rfl
                  refine .r (pkt hg21 rfl rfl rfl) ?_ rfl rfl
                  exact .nil (ck 4 hS rfl (and_t hg21) rfl rfl)
                · skip
                  refine .x hb ?_ rfl rfl
                  refine .x hb ?_ rfl rfl
                  refine .x hb ?_ rfl rfl
                  refine .r (pkf hb rfl rfl rfl) ?_ rfl rfl
                  exact .nil (ck 4 hS rfl (and_f hb) rfl rfl)
              intro W hS
              refine .p rfl rfl rfl ?_
              refine .chunk 4 136 (((y1 && (a0.Rs == 0)) && (a0.Rt == 0)) && (decide (a0.Imm ≥ (-1048576)))) hS ?_ ?_
              · refine .both ((y1 && (a0.Rs == 0)) && (a0.Rt == 0)) (fun hb => ?_) (fun hb => ?_)
                · have hg22 := hb
                  refine .g hg22 (.r (fa T.f23_4 rfl rfl rfl) ?_ rfl rfl) rfl
                  refine .g hg22 (.r (ld T.t3 hS rfl rfl rfl rfl rfl) ?_ rfl rfl) rfl
                  refine .g hg22 (.p rfl rfl rfl ?_) rfl
                  refine .r (pkt hg22 rfl rfl rfl) ?_ rfl rfl
                  exact .nil (ck 4 hS rfl (and_t hg22) rfl rfl)
                · skip
                  refine .x hb ?_ rfl rfl
                  refine .x hb ?_ rfl rfl
                  refine .x hb ?_ rfl rfl
                  refine .r (pkf hb rfl rfl rfl) ?_ rfl rfl
                  exact .nil (ck 4 hS rfl (and_f hb) rfl rfl)
              intro W hS
              refine .p rfl rfl rfl ?_
              refine .chunk 4 141 ((((y1 && (a0.Rs == 0)) && (a0.Rt == 0)) && (decide (a0.Imm ≥ (-1048576)))) && (decide (a0.Imm ≤ 1048574))) hS ?_ ?_
              · refine .both (((y1 && (a0.Rs == 0)) && (a0.Rt == 0)) && (decide (a0.Imm ≥ (-1048576)))) (fun hb => ?_) (fun hb => ?_)
                · have hg23 := hb
                  refine .g hg23 (.r (fa T.f23_4 rfl rfl rfl) ?_ rfl rfl) rfl
                  refine .g hg23 (.r (ld T.t3 hS rfl rfl rfl rfl rfl) ?_ rfl rfl) rfl
                  refine .g hg23 (.p rfl rfl rfl ?_) rfl
                  refine .r (pkt hg23 rfl rfl rfl) ?_ rfl rfl
                  exact .nil (ck 4 hS rfl (and_t hg23) rfl rfl)
                · skip
                  refine .x hb ?_ rfl rfl
                  refine .x hb ?_ rfl rfl
                  refine .x hb ?_ rfl rfl
                  refine .r (pkf hb rfl rfl rfl) ?_ rfl rfl
                  exact .nil (ck 4 hS rfl (and_f hb) rfl rfl)
              intro W hS
              refine .p rfl rfl rfl ?_
              refine .chunk 5 147 (((((y1 && (a0.Rs == 0)) && (a0.Rt == 0)) && (decide (a0.Imm ≥ (-1048576)))) && (decide (a0.Imm ≤ 1048574))) && ((Int.tmod a0.Imm 2) == 0)) hS ?_ ?_
              · refine .both ((((y1 && (a0.Rs == 0)) && (a0.Rt == 0)) && (decide (a0.Imm ≥ (-1048576)))) && (decide (a0.Imm ≤ 1048574))) (fun hb => ?_) (fun hb => ?_)
                · have hg24 := hb
                  refine .g hg24 (.r (fa T.f23_4 rfl rfl rfl) ?_ rfl rfl) rfl
                  refine .g hg24 (.r (ld T.t3 hS rfl rfl rfl rfl rfl) ?_ rfl rfl) rfl
                  refine .g hg24 (.p rfl rfl rfl ?_) rfl
                  refine .g hg24 (.p rfl rfl rfl ?_) rfl
                  refine .r (pkt hg24 rfl rfl rfl) ?_ rfl rfl
                  exact .nil (ck 5 hS rfl (and_t hg24) rfl rfl)
                · skip
                  refine .x hb ?_ rfl rfl
                  refine .x hb ?_ rfl rfl
                  refine .x hb ?_ rfl rfl
                  refine .x hb ?_ rfl rfl
                  refine .r (pkf hb rfl rfl rfl) ?_ rfl rfl
                  exact .nil (ck 5 hS rfl (and_f hb) rfl rfl)
              intro W hS
              refine .p rfl rfl rfl ?_
              refine .nil ?_
              refine .ret ?_
              cases h
              exact fin_ret (vs := [_]) () (rt rfl rn) rfl (hS.to [] rfl)
            · have h := sel_f hb h
              refine .seq ?_
              refine .region ?_
              refine .p rfl rfl rfl ?_
              refine .p rfl rfl rfl ?_
              refine .nil ?_
              refine .cond rfl (fun hb => ?_) (fun hb => ?_)
              · have h := sel_t hb h
                refine .seq ?_
                refine .region ?_
                refine .r (ld T.t23 hS rfl rfl rfl rfl rfl) ?_ rfl rfl
                refine .r (bs T.s23 rfl rfl) ?_ rfl rfl
                refine .r (eqs T.e23 rfl rfl rfl rfl) ?_ rfl rfl
                refine .p rfl rfl rfl ?_
                refine .nil ?_
                refine .ret ?_
                cases h
                exact fin_ret (vs := [_]) () (rt rfl rn) rfl (hS.to [] rfl)
              · have h := sel_f hb h
                refine .skip ?_
                refine .seq ?_
                refine .region ?_
                refine .p rfl rfl rfl ?_
                refine .nil ?_
                refine .ret ?_
                cases h
                exact fin_ret (vs := [_]) () (rt rfl rn) rfl (hS.to [] rfl)
theorem laws_FnRuntime_ok {a0 : List Int} {A_0 : Option Addr} {c_0 : Nat} {w : World} {r : Bool} (h : laws_FnRuntime a0 = some r) (q_0 : Rd w (Old No w) A_0 c_0 5 1 (D.int .u8) a0) (hG : Gl w) : Calls Tryd.prog 7 #[.slice A_0 (a0).length c_0] w (Ret No w (fun s : Unit => .bool r) (fun s => [])) := by
  unfold laws_FnRuntime at h
  refine enter Tryd.func7 rfl rfl ?_
  have hS := Sep.start w
  refine .seq ?_
  refine .region ?_
  refine .p rfl rfl rfl ?_
  refine .nil ?_
  refine .seq ?_
  refine .seq ?_
  refine .region ?_
  refine .p rfl rfl rfl ?_
  refine .r (len T.u28 rfl rfl) ?_ rfl rfl
  refine .p rfl rfl rfl ?_
  refine .nil ?_
  refine .cond rfl (fun hb => ?_) (fun hb => ?_)
  · have h := sel_t hb h
    refine .seq ?_
    refine .region ?_
    refine .p rfl rfl rfl ?_
    refine .nil ?_
    refine .ret ?_
    cases h
    exact fin_ret (vs := [_]) () (rt rfl rn) rfl (hS.to [] rfl)
  · have h := sel_f hb h
    refine .skip ?_
    refine .seq ?_
    refine .region ?_
    refine .p rfl rfl rfl ?_
    obtain ⟨y1, hy1, h⟩ := bnd h
    refine .c (.call0 hS Tryd.func12 (spec_DrawRuntimeInstr_ok hy1 (hS.keep q_0)) rfl rfl ?_ rfl (by kernel_rfl) rfl rfl)
    intro W hS
    refine .p rfl rfl rfl ?_
    refine .nil ?_
    refine .seq ?_
    refine .region ?_
    refine .p rfl rfl rfl ?_
    obtain ⟨y2, hy2, h⟩ := bnd h
    refine .c (.call0 hS Tryd.func10 (impl_RuntimeInstr_ok hy2 (hG.at hS id)) rfl rfl ?_ rfl (by kernel_rfl) rfl rfl)
    intro W hS
    refine .p rfl rfl rfl ?_
    refine .p rfl rfl rfl ?_
    refine .p rfl rfl rfl ?_
    refine .c (.alloc T.t23 hS ?_ rfl rfl rfl)
    intro g1 W hS
    refine .c (.st T.t23 hS rfl rfl rfl ?_ rfl rfl rfl rfl rfl)
    intro W hS
    refine .p rfl rfl rfl ?_
    refine .nil ?_
    refine .seq ?_
    refine .region ?_
    refine .p rfl rfl rfl ?_
    obtain ⟨y3, hy3, h⟩ := bnd h
    refine .c (.call0 hS Tryd.func9 (spec_RuntimeInstr_ok hy3) rfl rfl ?_ rfl (by kernel_rfl) rfl rfl)
    intro W hS
    refine .p rfl rfl rfl ?_
    refine .p rfl rfl rfl ?_
    refine .p rfl rfl rfl ?_
    refine .c (.alloc T.t23 hS ?_ rfl rfl rfl)
    intro g2 W hS
    refine .c (.st T.t23 hS rfl rfl rfl ?_ rfl rfl rfl rfl rfl)
    intro W hS
    refine .p rfl rfl rfl ?_
    refine .nil ?_
    refine .seq ?_
    refine .seq ?_
    refine .region ?_
    refine .p rfl rfl rfl ?_
    refine .p rfl rfl rfl ?_
    refine .r (neb T.u4 rfl rfl rfl) ?_ rfl rfl
    refine .p rfl rfl rfl ?_
    refine .chunk 4 32 ((y2.2 != y3.2) || (!((y2.1.Op == y3.1.Op) && ((y2.1.Rd == y3.1.Rd) && ((y2.1.Rs == y3.1.Rs) && ((y2.1.Rt == y3.1.Rt) && ((y2.1.Imm == y3.1.Imm) && true))))))) hS ?_ ?_
    · refine .both (y2.2 != y3.2) (fun hb => ?_) (fun hb => ?_)
      · skip
        refine .x hb ?_ rfl rfl
        refine .x hb ?_ rfl rfl
        refine .x hb ?_ rfl rfl
        refine .r (pkt hb rfl rfl rfl) ?_ rfl rfl
        exact .nil (ck 4 hS rfl (or_t hb) rfl rfl)
      · have hg1 := hb
        refine .g hg1 (.r (ld T.t23 hS.p1 rfl rfl rfl rfl rfl) ?_ rfl rfl) rfl
        refine .g hg1 (.r (ld T.t23 hS rfl rfl rfl rfl rfl) ?_ rfl rfl) rfl
        refine .g hg1 (.r (nes T.e23 rfl rfl rfl rfl) ?_ rfl rfl) rfl
        refine .r (pkf hg1 rfl rfl rfl) ?_ rfl rfl
        exact .nil (ck 4 hS rfl (or_f hg1) rfl rfl)
    intro W hS
    refine .p rfl rfl rfl ?_
    refine .chunk 3 36 (((y2.2 != y3.2) || (!((y2.1.Op == y3.1.Op) && ((y2.1.Rd == y3.1.Rd) && ((y2.1.Rs == y3.1.Rs) && ((y2.1.Rt == y3.1.Rt) && ((y2.1.Imm == y3.1.Imm) && true))))))) || (!y2.2)) hS ?_ ?_
    · refine .both ((y2.2 != y3.2) || (!((y2.1.Op == y3.1.Op) && ((y2.1.Rd == y3.1.Rd) && ((y2.1.Rs == y3.1.Rs) && ((y2.1.Rt == y3.1.Rt) && ((y2.1.Imm == y3.1.Imm) && true))))))) (fun hb => ?_) (fun hb => ?_)
      · skip
        refine .x hb ?_ rfl rfl
        refine .x hb ?_ rfl rfl
        refine .r (pkt hb rfl rfl rfl) ?_ rfl rfl
        exact .nil (ck 3 hS rfl (or_t hb) rfl rfl)
      · have hg2 := hb
        refine .g hg2 (.p rfl rfl rfl ?_) rfl
        refine .g hg2 (.p rfl rfl rfl ?_) rfl
        refine .r (pkf hg2 rfl rfl rfl) ?_ rfl rfl
        exact .nil (ck 3 hS rfl (or_f hg2) rfl rfl)
    intro W hS
    refine .nil ?_
    refine .cond rfl (fun hb => ?_) (fun hb => ?_)
    · have h := sel_t hb h
      refine .seq ?_
      refine .region ?_
      refine .p rfl rfl rfl ?_
      refine .p rfl rfl rfl ?_
      refine .r (eqb T.u4 rfl rfl rfl) ?_ rfl rfl
      refine .p rfl rfl rfl ?_
      refine .chunk 4 44 ((y2.2 == y3.2) && ((y2.1.Op == y3.1.Op) && ((y2.1.Rd == y3.1.Rd) && ((y2.1.Rs == y3.1.Rs) && ((y2.1.Rt == y3.1.Rt) && ((y2.1.Imm == y3.1.Imm) && true)))))) hS ?_ ?_
      · refine .both (y2.2 == y3.2) (fun hb => ?_) (fun hb => ?_)
        · have hg3 := hb
          refine .g hg3 (.r (ld T.t23 hS.p1 rfl rfl rfl rfl rfl) ?_ rfl rfl) rfl
          refine .g hg3 (.r (ld T.t23 hS rfl rfl rfl rfl rfl) ?_ rfl rfl) rfl
          refine .g hg3 (.r (eqs T.e23 rfl rfl rfl rfl) ?_ rfl rfl) rfl
          refine .r (pkt hg3 rfl rfl rfl) ?_ rfl rfl
          exact .nil (ck 4 hS rfl (and_t hg3) rfl rfl)
        · skip
          refine .x hb ?_ rfl rfl
          refine .x hb ?_ rfl rfl
          refine .x hb ?_ rfl rfl
          refine .r (pkf hb rfl rfl rfl) ?_ rfl rfl
          exact .nil (ck 4 hS rfl (and_f hb) rfl rfl)
      intro W hS
      refine .p rfl rfl rfl ?_
      refine .nil ?_
      refine .ret ?_
      cases h
      exact fin_ret (vs := [_]) () (rt rfl rn) rfl (hS.to [] rfl)
    · have h := sel_f hb h
      refine .skip ?_
      refine .seq ?_
      refine .region ?_
      refine .r (fa T.f23_0 rfl rfl rfl) ?_ rfl rfl
      refine .r (ld T.t3 hS.p1 rfl rfl rfl rfl rfl) ?_ rfl rfl
      refine .p rfl rfl rfl ?_
      refine .p rfl rfl rfl ?_
      refine .chunk 4 52 ((y2.1.Op == 17) || (y2.1.Op == 18)) hS ?_ ?_
      · refine .both (y2.1.Op == 17) (fun hb => ?_) (fun hb => ?_)
        · skip
          refine .x hb ?_ rfl rfl
          refine .x hb ?_ rfl rfl
          refine .x hb ?_ rfl rfl
          refine .r (pkt hb rfl rfl rfl) ?_ rfl rfl
          exact .nil (ck 4 hS rfl (or_t hb) rfl rfl)
        · have hg4 := hb
          refine .g hg4 (.r (fa T.f23_0 rfl rfl rfl) ?_ rfl rfl) rfl
          refine .g hg4 (.r (ld T.t3 hS.p1 rfl rfl rfl rfl rfl) ?_ rfl rfl) rfl
          refine .g hg4 (.p rfl rfl rfl ?_) rfl
          refine .r (pkf hg4 rfl rfl rfl) ?_ rfl rfl
          exact .nil (ck 4 hS rfl (or_f hg4) rfl rfl)
      intro W hS
      refine .p rfl rfl rfl ?_
      refine .chunk 4 57 (((y2.1.Op == 17) || (y2.1.Op == 18)) || (y2.1.Op == 20)) hS ?_ ?_
      · refine .both ((y2.1.Op == 17) || (y2.1.Op == 18)) (fun hb => ?_) (fun hb => ?_)
        · skip
          refine .x hb ?_ rfl rfl
          refine .x hb ?_ rfl rfl
          refine .x hb ?_ rfl rfl
          refine .r (pkt hb rfl rfl rfl) ?_ rfl rfl
          exact .nil (ck 4 hS rfl (or_t hb) rfl rfl)
        · have hg5 := hb
          refine .g hg5 (.r (fa T.f23_0 rfl rfl rfl) ?_ rfl rfl) rfl
          refine .g hg5 (.r (ld T.t3 hS.p1 rfl rfl rfl rfl rfl) ?_ rfl rfl) rfl
          refine .g hg5 (.p rfl rfl rfl ?_) rfl
          refine .r (pkf hg5 rfl rfl rfl) ?_ rfl rfl
          exact .nil (ck 4 hS rfl (or_f hg5) rfl rfl)
      intro W hS
      refine .p rfl rfl rfl ?_
      refine .nil ?_
      refine .seq ?_
      refine .region ?_
      refine .p rfl rfl rfl ?_
      refine .r (fa T.f23_4 rfl rfl rfl) ?_ rfl rfl
      refine .r (ld T.t3 hS.p1 rfl rfl rfl rfl rfl) ?_ rfl rfl
      refine .p rfl rfl rfl ?_
      refine .p rfl rfl rfl ?_
      refine .p rfl rfl rfl ?_
      refine .nil ?_
      refine .seq ?_
      refine .region ?_
      refine .r (ld T.t23 hS.p1 rfl rfl rfl rfl rfl) ?_ rfl rfl
      obtain ⟨y4, hy4, h⟩ := bnd h
      refine .c (.call0 hS Tryd.func13 (impl_InstrValid_ok hy4) rfl rfl ?_ rfl (by kernel_rfl) rfl rfl)
      intro W hS
      refine .p rfl rfl rfl ?_
      refine .chunk 17 82 (y4 && ((!(((y2.1.Op == 17) || (y2.1.Op == 18)) || (y2.1.Op == 20))) || ((((Int.tmod y2.1.Imm 4) == 0) && (decide ((w64 (y1 + (w64 (Int.tdiv y2.1.Imm 4)))) ≥ 0))) && (decide ((w64 (y1 + (w64 (Int.tdiv y2.1.Imm 4)))) < 92))))) hS ?_ ?_
      · refine .both (y4) (fun hb => ?_) (fun hb => ?_)
        · have hg6 := hb
          refine .g hg6 (.p rfl rfl rfl ?_) rfl
          refine .g hg6 (.p rfl rfl rfl ?_) rfl
          refine .g hg6 (.p rfl rfl rfl ?_) rfl
          refine .chunk 13 81 ((!(((y2.1.Op == 17) || (y2.1.Op == 18)) || (y2.1.Op == 20))) || ((((Int.tmod y2.1.Imm 4) == 0) && (decide ((w64 (y1 + (w64 (Int.tdiv y2.1.Imm 4)))) ≥ 0))) && (decide ((w64 (y1 + (w64 (Int.tdiv y2.1.Imm 4)))) < 92)))) hS ?_ ?_
          · refine .both (!(((y2.1.Op == 17) || (y2.1.Op == 18)) || (y2.1.Op == 20))) (fun hb => ?_) (fun hb => ?_)
            · skip
              refine .x hb ?_ rfl rfl
              refine .x hb ?_ rfl rfl
              refine .x hb ?_ rfl rfl
              refine .x hb ?_ rfl rfl
              refine .x hb ?_ rfl rfl
              refine .xu ?_ rfl rfl
              refine .xu ?_ rfl rfl
              refine .x hb ?_ rfl rfl
              refine .x hb ?_ rfl rfl
              refine .xu ?_ rfl rfl
              refine .xu ?_ rfl rfl
              refine .x hb ?_ rfl rfl
              refine .g hg6 (.r (pkt hb rfl rfl rfl) ?_ rfl rfl) rfl
              exact .nil (ck 13 hS rfl (or_t hb) rfl rfl)
            · have hg7 := hb
              refine .g hg7 (.r (fa T.f23_4 rfl rfl rfl) ?_ rfl rfl) rfl
              refine .g hg7 (.r (ld T.t3 hS.p1 rfl rfl rfl rfl rfl) ?_ rfl rfl) rfl
              refine .g hg7 (.p rfl rfl rfl ?_) rfl
              refine .g hg7 (.p rfl rfl rfl ?_) rfl
              refine .g hg7 (.p rfl rfl rfl ?_) rfl
              refine .chunk 3 76 (((Int.tmod y2.1.Imm 4) == 0) && (decide ((w64 (y1 + (w64 (Int.tdiv y2.1.Imm 4)))) ≥ 0))) hS ?_ ?_
              · refine .both ((Int.tmod y2.1.Imm 4) == 0) (fun hb => ?_) (fun hb => ?_)
                · have hg8 := hb
                  refine .g hg8 (.p rfl rfl rfl ?_) rfl
                  refine .g hg8 (.p rfl rfl rfl ?_) rfl
                  refine .g hg7 (.r (pkt hg8 rfl rfl rfl) ?_ rfl rfl) rfl
                  exact .nil (ck 3 hS rfl (and_t hg8) rfl rfl)
                · skip
                  refine .x hb ?_ rfl rfl
                  refine .x hb ?_ rfl rfl
                  refine .g hg7 (.r (pkf hb rfl rfl rfl) ?_ rfl rfl) rfl
                  exact .nil (ck 3 hS rfl (and_f hb) rfl rfl)
              intro W hS
              refine .g hg7 (.p rfl rfl rfl ?_) rfl
              refine .chunk 3 80 ((((Int.tmod y2.1.Imm 4) == 0) && (decide ((w64 (y1 + (w64 (Int.tdiv y2.1.Imm 4)))) ≥ 0))) && (decide ((w64 (y1 + (w64 (Int.tdiv y2.1.Imm 4)))) < 92))) hS ?_ ?_
              · refine .both (((Int.tmod y2.1.Imm 4) == 0) && (decide ((w64 (y1 + (w64 (Int.tdiv y2.1.Imm 4)))) ≥ 0))) (fun hb => ?_) (fun hb => ?_)
                · have hg9 := hb
                  refine .g hg9 (.p rfl rfl rfl ?_) rfl
                  refine .g hg9 (.p rfl rfl rfl ?_) rfl
                  refine .g hg7 (.r (pkt hg9 rfl rfl rfl) ?_ rfl rfl) rfl
                  exact .nil (ck 3 hS rfl (and_t hg9) rfl rfl)
                · skip
                  refine .x hb ?_ rfl rfl
                  refine .x hb ?_ rfl rfl
                  refine .g hg7 (.r (pkf hb rfl rfl rfl) ?_ rfl rfl) rfl
                  exact .nil (ck 3 hS rfl (and_f hb) rfl rfl)
              intro W hS
              refine .g hg6 (.r (pkf hg7 rfl rfl rfl) ?_ rfl rfl) rfl
              exact .nil (ck 9 hS rfl (or_f hg7) rfl rfl)
          intro W hS
          refine .r (pkt hg6 rfl rfl rfl) ?_ rfl rfl
          exact .nil (ck 5 hS rfl (and_t hg6) rfl rfl)
        · skip
          refine .x hb ?_ rfl rfl
          refine .x hb ?_ rfl rfl
          refine .x hb ?_ rfl rfl
          refine .xu ?_ rfl rfl
          refine .xu ?_ rfl rfl
          refine .xu ?_ rfl rfl
          refine .xu ?_ rfl rfl
          refine .xu ?_ rfl rfl
          refine .xu ?_ rfl rfl
          refine .xu ?_ rfl rfl
          refine .xu ?_ rfl rfl
          refine .xu ?_ rfl rfl
          refine .xu ?_ rfl rfl
          refine .xu ?_ rfl rfl
          refine .xu ?_ rfl rfl
          refine .x hb ?_ rfl rfl
          refine .r (pkf hb rfl rfl rfl) ?_ rfl rfl
          exact .nil (ck 17 hS rfl (and_f hb) rfl rfl)
      intro W hS
      refine .p rfl rfl rfl ?_
      refine .nil ?_
      refine .ret ?_
      cases h
      exact fin_ret (vs := [_]) () (rt rfl rn) rfl (hS.to [] rfl)
theorem laws_FnRuntimeSave_ok {a0 : List Int} {A_0 : Option Addr} {c_0 : Nat} {w : World} {r : Bool} (h : laws_FnRuntimeSave a0 = some r) (q_0 : Rd w (Old No w) A_0 c_0 5 1 (D.int .u8) a0) (hG : Gl w) : Calls Tryd.prog 8 #[.slice A_0 (a0).length c_0] w (Ret No w (fun s : Unit => .bool r) (fun s => [])) := by
  unfold laws_FnRuntimeSave at h
  refine enter Tryd.func8 rfl rfl ?_
  have hS := Sep.start w
  refine .seq ?_
  refine .region ?_
  refine .p rfl rfl rfl ?_
  refine .nil ?_
  refine .seq ?_
  refine .seq ?_
  refine .region ?_
  refine .p rfl rfl rfl ?_
  refine .r (len T.u28 rfl rfl) ?_ rfl rfl
  refine .p rfl rfl rfl ?_
  refine .nil ?_
  refine .cond rfl (fun hb => ?_) (fun hb => ?_)
  · have h := sel_t hb h
    refine .seq ?_
    refine .region ?_
    refine .p rfl rfl rfl ?_
    refine .nil ?_
    refine .ret ?_
    cases h
    exact fin_ret (vs := [_]) () (rt rfl rn) rfl (hS.to [] rfl)
  · have h := sel_f hb h
    refine .skip ?_
    refine .seq ?_
    refine .region ?_
    refine .p rfl rfl rfl ?_
    obtain ⟨y1, hy1, h⟩ := bnd h
    refine .c (.call0 hS Tryd.func12 (spec_DrawRuntimeInstr_ok hy1 (hS.keep q_0)) rfl rfl ?_ rfl (by kernel_rfl) rfl rfl)
    intro W hS
    refine .p rfl rfl rfl ?_
    refine .nil ?_
    refine .seq ?_
    refine .region ?_
    refine .p rfl rfl rfl ?_
    obtain ⟨y2, hy2, h⟩ := bnd h
    refine .c (.call0 hS Tryd.func10 (impl_RuntimeInstr_ok hy2 (hG.at hS id)) rfl rfl ?_ rfl (by kernel_rfl) rfl rfl)
    intro W hS
    refine .p rfl rfl rfl ?_
    refine .p rfl rfl rfl ?_
    refine .p rfl rfl rfl ?_
    refine .c (.alloc T.t23 hS ?_ rfl rfl rfl)
    intro g1 W hS
    refine .c (.st T.t23 hS rfl rfl rfl ?_ rfl rfl rfl rfl rfl)
    intro W hS
    refine .p rfl rfl rfl ?_
    refine .nil ?_
    refine .seq ?_
    refine .region ?_
    refine .p rfl rfl rfl ?_
    obtain ⟨y3, hy3, h⟩ := bnd h
    refine .c (.call0 hS Tryd.func9 (spec_RuntimeInstr_ok hy3) rfl rfl ?_ rfl (by kernel_rfl) rfl rfl)
    intro W hS
    refine .p rfl rfl rfl ?_
    refine .p rfl rfl rfl ?_
    refine .p rfl rfl rfl ?_
    refine .c (.alloc T.t23 hS ?_ rfl rfl rfl)
    intro g2 W hS
    refine .c (.st T.t23 hS rfl rfl rfl ?_ rfl rfl rfl rfl rfl)
    intro W hS
    refine .p rfl rfl rfl ?_
    refine .nil ?_
    refine .seq ?_
    refine .seq ?_
    refine .region ?_
    refine .p rfl rfl rfl ?_
    refine .p rfl rfl rfl ?_
    refine .r (neb T.u4 rfl rfl rfl) ?_ rfl rfl
    refine .p rfl rfl rfl ?_
    refine .chunk 4 32 ((y2.2 != y3.2) || (!((y2.1.Op == y3.1.Op) && ((y2.1.Rd == y3.1.Rd) && ((y2.1.Rs == y3.1.Rs) && ((y2.1.Rt == y3.1.Rt) && ((y2.1.Imm == y3.1.Imm) && true))))))) hS ?_ ?_
    · refine .both (y2.2 != y3.2) (fun hb => ?_) (fun hb => ?_)
      · skip
        refine .x hb ?_ rfl rfl
        refine .x hb ?_ rfl rfl
        refine .x hb ?_ rfl rfl
        refine .r (pkt hb rfl rfl rfl) ?_ rfl rfl
        exact .nil (ck 4 hS rfl (or_t hb) rfl rfl)
      · have hg1 := hb
        refine .g hg1 (.r (ld T.t23 hS.p1 rfl rfl rfl rfl rfl) ?_ rfl rfl) rfl
        refine .g hg1 (.r (ld T.t23 hS rfl rfl rfl rfl rfl) ?_ rfl rfl) rfl
        refine .g hg1 (.r (nes T.e23 rfl rfl rfl rfl) ?_ rfl rfl) rfl
        refine .r (pkf hg1 rfl rfl rfl) ?_ rfl rfl
        exact .nil (ck 4 hS rfl (or_f hg1) rfl rfl)
    intro W hS
    refine .p rfl rfl rfl ?_
    refine .chunk 3 36 (((y2.2 != y3.2) || (!((y2.1.Op == y3.1.Op) && ((y2.1.Rd == y3.1.Rd) && ((y2.1.Rs == y3.1.Rs) && ((y2.1.Rt == y3.1.Rt) && ((y2.1.Imm == y3.1.Imm) && true))))))) || (!y2.2)) hS ?_ ?_
    · refine .both ((y2.2 != y3.2) || (!((y2.1.Op == y3.1.Op) && ((y2.1.Rd == y3.1.Rd) && ((y2.1.Rs == y3.1.Rs) && ((y2.1.Rt == y3.1.Rt) && ((y2.1.Imm == y3.1.Imm) && true))))))) (fun hb => ?_) (fun hb => ?_)
      · skip
        refine .x hb ?_ rfl rfl
        refine .x hb ?_ rfl rfl
        refine .r (pkt hb rfl rfl rfl) ?_ rfl rfl
        exact .nil (ck 3 hS rfl (or_t hb) rfl rfl)
      · have hg2 := hb
        refine .g hg2 (.p rfl rfl rfl ?_) rfl
        refine .g hg2 (.p rfl rfl rfl ?_) rfl
        refine .r (pkf hg2 rfl rfl rfl) ?_ rfl rfl
        exact .nil (ck 3 hS rfl (or_f hg2) rfl rfl)
    intro W hS
    refine .nil ?_
    refine .cond rfl (fun hb => ?_) (fun hb => ?_)
    · have h := sel_t hb h
      refine .seq ?_
      refine .region ?_
      refine .p rfl rfl rfl ?_
      refine .p rfl rfl rfl ?_
      refine .r (eqb T.u4 rfl rfl rfl) ?_ rfl rfl
      refine .p rfl rfl rfl ?_
      refine .chunk 4 44 ((y2.2 == y3.2) && ((y2.1.Op == y3.1.Op) && ((y2.1.Rd == y3.1.Rd) && ((y2.1.Rs == y3.1.Rs) && ((y2.1.Rt == y3.1.Rt) && ((y2.1.Imm == y3.1.Imm) && true)))))) hS ?_ ?_
      · refine .both (y2.2 == y3.2) (fun hb => ?_) (fun hb => ?_)
        · have hg3 := hb
          refine .g hg3 (.r (ld T.t23 hS.p1 rfl rfl rfl rfl rfl) ?_ rfl rfl) rfl
          refine .g hg3 (.r (ld T.t23 hS rfl rfl rfl rfl rfl) ?_ rfl rfl) rfl
          refine .g hg3 (.r (eqs T.e23 rfl rfl rfl rfl) ?_ rfl rfl) rfl
          refine .r (pkt hg3 rfl rfl rfl) ?_ rfl rfl
          exact .nil (ck 4 hS rfl (and_t hg3) rfl rfl)
        · skip
          refine .x hb ?_ rfl rfl
          refine .x hb ?_ rfl rfl
          refine .x hb ?_ rfl rfl
          refine .r (pkf hb rfl rfl rfl) ?_ rfl rfl
          exact .nil (ck 4 hS rfl (and_f hb) rfl rfl)
      intro W hS
      refine .p rfl rfl rfl ?_
      refine .nil ?_
      refine .ret ?_
      cases h
      exact fin_ret (vs := [_]) () (rt rfl rn) rfl (hS.to [] rfl)
    · have h := sel_f hb h
      refine .skip ?_
      refine .seq ?_
      refine .seq ?_
      refine .region ?_
      refine .p rfl rfl rfl ?_
      refine .p rfl rfl rfl ?_
      refine .p rfl rfl rfl ?_
      refine .chunk 3 50 ((decide (y1 < 55)) || (decide (y1 > 67))) hS ?_ ?_
      · refine .both (decide (y1 < 55)) (fun hb => ?_) (fun hb => ?_)
        · skip
          refine .x hb ?_ rfl rfl
          refine .x hb ?_ rfl rfl
          refine .r (pkt hb rfl rfl rfl) ?_ rfl rfl
          exact .nil (ck 3 hS rfl (or_t hb) rfl rfl)
        · have hg4 := hb
          refine .g hg4 (.p rfl rfl rfl ?_) rfl
          refine .g hg4 (.p rfl rfl rfl ?_) rfl
          refine .r (pkf hg4 rfl rfl rfl) ?_ rfl rfl
          exact .nil (ck 3 hS rfl (or_f hg4) rfl rfl)
      intro W hS
      refine .nil ?_
      refine .cond rfl (fun hb => ?_) (fun hb => ?_)
      · have h := sel_t hb h
        refine .seq ?_
        refine .region ?_
        refine .r (ld T.t23 hS.p1 rfl rfl rfl rfl rfl) ?_ rfl rfl
        obtain ⟨y4, hy4, h⟩ := bnd h
        refine .c (.call0 hS Tryd.func13 (impl_InstrValid_ok hy4) rfl rfl ?_ rfl (by kernel_rfl) rfl rfl)
        intro W hS
        refine .p rfl rfl rfl ?_
        refine .nil ?_
        refine .ret ?_
        cases h
        exact fin_ret (vs := [_]) () (rt rfl rn) rfl (hS.to [] rfl)
      · have h := sel_f hb h
        refine .skip ?_
        refine .seq ?_
        refine .region ?_
        refine .p rfl rfl rfl ?_
        refine .p rfl rfl rfl ?_
        obtain ⟨y5, hy5, h⟩ := bnd h
        refine .c (.call0 hS Tryd.func10 (impl_RuntimeInstr_ok hy5 (hG.at hS id)) rfl rfl ?_ rfl (by kernel_rfl) rfl rfl)
        intro W hS
        refine .p rfl rfl rfl ?_
        refine .p rfl rfl rfl ?_
        refine .p rfl rfl rfl ?_
        refine .c (.alloc T.t23 hS ?_ rfl rfl rfl)
        intro g3 W hS
        refine .c (.st T.t23 hS rfl rfl rfl ?_ rfl rfl rfl rfl rfl)
        intro W hS
        refine .p rfl rfl rfl ?_
        refine .nil ?_
        refine .seq ?_
        refine .region ?_
        refine .p rfl rfl rfl ?_
        refine .p rfl rfl rfl ?_
        refine .chunk 4 64 (y5.2 && (y2.1.Op == 16)) hS ?_ ?_
        · refine .both (y5.2) (fun hb => ?_) (fun hb => ?_)
          · have hg5 := hb
            refine .g hg5 (.r (fa T.f23_0 rfl rfl rfl) ?_ rfl rfl) rfl
            refine .g hg5 (.r (ld T.t3 hS.p2 rfl rfl rfl rfl rfl) ?_ rfl rfl) rfl
            refine .g hg5 (.p rfl rfl rfl ?_) rfl
            refine .r (pkt hg5 rfl rfl rfl) ?_ rfl rfl
            exact .nil (ck 4 hS rfl (and_t hg5) rfl rfl)
          · skip
            refine .x hb ?_ rfl rfl
            refine .x hb ?_ rfl rfl
            refine .x hb ?_ rfl rfl
            refine .r (pkf hb rfl rfl rfl) ?_ rfl rfl
            exact .nil (ck 4 hS rfl (and_f hb) rfl rfl)
        intro W hS
        refine .p rfl rfl rfl ?_
        refine .chunk 4 69 ((y5.2 && (y2.1.Op == 16)) && (y2.1.Rs == 4)) hS ?_ ?_
        · refine .both (y5.2 && (y2.1.Op == 16)) (fun hb => ?_) (fun hb => ?_)
          · have hg6 := hb
            refine .g hg6 (.r (fa T.f23_2 rfl rfl rfl) ?_ rfl rfl) rfl
            refine .g hg6 (.r (ld T.t3 hS.p2 rfl rfl rfl rfl rfl) ?_ rfl rfl) rfl
            refine .g hg6 (.p rfl rfl rfl ?_) rfl
            refine .r (pkt hg6 rfl rfl rfl) ?_ rfl rfl
            exact .nil (ck 4 hS rfl (and_t hg6) rfl rfl)
          · skip
            refine .x hb ?_ rfl rfl
            refine .x hb ?_ rfl rfl
            refine .x hb ?_ rfl rfl
            refine .r (pkf hb rfl rfl rfl) ?_ rfl rfl
            exact .nil (ck 4 hS rfl (and_f hb) rfl rfl)
        intro W hS
        refine .p rfl rfl rfl ?_
        refine .chunk 7 77 (((y5.2 && (y2.1.Op == 16)) && (y2.1.Rs == 4)) && (y2.1.Imm == (w64 (4 * (w64 (y1 - 54)))))) hS ?_ ?_
        · refine .both ((y5.2 && (y2.1.Op == 16)) && (y2.1.Rs == 4)) (fun hb => ?_) (fun hb => ?_)
          · have hg7 := hb
            refine .g hg7 (.r (fa T.f23_4 rfl rfl rfl) ?_ rfl rfl) rfl
            refine .g hg7 (.r (ld T.t3 hS.p2 rfl rfl rfl rfl rfl) ?_ rfl rfl) rfl
            refine .g hg7 (.p rfl rfl rfl ?_) rfl
            refine .g hg7 (.p rfl rfl rfl ?_) rfl
            refine .g hg7 (.p rfl rfl rfl ?_) rfl
            refine .g hg7 (.p rfl rfl rfl ?_) rfl
            refine .r (pkt hg7 rfl rfl rfl) ?_ rfl rfl
            exact .nil (ck 7 hS rfl (and_t hg7) rfl rfl)
          · skip
            refine .x hb ?_ rfl rfl
            refine .x hb ?_ rfl rfl
            refine .x hb ?_ rfl rfl
            refine .x hb ?_ rfl rfl
            refine .x hb ?_ rfl rfl
            refine .x hb ?_ rfl rfl
            refine .r (pkf hb rfl rfl rfl) ?_ rfl rfl
            exact .nil (ck 7 hS rfl (and_f hb) rfl rfl)
        intro W hS
        refine .p rfl rfl rfl ?_
        refine .chunk 8 86 ((((y5.2 && (y2.1.Op == 16)) && (y2.1.Rs == 4)) && (y2.1.Imm == (w64 (4 * (w64 (y1 - 54)))))) && ((y5.1.Op == 14) && ((y5.1.Rd == y2.1.Rt) && ((y5.1.Rs == 4) && ((y5.1.Rt == 0) && ((y5.1.Imm == y2.1.Imm) && true)))))) hS ?_ ?_
        · refine .both (((y5.2 && (y2.1.Op == 16)) && (y2.1.Rs == 4)) && (y2.1.Imm == (w64 (4 * (w64 (y1 - 54)))))) (fun hb => ?_) (fun hb => ?_)
          · have hg8 := hb
            refine .g hg8 (.r (ld T.t23 hS rfl rfl rfl rfl rfl) ?_ rfl rfl) rfl
            refine .g hg8 (.r (fa T.f23_3 rfl rfl rfl) ?_ rfl rfl) rfl
            refine .g hg8 (.r (ld T.t3 hS.p2 rfl rfl rfl rfl rfl) ?_ rfl rfl) rfl
            refine .g hg8 (.r (fa T.f23_4 rfl rfl rfl) ?_ rfl rfl) rfl
            refine .g hg8 (.r (ld T.t3 hS.p2 rfl rfl rfl rfl rfl) ?_ rfl rfl) rfl
            refine .g hg8 (.r (bs T.s23 rfl rfl) ?_ rfl rfl) rfl
            refine .g hg8 (.r (eqs T.e23 rfl rfl rfl rfl) ?_ rfl rfl) rfl
            refine .r (pkt hg8 rfl rfl rfl) ?_ rfl rfl
            exact .nil (ck 8 hS rfl (and_t hg8) rfl rfl)
          · skip
            refine .x hb ?_ rfl rfl
            refine .x hb ?_ rfl rfl
            refine .x hb ?_ rfl rfl
            refine .x hb ?_ rfl rfl
            refine .x hb ?_ rfl rfl
            refine .x hb ?_ rfl rfl
            refine .x hb ?_ rfl rfl
            refine .r (pkf hb rfl rfl rfl) ?_ rfl rfl
            exact .nil (ck 8 hS rfl (and_f hb) rfl rfl)
        intro W hS
        refine .p rfl rfl rfl ?_
        refine .nil ?_
        refine .ret ?_
        cases h
        exact fin_ret (vs := [_]) () (rt rfl rn) rfl (hS.to [] rfl)
end Go.Proofs.YtodnendchboieaaDoor.N
