/- Printed by a program of mine: what the program's functions compute, as plain Lean functions. -/
import Derived.Test.YtjpbdpfkhdekpaaGreatDoorZ6
import Derived.Test.YtjpbdpfkhdekpaaGreatDoorProg
set_option linter.unusedVariables false
set_option maxRecDepth 100000
set_option maxHeartbeats 4000000
namespace Go.Proofs.YtjpbdpfkhdekpaaGreatDoor.N
open Go.Proofs.YtjpbdpfkhdekpaaGreatDoor.X
structure L6Rd where
  b : List Int
  p : Int
def dL6Rd (x : L6Rd) : D := .agg [.row 5 1 (x.b.map (D.int .u8)), .int .i64 x.p]

structure Quad where
  Op : Int
  Dst : Int
  A : Int
  B : Int
  N : Int
def dQuad (x : Quad) : D := .agg [.int .i64 x.Op, .int .i64 x.Dst, .int .i64 x.A, .int .i64 x.B, .int .i64 x.N]
def vQuad (x : Quad) : Value := .agg #[.int .i64 x.Op, .int .i64 x.Dst, .int .i64 x.A, .int .i64 x.B, .int .i64 x.N]

structure Expr where
  Op : Int
  N : Int
  Args : List Expr
mutual
def dExpr : Expr → D
  | ⟨x0, x1, x2⟩ => .agg [.int .i64 x0, .int .i64 x1, .row 90 3 (dExprs x2)]
def dExprs : List Expr → List D
  | [] => []
  | x :: r => dExpr x :: dExprs r
end
theorem dExprs_map : ∀ l, dExprs l = l.map dExpr
  | [] => rfl
  | x :: r => by rw [dExprs, dExprs_map r, List.map]
theorem eExpr (x : Expr) : dExpr x = .agg [.int .i64 x.Op, .int .i64 x.N, .row 90 3 (x.Args.map dExpr)] := by
  cases x; simp only [dExpr, dExprs_map]
theorem zExpr (x : Expr) : (dExpr x).sz = 3 := by simp only [eExpr, D.sz, D.szs]

structure Stmt where
  Kind : Int
  Var : Int
  Box : Int
  Expr : Expr
  Body : List Stmt
  Else : List Stmt
mutual
def dStmt : Stmt → D
  | ⟨x0, x1, x2, x3, x4, x5⟩ => .agg [.int .i64 x0, .int .i64 x1, .int .i64 x2, dExpr x3, .row 92 8 (dStmts x4), .row 92 8 (dStmts x5)]
def dStmts : List Stmt → List D
  | [] => []
  | x :: r => dStmt x :: dStmts r
end
theorem dStmts_map : ∀ l, dStmts l = l.map dStmt
  | [] => rfl
  | x :: r => by rw [dStmts, dStmts_map r, List.map]
theorem eStmt (x : Stmt) : dStmt x = .agg [.int .i64 x.Kind, .int .i64 x.Var, .int .i64 x.Box, dExpr x.Expr, .row 92 8 (x.Body.map dStmt), .row 92 8 (x.Else.map dStmt)] := by
  cases x; simp only [dStmt, dStmts_map]
theorem zStmt (x : Stmt) : (dStmt x).sz = 8 := by simp only [eStmt, D.sz, D.szs, zExpr]

structure Fact where
  Kind : Int
  N : Int
def dFact (x : Fact) : D := .agg [.int .i64 x.Kind, .int .i64 x.N]
def vFact (x : Fact) : Value := .agg #[.int .i64 x.Kind, .int .i64 x.N]

structure Instr where
  Op : Int
  Rd : Int
  Rs : Int
  Rt : Int
  Imm : Int
def dInstr (x : Instr) : D := .agg [.int .i64 x.Op, .int .i64 x.Rd, .int .i64 x.Rs, .int .i64 x.Rt, .int .i64 x.Imm]
def vInstr (x : Instr) : Value := .agg #[.int .i64 x.Op, .int .i64 x.Rd, .int .i64 x.Rs, .int .i64 x.Rt, .int .i64 x.Imm]

structure Emitter where
  colors : Int
  list : List Instr
def dEmitter (x : Emitter) : D := .agg [.int .i64 x.colors, .row 37 5 (x.list.map dInstr)]

def binInstrs : List Int := [7, 8, 6, 8, 11, 9, 10, 1, 2, 3, 4, 5]
def colorRegs : List Int := [8, 9, 18, 19, 20, 21, 22, 23]
def NGl : Nat := 2
def Gl (w : World) : Prop := Tab 0 1 (fun x : Int => [.int .i64 x]) binInstrs w ∧ Tab 1 1 (fun x : Int => [.int .i64 x]) colorRegs w
theorem Gl.at {w W : World} {M : Nat → Prop} {L : List Ent} (h : Gl w) (hS : Sep M w W L) (hM : ∀ g, g < NGl → ¬ M g) : Gl W := ⟨Tab.at h.1 hS (hM 0 (by decide)), Tab.at h.2 hS (hM 1 (by decide))⟩
theorem Gl.noS {w W : World} {M S : Nat → Prop} (h : Gl w) (hM : ∀ g, g < NGl → ¬ M g) (h1 : ∀ b, S b → OkS M w W b) : ∀ g, g < NGl → ¬ S g := fun g hg hs => by
  have h3 : 1 < w.heap.size := h.2.1
  have hg' : g < 2 := hg
  rcases (h1 g hs).1 with h4 | h4
  · omega
  · exact hM g hg h4

theorem T.u22 : Tryz.prog.underlying 22 = some (.slice 5) := by kernel_rfl
theorem T.t5 : tinfo Tryz.prog 5 = some (false, some (.int .u8 0), 1, 1) := by kernel_rfl
theorem T.s50 : sinfo Tryz.prog 50 = some ([(0, 1), (1, 1)], [.slice none 0 0, .int .i64 0]) := by kernel_rfl
theorem T.f50_1 : fOff Tryz.prog 50 1 = some (1, 1, false) := by kernel_rfl
theorem T.t3 : tinfo Tryz.prog 3 = some (false, some (.int .i64 0), 1, 8) := by kernel_rfl
theorem T.f50_0 : fOff Tryz.prog 50 0 = some (0, 1, false) := by kernel_rfl
theorem T.t22 : tinfo Tryz.prog 22 = some (false, some (.slice none 0 0), 1, 24) := by kernel_rfl
theorem T.u5 : Tryz.prog.underlying 5 = some (.int .u8) := by kernel_rfl
theorem T.u3 : Tryz.prog.underlying 3 = some (.int .i64) := by kernel_rfl
theorem T.mix : Tryz.prog.follows .mixedOrders = true := by kernel_rfl
theorem T.u31 : Tryz.prog.underlying 31 = some (.slice 3) := by kernel_rfl
theorem T.t34 : tinfo Tryz.prog 34 = some (true, some (.agg #[.int .i64 0, .int .i64 0, .int .i64 0, .int .i64 0, .int .i64 0]), 5, 40) := by kernel_rfl
theorem T.s34 : sinfo Tryz.prog 34 = some ([(0, 1), (1, 1), (2, 1), (3, 1), (4, 1)], [.int .i64 0, .int .i64 0, .int .i64 0, .int .i64 0, .int .i64 0]) := by kernel_rfl
theorem T.u23 : Tryz.prog.underlying 23 = some (.slice 34) := by kernel_rfl
theorem T.u65 : Tryz.prog.underlying 65 = some (.slice 92) := by kernel_rfl
theorem T.t92 : tinfo Tryz.prog 92 = some (true, some (.agg #[.int .i64 0, .int .i64 0, .int .i64 0, .int .i64 0, .int .i64 0, .slice none 0 0, .slice none 0 0, .slice none 0 0]), 8, 112) := by kernel_rfl
theorem T.f92_4 : fOff Tryz.prog 92 4 = some (6, 1, false) := by kernel_rfl
theorem T.t65 : tinfo Tryz.prog 65 = some (false, some (.slice none 0 0), 1, 24) := by kernel_rfl
theorem T.f92_5 : fOff Tryz.prog 92 5 = some (7, 1, false) := by kernel_rfl
theorem T.f92_1 : fOff Tryz.prog 92 1 = some (1, 1, false) := by kernel_rfl
theorem T.f92_2 : fOff Tryz.prog 92 2 = some (2, 1, false) := by kernel_rfl
theorem T.f90_0 : fOff Tryz.prog 90 0 = some (0, 1, false) := by kernel_rfl
theorem T.f90_1 : fOff Tryz.prog 90 1 = some (1, 1, false) := by kernel_rfl
theorem T.f90_2 : fOff Tryz.prog 90 2 = some (2, 1, false) := by kernel_rfl
theorem T.t88 : tinfo Tryz.prog 88 = some (false, some (.slice none 0 0), 1, 24) := by kernel_rfl
theorem T.u88 : Tryz.prog.underlying 88 = some (.slice 90) := by kernel_rfl
theorem T.t90 : tinfo Tryz.prog 90 = some (true, some (.agg #[.int .i64 0, .int .i64 0, .slice none 0 0]), 3, 40) := by kernel_rfl
theorem T.f92_0 : fOff Tryz.prog 92 0 = some (0, 1, false) := by kernel_rfl
theorem T.f92_3 : fOff Tryz.prog 92 3 = some (3, 3, true) := by kernel_rfl
theorem T.s90 : sinfo Tryz.prog 90 = some ([(0, 1), (1, 1), (2, 1)], [.int .i64 0, .int .i64 0, .slice none 0 0]) := by kernel_rfl
theorem T.s92 : sinfo Tryz.prog 92 = some ([(0, 1), (1, 1), (2, 1), (3, 3), (6, 1), (7, 1)], [.int .i64 0, .int .i64 0, .int .i64 0, .int .i64 0, .int .i64 0, .slice none 0 0, .slice none 0 0, .slice none 0 0]) := by kernel_rfl
theorem T.f34_1 : fOff Tryz.prog 34 1 = some (1, 1, false) := by kernel_rfl
theorem T.f34_2 : fOff Tryz.prog 34 2 = some (2, 1, false) := by kernel_rfl
theorem T.f34_3 : fOff Tryz.prog 34 3 = some (3, 1, false) := by kernel_rfl
theorem T.f34_0 : fOff Tryz.prog 34 0 = some (0, 1, false) := by kernel_rfl
theorem T.f34_4 : fOff Tryz.prog 34 4 = some (4, 1, false) := by kernel_rfl
theorem T.u105 : Tryz.prog.underlying 105 = some (.slice 124) := by kernel_rfl
theorem T.t124 : tinfo Tryz.prog 124 = some (true, some (.agg #[.int .i64 0, .int .i64 0]), 2, 16) := by kernel_rfl
theorem T.f124_0 : fOff Tryz.prog 124 0 = some (0, 1, false) := by kernel_rfl
theorem T.f124_1 : fOff Tryz.prog 124 1 = some (1, 1, false) := by kernel_rfl
theorem T.s124 : sinfo Tryz.prog 124 = some ([(0, 1), (1, 1)], [.int .i64 0, .int .i64 0]) := by kernel_rfl
theorem T.e124 : einfo Tryz.prog 124 = some [(0, .int .i64), (1, .int .i64)] := by kernel_rfl
theorem T.u102 : Tryz.prog.underlying 102 = some (.slice 105) := by kernel_rfl
theorem T.t105 : tinfo Tryz.prog 105 = some (false, some (.slice none 0 0), 1, 24) := by kernel_rfl
theorem T.u106 : Tryz.prog.underlying 106 = some (.slice 31) := by kernel_rfl
theorem T.t31 : tinfo Tryz.prog 31 = some (false, some (.slice none 0 0), 1, 24) := by kernel_rfl
theorem T.u113 : Tryz.prog.underlying 113 = some (.slice 4) := by kernel_rfl
theorem T.t4 : tinfo Tryz.prog 4 = some (false, some (.bool false), 1, 1) := by kernel_rfl
theorem T.u110 : Tryz.prog.underlying 110 = some (.slice 113) := by kernel_rfl
theorem T.t113 : tinfo Tryz.prog 113 = some (false, some (.slice none 0 0), 1, 24) := by kernel_rfl
theorem T.u4 : Tryz.prog.underlying 4 = some (.bool) := by kernel_rfl
theorem T.f53_1 : fOff Tryz.prog 53 1 = some (1, 1, false) := by kernel_rfl
theorem T.t26 : tinfo Tryz.prog 26 = some (false, some (.slice none 0 0), 1, 24) := by kernel_rfl
theorem T.u26 : Tryz.prog.underlying 26 = some (.slice 37) := by kernel_rfl
theorem T.t37 : tinfo Tryz.prog 37 = some (true, some (.agg #[.int .i64 0, .int .i64 0, .int .i64 0, .int .i64 0, .int .i64 0]), 5, 40) := by kernel_rfl
theorem T.f53_0 : fOff Tryz.prog 53 0 = some (0, 1, false) := by kernel_rfl
theorem T.u68 : Tryz.prog.underlying 68 = some (.array 8 3) := by kernel_rfl
theorem T.s37 : sinfo Tryz.prog 37 = some ([(0, 1), (1, 1), (2, 1), (3, 1), (4, 1)], [.int .i64 0, .int .i64 0, .int .i64 0, .int .i64 0, .int .i64 0]) := by kernel_rfl
theorem T.s53 : sinfo Tryz.prog 53 = some ([(0, 1), (1, 1)], [.int .i64 0, .slice none 0 0]) := by kernel_rfl
theorem T.u83 : Tryz.prog.underlying 83 = some (.int .u32) := by kernel_rfl
theorem T.u21 : Tryz.prog.underlying 21 = some (.int .i32) := by kernel_rfl
theorem T.u59 : Tryz.prog.underlying 59 = some (.array 12 3) := by kernel_rfl
theorem T.e34 : einfo Tryz.prog 34 = some [(0, .int .i64), (1, .int .i64), (2, .int .i64), (3, .int .i64), (4, .int .i64)] := by kernel_rfl
theorem T.e37 : einfo Tryz.prog 37 = some [(0, .int .i64), (1, .int .i64), (2, .int .i64), (3, .int .i64), (4, .int .i64)] := by kernel_rfl
theorem T.f37_0 : fOff Tryz.prog 37 0 = some (0, 1, false) := by kernel_rfl
theorem T.f37_4 : fOff Tryz.prog 37 4 = some (4, 1, false) := by kernel_rfl
def spec_l6Open (a0 : List Int) : Option (L6Rd) :=
(sel (decide ((a0.length : Int) > 2000)) ((cut a0 0 2000).bind fun r1 =>
some r1) <|
some a0 : Option ((List Int))).bind fun y1 =>
some (L6Rd.mk y1 0)
def spec_l6Rd_pick (a0 : L6Rd) (a1 : Int) : Option (Int × Int) :=
sel ((decide (a1 < 1)) || ((a0.b.length : Int) == 0)) (some (0, w64 (a0.p + 1))) <|
sel (decide ((w64 ((w64 (a0.p + 1)) - 1)) < (a0.b.length : Int))) ((nth a0.b (w64 ((w64 (a0.p + 1)) - 1))).bind fun x1 =>
(remO (w64 (x1)) a1).bind fun d1 =>
some (d1, w64 (a0.p + 1))) <|
(remO (w64 ((w64 (a0.p + 1)) - 1)) (a0.b.length : Int)).bind fun d2 =>
(nth a0.b d2).bind fun x2 =>
(remO (w64 ((w64 ((w64 ((w64 (a0.p + 1)) - 1)) * 7)) + 3)) (a0.b.length : Int)).bind fun d3 =>
(nth a0.b d3).bind fun x3 =>
(quoO .i64 (w64 ((w64 (a0.p + 1)) - 1)) (a0.b.length : Int)).bind fun d4 =>
(remO (bitsI .xor .i64 (w64 ((w64 ((w64 ((w64 ((w64 (x2)) * 131)) + (w64 ((w64 (x3)) * 1117)))) + (w64 ((w64 ((w64 (a0.p + 1)) - 1)) * 29)))) + (w64 (d4 * 53)))) (w64 (Int.tdiv (w64 ((w64 ((w64 ((w64 ((w64 (x2)) * 131)) + (w64 ((w64 (x3)) * 1117)))) + (w64 ((w64 ((w64 (a0.p + 1)) - 1)) * 29)))) + (w64 (d4 * 53)))) 64))) a1).bind fun d5 =>
some (d5, w64 (a0.p + 1))
def spec_l93Reg (a0 : L6Rd) : Option (Int × Int) :=
(spec_l6Rd_pick (L6Rd.mk a0.b a0.p) 6).bind fun y1 =>
some (y1.1, y1.2)
def spec_Wrap (a0 : Int) : Option (Int) :=
sel (decide ((Int.tmod a0 4294967296) > 2147483647)) (some (w64 ((Int.tmod a0 4294967296) - 4294967296))) <|
sel (decide ((Int.tmod a0 4294967296) < (-2147483648))) (some (w64 ((Int.tmod a0 4294967296) + 4294967296))) <|
some (Int.tmod a0 4294967296)
def spec_l91Word (a0 : L6Rd) : Option (Int × Int) :=
(spec_l6Rd_pick (L6Rd.mk a0.b a0.p) 6).bind fun y1 =>
sel (y1.1 == 0) ((spec_l6Rd_pick (L6Rd.mk a0.b y1.2) 8).bind fun y2 =>
(nth [(-2147483648), 2147483647, (-1), 0, 1, (-2147483647), 65536, (-65536)] y2.1).bind fun x1 =>
some (x1, y2.2)) <|
sel (y1.1 == 1) ((spec_l6Rd_pick (L6Rd.mk a0.b y1.2) 256).bind fun y3 =>
(spec_l6Rd_pick (L6Rd.mk a0.b y3.2) 256).bind fun y4 =>
(spec_l6Rd_pick (L6Rd.mk a0.b y4.2) 256).bind fun y5 =>
(spec_l6Rd_pick (L6Rd.mk a0.b y5.2) 200).bind fun y6 =>
(spec_Wrap (w64 ((w64 ((w64 ((w64 (y3.1 * 65536)) + (w64 (y4.1 * 256)))) + y5.1)) * (w64 (1 + y6.1))))).bind fun y7 =>
some (y7, y6.2)) <|
sel (y1.1 == 2) ((spec_l6Rd_pick (L6Rd.mk a0.b y1.2) 200).bind fun y8 =>
some (w64 (0 - y8.1), y8.2)) <|
(spec_l6Rd_pick (L6Rd.mk a0.b y1.2) 20).bind fun y9 =>
some (y9.1, y9.2)
def spec_l91Op (a0 : L6Rd) : Option (Int × Int) :=
(spec_l6Rd_pick (L6Rd.mk a0.b a0.p) 12).bind fun y1 =>
some (w64 (1 + y1.1), y1.2)
def spec_l93Quad (a0 : L6Rd) (a1 : Int) : Option (Quad × Int) :=
(spec_l6Rd_pick (L6Rd.mk a0.b a0.p) 12).bind fun y1 =>
(sel (y1.1 == 0) (some (y1.1 == 0)) <|
some (y1.1 == 1) : Option (Bool)).bind fun y2 =>
sel y2 ((spec_l93Reg (L6Rd.mk a0.b y1.2)).bind fun y3 =>
(spec_l91Word (L6Rd.mk a0.b y3.2)).bind fun y4 =>
(spec_l6Rd_pick (L6Rd.mk a0.b y4.2) 4).bind fun y5 =>
(nth [0, 1, 2, y4.1] y5.1).bind fun x1 =>
some ((Quad.mk 1 y3.1 0 0 x1), y5.2)) <|
(sel (y1.1 == 2) (some (y1.1 == 2)) <|
some (y1.1 == 3) : Option (Bool)).bind fun y6 =>
sel y6 ((spec_l93Reg (L6Rd.mk a0.b y1.2)).bind fun y7 =>
(spec_l93Reg (L6Rd.mk a0.b y7.2)).bind fun y8 =>
some ((Quad.mk 2 y7.1 y8.1 0 0), y8.2)) <|
(sel (y1.1 == 4) (some (y1.1 == 4)) <|
sel (y1.1 == 5) (some (y1.1 == 5)) <|
some (y1.1 == 6) : Option (Bool)).bind fun y9 =>
sel y9 ((spec_l93Reg (L6Rd.mk a0.b y1.2)).bind fun y10 =>
(spec_l93Reg (L6Rd.mk a0.b y10.2)).bind fun y11 =>
(spec_l93Reg (L6Rd.mk a0.b y11.2)).bind fun y12 =>
(spec_l91Op (L6Rd.mk a0.b y12.2)).bind fun y13 =>
some ((Quad.mk 3 y10.1 y11.1 y12.1 y13.1), y13.2)) <|
sel (y1.1 == 7) ((spec_l6Rd_pick (L6Rd.mk a0.b y1.2) a1).bind fun y14 =>
some ((Quad.mk 4 0 0 0 y14.1), y14.2)) <|
sel (y1.1 == 8) ((spec_l93Reg (L6Rd.mk a0.b y1.2)).bind fun y15 =>
(spec_l6Rd_pick (L6Rd.mk a0.b y15.2) a1).bind fun y16 =>
some ((Quad.mk 5 0 y15.1 0 y16.1), y16.2)) <|
sel (y1.1 == 9) ((spec_l93Reg (L6Rd.mk a0.b y1.2)).bind fun y17 =>
(spec_l6Rd_pick (L6Rd.mk a0.b y17.2) 2).bind fun y18 =>
some ((Quad.mk 6 0 y17.1 0 y18.1), y18.2)) <|
sel (y1.1 == 10) ((spec_l93Reg (L6Rd.mk a0.b y1.2)).bind fun y19 =>
(spec_l6Rd_pick (L6Rd.mk a0.b y19.2) 2).bind fun y20 =>
some ((Quad.mk 7 y19.1 0 0 y20.1), y20.2)) <|
(spec_l6Rd_pick (L6Rd.mk a0.b y1.2) 4).bind fun y21 =>
sel (y21.1 == 0) (some ((Quad.mk 8 0 0 0 0), y21.2)) <|
(spec_l93Reg (L6Rd.mk a0.b y21.2)).bind fun y22 =>
some ((Quad.mk 9 0 y22.1 0 0), y22.2)
def spec_l93Random_b1 (a0 : L6Rd) (y1 : Int × Int) (s1 : (List Quad) × Int × Int) : Option (((List Quad) × Int × Int) ⊕ ((List Quad) × Int)) :=
sel (decide ((w64 (s1.2.1 + 1)) < (w64 (1 + y1.1)))) ((spec_l93Quad (L6Rd.mk a0.b s1.2.2) (w64 (1 + y1.1))).bind fun y5 =>
(app 40 s1.1 [y5.1]).bind fun r1 =>
some (.inl (r1, w64 (s1.2.1 + 1), y5.2))) <|
some (.inr (s1.1, s1.2.2))
noncomputable def spec_l93Random (a0 : L6Rd) : Option ((List Quad) × Int) :=
(spec_l6Rd_pick (L6Rd.mk a0.b a0.p) 14).bind fun y1 =>
(iter (spec_l93Random_b1 a0 y1) ([], 0, y1.2)).bind fun y2 =>
(spec_l6Rd_pick (L6Rd.mk a0.b y2.2) 3).bind fun y6 =>
sel (y6.1 == 0) ((spec_l6Rd_pick (L6Rd.mk a0.b y6.2) (w64 (1 + y1.1))).bind fun y7 =>
(app 40 y2.1 [(Quad.mk 4 0 0 0 y7.1)]).bind fun r2 =>
some (r2, y7.2)) <|
(app 40 y2.1 [(Quad.mk 10 0 0 0 0)]).bind fun r3 =>
some (r3, y6.2)
def spec_l11Count_b1 (a0 : List Stmt) (F_spec_l11Count : List Stmt → Option (Int)) (s1 : Int × Int) : Option ((Int × Int) ⊕ Int) :=
sel (decide (s1.2 < (a0.length : Int))) ((nth a0 s1.2).bind fun x1 =>
(nth a0 s1.2).bind fun x2 =>
(F_spec_l11Count x1.Body).bind fun y4 =>
(F_spec_l11Count x2.Else).bind fun y5 =>
some (.inl (w64 ((w64 ((w64 (s1.1 + 1)) + y4)) + y5), w64 (s1.2 + 1)))) <|
some (.inr s1.1)
noncomputable def spec_l11Count_R (k : Nat) (F_spec_l11Count : List Stmt → Option (Int)) (a0 : List Stmt) : Option (Int) :=
(iter (spec_l11Count_b1 a0 F_spec_l11Count) (0, 0)).bind fun y1 =>
some y1
noncomputable def scc_spec_l11Count : Nat → (List Stmt → Option (Int))
  | 0 => ((fun _ => none))
  | k + 1 => (spec_l11Count_R k (scc_spec_l11Count k))
noncomputable def spec_l11Count (k : Nat) : List Stmt → Option (Int) := (scc_spec_l11Count k)
def spec_l6In (a0 : Int) (a1 : Int) (a2 : Int) : Option (Bool) :=
some ((decide (a0 ≥ a1)) && (decide (a0 ≤ a2)))
def spec_l11Var (a0 : Stmt) (a1 : Bool) : Option (Bool) :=
sel a1 ((spec_l6In a0.Var 0 3).bind fun y1 =>
some y1) <|
some (a0.Var == 0)
def spec_l11Box (a0 : Stmt) (a1 : Bool) : Option (Bool) :=
sel a1 ((spec_l6In a0.Box 0 2).bind fun y1 =>
some y1) <|
some (a0.Box == 0)
def spec_OpValid (a0 : Int) : Option (Bool) :=
(spec_l6In a0 1 12).bind fun y1 =>
some y1
def spec_l4Ok_R (k : Nat) (F_spec_l4Ok : Expr → Int → Option (Bool)) (a0 : Expr) (a1 : Int) : Option (Bool) :=
sel (decide (a1 < 1)) (some false) <|
sel (a0.Op == 0) ((spec_l6In a0.N 0 99999).bind fun y1 =>
some (y1 && ((a0.Args.length : Int) == 0))) <|
sel (a0.Op == 13) ((spec_l6In a0.N 0 3).bind fun y2 =>
some (y2 && ((a0.Args.length : Int) == 0))) <|
(spec_OpValid a0.Op).bind fun y3 =>
(sel ((y3 && (a0.N == 0)) && ((a0.Args.length : Int) == 2)) ((nth a0.Args 0).bind fun x1 => (F_spec_l4Ok (Expr.mk x1.Op x1.N x1.Args) (w64 (a1 - 1))).bind fun y4 => some y4) (some false) : Option (Bool)).bind fun b1 =>
(sel b1 ((nth a0.Args 1).bind fun x2 => (F_spec_l4Ok (Expr.mk x2.Op x2.N x2.Args) (w64 (a1 - 1))).bind fun y5 => some y5) (some false) : Option (Bool)).bind fun b2 =>
some b2
noncomputable def scc_spec_l4Ok : Nat → (Expr → Int → Option (Bool))
  | 0 => ((fun _ _ => none))
  | k + 1 => (spec_l4Ok_R k (scc_spec_l4Ok k))
noncomputable def spec_l4Ok (k : Nat) : Expr → Int → Option (Bool) := (scc_spec_l4Ok k)
noncomputable def spec_ExprValid (k : Nat) (a0 : Expr) : Option (Bool) :=
(spec_l4Ok k (Expr.mk a0.Op a0.N a0.Args) 5).bind fun y1 =>
some y1
def spec_l11Plain (a0 : Expr) : Option (Bool) :=
some (((a0.Op == 0) && (a0.N == 0)) && ((a0.Args.length : Int) == 0))
noncomputable def spec_l11Simple (k : Nat) (a0 : Stmt) : Option (Bool) :=
sel ((decide ((a0.Body.length : Int) > 0)) || (decide ((a0.Else.length : Int) > 0))) (some false) <|
sel (a0.Kind == 1) ((spec_l11Var (Stmt.mk a0.Kind a0.Var a0.Box (Expr.mk a0.Expr.Op a0.Expr.N a0.Expr.Args) a0.Body a0.Else) true).bind fun y1 =>
(sel y1 ((spec_l11Box (Stmt.mk a0.Kind a0.Var a0.Box (Expr.mk a0.Expr.Op a0.Expr.N a0.Expr.Args) a0.Body a0.Else) false).bind fun y2 => some y2) (some false) : Option (Bool)).bind fun b1 =>
(sel b1 ((spec_ExprValid k (Expr.mk a0.Expr.Op a0.Expr.N a0.Expr.Args)).bind fun y3 => some y3) (some false) : Option (Bool)).bind fun b2 =>
some b2) <|
sel (a0.Kind == 4) ((spec_l11Var (Stmt.mk a0.Kind a0.Var a0.Box (Expr.mk a0.Expr.Op a0.Expr.N a0.Expr.Args) a0.Body a0.Else) false).bind fun y4 =>
(sel y4 ((spec_l11Box (Stmt.mk a0.Kind a0.Var a0.Box (Expr.mk a0.Expr.Op a0.Expr.N a0.Expr.Args) a0.Body a0.Else) true).bind fun y5 => some y5) (some false) : Option (Bool)).bind fun b3 =>
(sel b3 ((spec_ExprValid k (Expr.mk a0.Expr.Op a0.Expr.N a0.Expr.Args)).bind fun y6 => some y6) (some false) : Option (Bool)).bind fun b4 =>
some b4) <|
sel (a0.Kind == 5) ((spec_l11Var (Stmt.mk a0.Kind a0.Var a0.Box (Expr.mk a0.Expr.Op a0.Expr.N a0.Expr.Args) a0.Body a0.Else) true).bind fun y7 =>
(sel y7 ((spec_l11Box (Stmt.mk a0.Kind a0.Var a0.Box (Expr.mk a0.Expr.Op a0.Expr.N a0.Expr.Args) a0.Body a0.Else) true).bind fun y8 => some y8) (some false) : Option (Bool)).bind fun b5 =>
(sel b5 ((spec_l11Plain (Expr.mk a0.Expr.Op a0.Expr.N a0.Expr.Args)).bind fun y9 => some y9) (some false) : Option (Bool)).bind fun b6 =>
some b6) <|
sel (a0.Kind == 6) ((spec_l11Var (Stmt.mk a0.Kind a0.Var a0.Box (Expr.mk a0.Expr.Op a0.Expr.N a0.Expr.Args) a0.Body a0.Else) false).bind fun y10 =>
(sel y10 ((spec_l11Box (Stmt.mk a0.Kind a0.Var a0.Box (Expr.mk a0.Expr.Op a0.Expr.N a0.Expr.Args) a0.Body a0.Else) false).bind fun y11 => some y11) (some false) : Option (Bool)).bind fun b7 =>
(sel b7 ((spec_l11Plain (Expr.mk a0.Expr.Op a0.Expr.N a0.Expr.Args)).bind fun y12 => some y12) (some false) : Option (Bool)).bind fun b8 =>
some b8) <|
sel (a0.Kind == 7) ((spec_l11Var (Stmt.mk a0.Kind a0.Var a0.Box (Expr.mk a0.Expr.Op a0.Expr.N a0.Expr.Args) a0.Body a0.Else) false).bind fun y13 =>
(sel y13 ((spec_l11Box (Stmt.mk a0.Kind a0.Var a0.Box (Expr.mk a0.Expr.Op a0.Expr.N a0.Expr.Args) a0.Body a0.Else) false).bind fun y14 => some y14) (some false) : Option (Bool)).bind fun b9 =>
(sel b9 ((spec_ExprValid k (Expr.mk a0.Expr.Op a0.Expr.N a0.Expr.Args)).bind fun y15 => some y15) (some false) : Option (Bool)).bind fun b10 =>
some b10) <|
some false
def spec_l11Blocks_b1 (a0 : List Stmt) (a1 : Int) (F_spec_l11Ok : Stmt → Int → Option (Bool)) (s1 : Int) : Option (Int ⊕ (Bool ⊕ Unit)) :=
sel (decide (s1 < (a0.length : Int))) ((nth a0 s1).bind fun x1 =>
(F_spec_l11Ok (Stmt.mk x1.Kind x1.Var x1.Box (Expr.mk x1.Expr.Op x1.Expr.N x1.Expr.Args) x1.Body x1.Else) a1).bind fun y4 =>
sel (!y4) (some (.inr (.inl false))) <|
some (.inl (w64 (s1 + 1)))) <|
some (.inr (.inr ()))
noncomputable def spec_l11Blocks_R (k : Nat) (F_spec_l11Blocks : List Stmt → Int → Option (Bool)) (F_spec_l11Ok : Stmt → Int → Option (Bool)) (a0 : List Stmt) (a1 : Int) : Option (Bool) :=
(iter (spec_l11Blocks_b1 a0 a1 F_spec_l11Ok) 0).bind fun y1 =>
both y1 (fun o3 => some o3) (fun o4 =>
some true)
noncomputable def spec_l11Ok_R (k : Nat) (F_spec_l11Blocks : List Stmt → Int → Option (Bool)) (F_spec_l11Ok : Stmt → Int → Option (Bool)) (a0 : Stmt) (a1 : Int) : Option (Bool) :=
sel ((a0.Kind != 2) && (a0.Kind != 3)) ((spec_l11Simple k (Stmt.mk a0.Kind a0.Var a0.Box (Expr.mk a0.Expr.Op a0.Expr.N a0.Expr.Args) a0.Body a0.Else)).bind fun y1 =>
some y1) <|
sel ((decide (a1 < 1)) || ((a0.Kind == 3) && (decide ((a0.Else.length : Int) > 0)))) (some false) <|
(spec_l11Var (Stmt.mk a0.Kind a0.Var a0.Box (Expr.mk a0.Expr.Op a0.Expr.N a0.Expr.Args) a0.Body a0.Else) false).bind fun y2 =>
(sel y2 ((spec_l11Box (Stmt.mk a0.Kind a0.Var a0.Box (Expr.mk a0.Expr.Op a0.Expr.N a0.Expr.Args) a0.Body a0.Else) false).bind fun y3 => some y3) (some false) : Option (Bool)).bind fun b1 =>
(sel b1 ((spec_ExprValid k (Expr.mk a0.Expr.Op a0.Expr.N a0.Expr.Args)).bind fun y4 => some y4) (some false) : Option (Bool)).bind fun b2 =>
(sel b2 ((F_spec_l11Blocks a0.Body (w64 (a1 - 1))).bind fun y5 => some y5) (some false) : Option (Bool)).bind fun b3 =>
(sel b3 ((F_spec_l11Blocks a0.Else (w64 (a1 - 1))).bind fun y6 => some y6) (some false) : Option (Bool)).bind fun b4 =>
some b4
noncomputable def scc_spec_l11Blocks : Nat → (List Stmt → Int → Option (Bool)) × (Stmt → Int → Option (Bool))
  | 0 => ((fun _ _ => none), (fun _ _ => none))
  | k + 1 => (spec_l11Blocks_R k (scc_spec_l11Blocks k).1 (scc_spec_l11Blocks k).2, spec_l11Ok_R k (scc_spec_l11Blocks k).1 (scc_spec_l11Blocks k).2)
noncomputable def spec_l11Blocks (k : Nat) : List Stmt → Int → Option (Bool) := (scc_spec_l11Blocks k).1
noncomputable def spec_l11Ok (k : Nat) : Stmt → Int → Option (Bool) := (scc_spec_l11Blocks k).2
noncomputable def spec_StmtsValid (k : Nat) (a0 : List Stmt) : Option (Bool) :=
(spec_l11Blocks k a0 3).bind fun y1 =>
(sel y1 ((spec_l11Count k a0).bind fun y2 => some (decide (y2 ≤ 16))) (some false) : Option (Bool)).bind fun b1 =>
some b1
def spec_l22Expr_R (k : Nat) (F_spec_l22Expr : Expr → Int → Option ((List Quad))) (a0 : Expr) (a1 : Int) : Option ((List Quad)) :=
sel (a0.Op == 0) (some [(Quad.mk 1 a1 0 0 a0.N)]) <|
sel (a0.Op == 13) (some [(Quad.mk 2 a1 a0.N 0 0)]) <|
(nth a0.Args 0).bind fun x1 =>
(nth a0.Args 1).bind fun x2 =>
(F_spec_l22Expr (Expr.mk x1.Op x1.N x1.Args) a1).bind fun y1 =>
(F_spec_l22Expr (Expr.mk x2.Op x2.N x2.Args) (w64 (a1 + 1))).bind fun y2 =>
(app 40 y1 y2).bind fun r1 =>
(app 40 r1 [(Quad.mk 3 a1 a1 (w64 (a1 + 1)) a0.Op)]).bind fun r2 =>
some r2
noncomputable def scc_spec_l22Expr : Nat → (Expr → Int → Option ((List Quad)))
  | 0 => ((fun _ _ => none))
  | k + 1 => (spec_l22Expr_R k (scc_spec_l22Expr k))
noncomputable def spec_l22Expr (k : Nat) : Expr → Int → Option ((List Quad)) := (scc_spec_l22Expr k)
def spec_l22List_b1 (a0 : List Stmt) (a1 : Int) (F_spec_l22Stmt : Stmt → Int → Option ((List Quad))) (s1 : (List Quad) × Int) : Option (((List Quad) × Int) ⊕ ((List Quad))) :=
sel (decide (s1.2 < (a0.length : Int))) ((nth a0 s1.2).bind fun x1 =>
(F_spec_l22Stmt (Stmt.mk x1.Kind x1.Var x1.Box (Expr.mk x1.Expr.Op x1.Expr.N x1.Expr.Args) x1.Body x1.Else) (w64 (a1 + (s1.1.length : Int)))).bind fun y4 =>
(app 40 s1.1 y4).bind fun r1 =>
some (.inl (r1, w64 (s1.2 + 1)))) <|
some (.inr s1.1)
noncomputable def spec_l22List_R (k : Nat) (F_spec_l22List : List Stmt → Int → Option ((List Quad))) (F_spec_l22Stmt : Stmt → Int → Option ((List Quad))) (F_spec_l22If : Stmt → Int → Option ((List Quad))) (F_spec_l22While : Stmt → Int → Option ((List Quad))) (a0 : List Stmt) (a1 : Int) : Option ((List Quad)) :=
(iter (spec_l22List_b1 a0 a1 F_spec_l22Stmt) ([], 0)).bind fun y1 =>
some y1
noncomputable def spec_l22Stmt_R (k : Nat) (F_spec_l22List : List Stmt → Int → Option ((List Quad))) (F_spec_l22Stmt : Stmt → Int → Option ((List Quad))) (F_spec_l22If : Stmt → Int → Option ((List Quad))) (F_spec_l22While : Stmt → Int → Option ((List Quad))) (a0 : Stmt) (a1 : Int) : Option ((List Quad)) :=
(spec_l22Expr k (Expr.mk a0.Expr.Op a0.Expr.N a0.Expr.Args) 4).bind fun y1 =>
sel (a0.Kind == 2) ((F_spec_l22If (Stmt.mk a0.Kind a0.Var a0.Box (Expr.mk a0.Expr.Op a0.Expr.N a0.Expr.Args) a0.Body a0.Else) a1).bind fun y2 =>
some y2) <|
sel (a0.Kind == 3) ((F_spec_l22While (Stmt.mk a0.Kind a0.Var a0.Box (Expr.mk a0.Expr.Op a0.Expr.N a0.Expr.Args) a0.Body a0.Else) a1).bind fun y3 =>
some y3) <|
sel (a0.Kind == 1) ((app 40 y1 [(Quad.mk 2 a0.Var 4 0 0)]).bind fun r1 =>
some r1) <|
sel (a0.Kind == 4) ((app 40 y1 [(Quad.mk 6 0 4 0 a0.Box)]).bind fun r2 =>
some r2) <|
sel (a0.Kind == 7) ((app 40 y1 [(Quad.mk 9 0 4 0 0)]).bind fun r3 =>
some r3) <|
sel (a0.Kind == 5) (some [(Quad.mk 7 a0.Var 0 0 a0.Box)]) <|
some [(Quad.mk 8 0 0 0 0)]
noncomputable def spec_l22If_R (k : Nat) (F_spec_l22List : List Stmt → Int → Option ((List Quad))) (F_spec_l22Stmt : Stmt → Int → Option ((List Quad))) (F_spec_l22If : Stmt → Int → Option ((List Quad))) (F_spec_l22While : Stmt → Int → Option ((List Quad))) (a0 : Stmt) (a1 : Int) : Option ((List Quad)) :=
(spec_l22Expr k (Expr.mk a0.Expr.Op a0.Expr.N a0.Expr.Args) 4).bind fun y1 =>
(F_spec_l22List a0.Body (w64 ((w64 (a1 + (y1.length : Int))) + 1))).bind fun y2 =>
sel ((a0.Else.length : Int) == 0) ((app 40 y1 [(Quad.mk 5 0 4 0 (w64 ((w64 ((w64 (a1 + (y1.length : Int))) + 1)) + (y2.length : Int))))]).bind fun r1 =>
(app 40 r1 y2).bind fun r2 =>
some r2) <|
(F_spec_l22List a0.Else (w64 ((w64 ((w64 ((w64 (a1 + (y1.length : Int))) + 1)) + (y2.length : Int))) + 1))).bind fun y3 =>
(app 40 y1 [(Quad.mk 5 0 4 0 (w64 ((w64 ((w64 ((w64 (a1 + (y1.length : Int))) + 1)) + (y2.length : Int))) + 1)))]).bind fun r3 =>
(app 40 r3 y2).bind fun r4 =>
(app 40 r4 [(Quad.mk 4 0 0 0 (w64 ((w64 ((w64 ((w64 ((w64 (a1 + (y1.length : Int))) + 1)) + (y2.length : Int))) + 1)) + (y3.length : Int))))]).bind fun r5 =>
(app 40 r5 y3).bind fun r6 =>
some r6
noncomputable def spec_l22While_R (k : Nat) (F_spec_l22List : List Stmt → Int → Option ((List Quad))) (F_spec_l22Stmt : Stmt → Int → Option ((List Quad))) (F_spec_l22If : Stmt → Int → Option ((List Quad))) (F_spec_l22While : Stmt → Int → Option ((List Quad))) (a0 : Stmt) (a1 : Int) : Option ((List Quad)) :=
(spec_l22Expr k (Expr.mk a0.Expr.Op a0.Expr.N a0.Expr.Args) 4).bind fun y1 =>
(F_spec_l22List a0.Body (w64 ((w64 (a1 + (y1.length : Int))) + 1))).bind fun y2 =>
(app 40 y1 [(Quad.mk 5 0 4 0 (w64 ((w64 ((w64 ((w64 (a1 + (y1.length : Int))) + 1)) + (y2.length : Int))) + 1)))]).bind fun r1 =>
(app 40 r1 y2).bind fun r2 =>
(app 40 r2 [(Quad.mk 4 0 0 0 a1)]).bind fun r3 =>
some r3
noncomputable def scc_spec_l22List : Nat → (List Stmt → Int → Option ((List Quad))) × (Stmt → Int → Option ((List Quad))) × (Stmt → Int → Option ((List Quad))) × (Stmt → Int → Option ((List Quad)))
  | 0 => ((fun _ _ => none), (fun _ _ => none), (fun _ _ => none), (fun _ _ => none))
  | k + 1 => (spec_l22List_R k (scc_spec_l22List k).1 (scc_spec_l22List k).2.1 (scc_spec_l22List k).2.2.1 (scc_spec_l22List k).2.2.2, spec_l22Stmt_R k (scc_spec_l22List k).1 (scc_spec_l22List k).2.1 (scc_spec_l22List k).2.2.1 (scc_spec_l22List k).2.2.2, spec_l22If_R k (scc_spec_l22List k).1 (scc_spec_l22List k).2.1 (scc_spec_l22List k).2.2.1 (scc_spec_l22List k).2.2.2, spec_l22While_R k (scc_spec_l22List k).1 (scc_spec_l22List k).2.1 (scc_spec_l22List k).2.2.1 (scc_spec_l22List k).2.2.2)
noncomputable def spec_l22List (k : Nat) : List Stmt → Int → Option ((List Quad)) := (scc_spec_l22List k).1
noncomputable def spec_l22Stmt (k : Nat) : Stmt → Int → Option ((List Quad)) := (scc_spec_l22List k).2.1
noncomputable def spec_l22If (k : Nat) : Stmt → Int → Option ((List Quad)) := (scc_spec_l22List k).2.2.1
noncomputable def spec_l22While (k : Nat) : Stmt → Int → Option ((List Quad)) := (scc_spec_l22List k).2.2.2
noncomputable def spec_CompileTask (k : Nat) (a0 : List Stmt) : Option ((List Quad) × Bool) :=
(spec_StmtsValid k a0).bind fun y1 =>
sel (!y1) (some ([], false)) <|
(spec_l22List k a0 0).bind fun y2 =>
(app 40 y2 [(Quad.mk 10 0 0 0 0)]).bind fun r1 =>
some (r1, true)
def spec_l4Both (a0 : Int) (a1 : Expr) (a2 : Expr) : Option (Expr) :=
some (Expr.mk a0 0 [(Expr.mk a1.Op a1.N a1.Args), (Expr.mk a2.Op a2.N a2.Args)])
def spec_l4Leaf (a0 : Int) (a1 : Int) : Option (Expr) :=
some (Expr.mk a0 a1 [])
def spec_l91Leaf (a0 : L6Rd) : Option (Expr × Int) :=
(spec_l6Rd_pick (L6Rd.mk a0.b a0.p) 4).bind fun y1 =>
sel (y1.1 == 0) ((spec_l6Rd_pick (L6Rd.mk a0.b y1.2) 4).bind fun y2 =>
(spec_l4Leaf 0 y2.1).bind fun y3 =>
some ((Expr.mk y3.Op y3.N y3.Args), y2.2)) <|
sel (y1.1 == 1) ((spec_l6Rd_pick (L6Rd.mk a0.b y1.2) 8).bind fun y4 =>
(nth [5, 31, 32, 100, 2047, 2048, 65536, 99999] y4.1).bind fun x1 =>
(spec_l4Leaf 0 x1).bind fun y5 =>
some ((Expr.mk y5.Op y5.N y5.Args), y4.2)) <|
(spec_l6Rd_pick (L6Rd.mk a0.b y1.2) 4).bind fun y6 =>
(spec_l4Leaf 13 y6.1).bind fun y7 =>
some ((Expr.mk y7.Op y7.N y7.Args), y6.2)
def spec_l91Expr_R (k : Nat) (F_spec_l91Expr : L6Rd → Int → Option (Expr × Int)) (a0 : L6Rd) (a1 : Int) : Option (Expr × Int) :=
(sel (decide (a1 < 2)) (some (true, a0.p)) ((spec_l6Rd_pick (L6Rd.mk a0.b a0.p) 3).bind fun y1 => some (y1.1 == 0, y1.2)) : Option (Bool × Int)).bind fun b1 =>
sel b1.1 ((spec_l91Leaf (L6Rd.mk a0.b b1.2)).bind fun y2 =>
some ((Expr.mk y2.1.Op y2.1.N y2.1.Args), y2.2)) <|
(spec_l91Op (L6Rd.mk a0.b b1.2)).bind fun y3 =>
(F_spec_l91Expr (L6Rd.mk a0.b y3.2) (w64 (a1 - 1))).bind fun y4 =>
(F_spec_l91Expr (L6Rd.mk a0.b y4.2) (w64 (a1 - 1))).bind fun y5 =>
(spec_l4Both y3.1 (Expr.mk y4.1.Op y4.1.N y4.1.Args) (Expr.mk y5.1.Op y5.1.N y5.1.Args)).bind fun y6 =>
some ((Expr.mk y6.Op y6.N y6.Args), y5.2)
noncomputable def scc_spec_l91Expr : Nat → (L6Rd → Int → Option (Expr × Int))
  | 0 => ((fun _ _ => none))
  | k + 1 => (spec_l91Expr_R k (scc_spec_l91Expr k))
noncomputable def spec_l91Expr (k : Nat) : L6Rd → Int → Option (Expr × Int) := (scc_spec_l91Expr k)
noncomputable def spec_l92Set (k : Nat) (a0 : L6Rd) : Option (Stmt × Int) :=
(spec_l6Rd_pick (L6Rd.mk a0.b a0.p) 3).bind fun y1 =>
(spec_l6Rd_pick (L6Rd.mk a0.b y1.2) 3).bind fun y2 =>
(spec_l91Expr k (L6Rd.mk a0.b y2.2) (w64 (1 + y2.1))).bind fun y3 =>
some ((Stmt.mk 1 y1.1 0 (Expr.mk y3.1.Op y3.1.N y3.1.Args) [] []), y3.2)
noncomputable def spec_l92Talk (k : Nat) (a0 : L6Rd) (a1 : Int) : Option (Stmt × Int) :=
sel (decide (a1 < 1)) ((spec_l92Set k (L6Rd.mk a0.b a0.p)).bind fun y1 =>
some ((Stmt.mk y1.1.Kind y1.1.Var y1.1.Box (Expr.mk y1.1.Expr.Op y1.1.Expr.N y1.1.Expr.Args) y1.1.Body y1.1.Else), y1.2)) <|
(spec_l6Rd_pick (L6Rd.mk a0.b a0.p) a1).bind fun y2 =>
(spec_l6Rd_pick (L6Rd.mk a0.b y2.2) 2).bind fun y3 =>
sel (y3.1 == 0) ((spec_l6Rd_pick (L6Rd.mk a0.b y3.2) 3).bind fun y4 =>
(spec_l91Expr k (L6Rd.mk a0.b y4.2) (w64 (1 + y4.1))).bind fun y5 =>
some ((Stmt.mk 4 0 y2.1 (Expr.mk y5.1.Op y5.1.N y5.1.Args) [] []), y5.2)) <|
(spec_l6Rd_pick (L6Rd.mk a0.b y3.2) 3).bind fun y6 =>
some ((Stmt.mk 5 y6.1 y2.1 (Expr.mk 0 0 []) [] []), y6.2)
def spec_l92Block_b1 (a0 : L6Rd) (a1 : Int) (a2 : Int) (a3 : Int) (a4 : Bool) (F_spec_l92Stmt : L6Rd → Int → Int → Bool → Option ((List Stmt) × Int)) (s1 : (List Stmt) × Int × Int) : Option (((List Stmt) × Int × Int) ⊕ ((List Stmt) × Int)) :=
sel (decide (s1.2.1 < a3)) ((F_spec_l92Stmt (L6Rd.mk a0.b s1.2.2) a1 a2 a4).bind fun y4 =>
(app 112 s1.1 y4.1).bind fun r1 =>
some (.inl (r1, w64 (s1.2.1 + 1), y4.2))) <|
some (.inr (s1.1, s1.2.2))
noncomputable def spec_l92Block_R (k : Nat) (F_spec_l92Block : L6Rd → Int → Int → Int → Bool → Option ((List Stmt) × Int)) (F_spec_l92Stmt : L6Rd → Int → Int → Bool → Option ((List Stmt) × Int)) (F_spec_l92If : L6Rd → Int → Int → Bool → Option (Stmt × Int)) (F_spec_l92Loop : L6Rd → Int → Int → Option ((List Stmt) × Int)) (a0 : L6Rd) (a1 : Int) (a2 : Int) (a3 : Int) (a4 : Bool) : Option ((List Stmt) × Int) :=
(iter (spec_l92Block_b1 a0 a1 a2 a3 a4 F_spec_l92Stmt) ([], 0, a0.p)).bind fun y1 =>
some (y1.1, y1.2)
noncomputable def spec_l92Stmt_R (k : Nat) (F_spec_l92Block : L6Rd → Int → Int → Int → Bool → Option ((List Stmt) × Int)) (F_spec_l92Stmt : L6Rd → Int → Int → Bool → Option ((List Stmt) × Int)) (F_spec_l92If : L6Rd → Int → Int → Bool → Option (Stmt × Int)) (F_spec_l92Loop : L6Rd → Int → Int → Option ((List Stmt) × Int)) (a0 : L6Rd) (a1 : Int) (a2 : Int) (a3 : Bool) : Option ((List Stmt) × Int) :=
((spec_l6Rd_pick (L6Rd.mk a0.b a0.p) 10).bind fun y2 =>
(sel (y2.1 == 0) (some (y2.1 == 0)) <|
some (y2.1 == 1) : Option (Bool)).bind fun y3 =>
sel y3 ((spec_l92Set k (L6Rd.mk a0.b y2.2)).bind fun y4 =>
some (.inr ([(Stmt.mk y4.1.Kind y4.1.Var y4.1.Box (Expr.mk y4.1.Expr.Op y4.1.Expr.N y4.1.Expr.Args) y4.1.Body y4.1.Else)], y4.2))) <|
sel (y2.1 == 2) (sel (decide (a2 > 0)) ((F_spec_l92If (L6Rd.mk a0.b y2.2) a1 a2 a3).bind fun y5 =>
some (.inr ([(Stmt.mk y5.1.Kind y5.1.Var y5.1.Box (Expr.mk y5.1.Expr.Op y5.1.Expr.N y5.1.Expr.Args) y5.1.Body y5.1.Else)], y5.2))) <|
some (.inl y2.2)) <|
sel (y2.1 == 3) (sel ((decide (a2 > 0)) && a3) ((F_spec_l92Loop (L6Rd.mk a0.b y2.2) a1 a2).bind fun y6 =>
some (.inr (y6.1, y6.2))) <|
some (.inl y2.2)) <|
(sel (y2.1 == 4) (some (y2.1 == 4)) <|
sel (y2.1 == 5) (some (y2.1 == 5)) <|
some (y2.1 == 6) : Option (Bool)).bind fun y7 =>
sel y7 ((spec_l92Talk k (L6Rd.mk a0.b y2.2) a1).bind fun y8 =>
some (.inr ([(Stmt.mk y8.1.Kind y8.1.Var y8.1.Box (Expr.mk y8.1.Expr.Op y8.1.Expr.N y8.1.Expr.Args) y8.1.Body y8.1.Else)], y8.2))) <|
sel (y2.1 == 7) (some (.inr ([(Stmt.mk 6 0 0 (Expr.mk 0 0 []) [] [])], y2.2))) <|
some (.inl y2.2) : Option (Int ⊕ ((List Stmt) × Int))).bind fun y1 =>
both y1 (fun o3 => (spec_l6Rd_pick (L6Rd.mk a0.b o3) 3).bind fun y9 =>
(spec_l91Expr k (L6Rd.mk a0.b y9.2) (w64 (1 + y9.1))).bind fun y10 =>
some ([(Stmt.mk 7 0 0 (Expr.mk y10.1.Op y10.1.N y10.1.Args) [] [])], y10.2)) (fun o4 =>
some o4)
noncomputable def spec_l92If_R (k : Nat) (F_spec_l92Block : L6Rd → Int → Int → Int → Bool → Option ((List Stmt) × Int)) (F_spec_l92Stmt : L6Rd → Int → Int → Bool → Option ((List Stmt) × Int)) (F_spec_l92If : L6Rd → Int → Int → Bool → Option (Stmt × Int)) (F_spec_l92Loop : L6Rd → Int → Int → Option ((List Stmt) × Int)) (a0 : L6Rd) (a1 : Int) (a2 : Int) (a3 : Bool) : Option (Stmt × Int) :=
(spec_l6Rd_pick (L6Rd.mk a0.b a0.p) 2).bind fun y1 =>
(spec_l91Expr k (L6Rd.mk a0.b y1.2) (w64 (1 + y1.1))).bind fun y2 =>
(spec_l6Rd_pick (L6Rd.mk a0.b y2.2) 3).bind fun y3 =>
(F_spec_l92Block (L6Rd.mk a0.b y3.2) a1 (w64 (a2 - 1)) y3.1 a3).bind fun y4 =>
(spec_l6Rd_pick (L6Rd.mk a0.b y4.2) 3).bind fun y5 =>
(F_spec_l92Block (L6Rd.mk a0.b y5.2) a1 (w64 (a2 - 1)) y5.1 a3).bind fun y6 =>
some ((Stmt.mk 2 0 0 (Expr.mk y2.1.Op y2.1.N y2.1.Args) y4.1 y6.1), y6.2)
def spec_l92Loop_R (k : Nat) (F_spec_l92Block : L6Rd → Int → Int → Int → Bool → Option ((List Stmt) × Int)) (F_spec_l92Stmt : L6Rd → Int → Int → Bool → Option ((List Stmt) × Int)) (F_spec_l92If : L6Rd → Int → Int → Bool → Option (Stmt × Int)) (F_spec_l92Loop : L6Rd → Int → Int → Option ((List Stmt) × Int)) (a0 : L6Rd) (a1 : Int) (a2 : Int) : Option ((List Stmt) × Int) :=
(spec_l6Rd_pick (L6Rd.mk a0.b a0.p) 3).bind fun y1 =>
(F_spec_l92Block (L6Rd.mk a0.b y1.2) a1 (w64 (a2 - 1)) y1.1 false).bind fun y2 =>
(spec_l4Leaf 13 3).bind fun y3 =>
(spec_l4Leaf 0 1).bind fun y4 =>
(spec_l4Both 8 (Expr.mk y3.Op y3.N y3.Args) (Expr.mk y4.Op y4.N y4.Args)).bind fun y5 =>
(spec_l4Leaf 13 3).bind fun y6 =>
(spec_l6Rd_pick (L6Rd.mk a0.b y2.2) 3).bind fun y7 =>
(spec_l4Leaf 0 (w64 (1 + y7.1))).bind fun y8 =>
(spec_l4Both 5 (Expr.mk y6.Op y6.N y6.Args) (Expr.mk y8.Op y8.N y8.Args)).bind fun y9 =>
(app 112 y2.1 [(Stmt.mk 1 3 0 (Expr.mk y5.Op y5.N y5.Args) [] [])]).bind fun r1 =>
(spec_l4Leaf 0 0).bind fun y10 =>
some ([(Stmt.mk 1 3 0 (Expr.mk y10.Op y10.N y10.Args) [] []), (Stmt.mk 3 0 0 (Expr.mk y9.Op y9.N y9.Args) r1 [])], y7.2)
noncomputable def scc_spec_l92Block : Nat → (L6Rd → Int → Int → Int → Bool → Option ((List Stmt) × Int)) × (L6Rd → Int → Int → Bool → Option ((List Stmt) × Int)) × (L6Rd → Int → Int → Bool → Option (Stmt × Int)) × (L6Rd → Int → Int → Option ((List Stmt) × Int))
  | 0 => ((fun _ _ _ _ _ => none), (fun _ _ _ _ => none), (fun _ _ _ _ => none), (fun _ _ _ => none))
  | k + 1 => (spec_l92Block_R k (scc_spec_l92Block k).1 (scc_spec_l92Block k).2.1 (scc_spec_l92Block k).2.2.1 (scc_spec_l92Block k).2.2.2, spec_l92Stmt_R k (scc_spec_l92Block k).1 (scc_spec_l92Block k).2.1 (scc_spec_l92Block k).2.2.1 (scc_spec_l92Block k).2.2.2, spec_l92If_R k (scc_spec_l92Block k).1 (scc_spec_l92Block k).2.1 (scc_spec_l92Block k).2.2.1 (scc_spec_l92Block k).2.2.2, spec_l92Loop_R k (scc_spec_l92Block k).1 (scc_spec_l92Block k).2.1 (scc_spec_l92Block k).2.2.1 (scc_spec_l92Block k).2.2.2)
noncomputable def spec_l92Block (k : Nat) : L6Rd → Int → Int → Int → Bool → Option ((List Stmt) × Int) := (scc_spec_l92Block k).1
noncomputable def spec_l92Stmt (k : Nat) : L6Rd → Int → Int → Bool → Option ((List Stmt) × Int) := (scc_spec_l92Block k).2.1
noncomputable def spec_l92If (k : Nat) : L6Rd → Int → Int → Bool → Option (Stmt × Int) := (scc_spec_l92Block k).2.2.1
noncomputable def spec_l92Loop (k : Nat) : L6Rd → Int → Int → Option ((List Stmt) × Int) := (scc_spec_l92Block k).2.2.2
noncomputable def spec_l92Stmts_b1 (k : Nat) (s1 : (List Stmt)) : Option (((List Stmt)) ⊕ ((List Stmt))) :=
(spec_l11Count k s1).bind fun y6 =>
sel (decide (y6 > 16)) ((cut s1 0 (w64 ((s1.length : Int) - 1))).bind fun r1 =>
some (.inl r1)) <|
some (.inr s1)
noncomputable def spec_l92Stmts (k : Nat) (a0 : L6Rd) (a1 : Int) : Option ((List Stmt) × Int) :=
(spec_l6Rd_pick (L6Rd.mk a0.b a0.p) 6).bind fun y1 =>
(spec_l92Block k (L6Rd.mk a0.b y1.2) a1 3 (w64 (1 + y1.1)) true).bind fun y2 =>
(iter (spec_l92Stmts_b1 k) y2.1).bind fun y3 =>
some (y3, y2.2)
def spec_l21Reg (a0 : Int) (a1 : Bool) : Option (Bool) :=
sel a1 ((spec_l6In a0 0 11).bind fun y1 =>
some y1) <|
some (a0 == 0)
def spec_l21Regs (a0 : Quad) (a1 : Bool) (a2 : Bool) (a3 : Bool) : Option (Bool) :=
(spec_l21Reg a0.Dst a1).bind fun y1 =>
(sel y1 ((spec_l21Reg a0.A a2).bind fun y2 => some y2) (some false) : Option (Bool)).bind fun b1 =>
(sel b1 ((spec_l21Reg a0.B a3).bind fun y3 => some y3) (some false) : Option (Bool)).bind fun b2 =>
some b2
def spec_WordValid (a0 : Int) : Option (Bool) :=
(spec_l6In a0 (-2147483648) 2147483647).bind fun y1 =>
some y1
def spec_QuadValid (a0 : Quad) (a1 : Int) : Option (Bool) :=
sel (a0.Op == 1) ((spec_l21Regs a0 true false false).bind fun y1 =>
(sel y1 ((spec_WordValid a0.N).bind fun y2 => some y2) (some false) : Option (Bool)).bind fun b1 =>
some b1) <|
sel (a0.Op == 2) ((spec_l21Regs a0 true true false).bind fun y3 =>
some (y3 && (a0.N == 0))) <|
sel (a0.Op == 3) ((spec_l21Regs a0 true true true).bind fun y4 =>
(sel y4 ((spec_OpValid a0.N).bind fun y5 => some y5) (some false) : Option (Bool)).bind fun b2 =>
some b2) <|
sel (a0.Op == 4) ((spec_l21Regs a0 false false false).bind fun y6 =>
some ((y6 && (decide (a0.N ≥ 0))) && (decide (a0.N < a1)))) <|
sel (a0.Op == 5) ((spec_l21Regs a0 false true false).bind fun y7 =>
some ((y7 && (decide (a0.N ≥ 0))) && (decide (a0.N < a1)))) <|
sel (a0.Op == 6) ((spec_l21Regs a0 false true false).bind fun y8 =>
(sel y8 ((spec_l6In a0.N 0 2).bind fun y9 => some y9) (some false) : Option (Bool)).bind fun b3 =>
some b3) <|
sel (a0.Op == 7) ((spec_l21Regs a0 true false false).bind fun y10 =>
(sel y10 ((spec_l6In a0.N 0 2).bind fun y11 => some y11) (some false) : Option (Bool)).bind fun b4 =>
some b4) <|
sel (a0.Op == 9) ((spec_l21Regs a0 false true false).bind fun y12 =>
some (y12 && (a0.N == 0))) <|
(sel (a0.Op == 8) (some (a0.Op == 8)) <|
some (a0.Op == 10) : Option (Bool)).bind fun y13 =>
sel y13 ((spec_l21Regs a0 false false false).bind fun y14 =>
some (y14 && (a0.N == 0))) <|
some false
def spec_CodeValid_b1 (a0 : List Quad) (s1 : Int) : Option (Int ⊕ (Bool ⊕ Unit)) :=
sel (decide (s1 < (a0.length : Int))) ((nth a0 s1).bind fun x1 =>
(spec_QuadValid x1 (a0.length : Int)).bind fun y5 =>
sel (!y5) (some (.inr (.inl false))) <|
some (.inl (w64 (s1 + 1)))) <|
some (.inr (.inr ()))
noncomputable def spec_CodeValid (a0 : List Quad) : Option (Bool) :=
(spec_l6In (a0.length : Int) 1 600).bind fun y1 =>
sel (!y1) (some false) <|
(iter (spec_CodeValid_b1 a0) 0).bind fun y2 =>
both y2 (fun o3 => some o3) (fun o4 =>
(nth a0 (w64 ((a0.length : Int) - 1))).bind fun x2 =>
(sel (x2.Op == 10) (some true) ((nth a0 (w64 ((a0.length : Int) - 1))).bind fun x3 => some (x3.Op == 4)) : Option (Bool)).bind fun b1 =>
some b1)
def spec_l31Next (a0 : List Quad) (a1 : Int) : Option ((List Int)) :=
(nth a0 a1).bind fun x1 =>
sel (x1.Op == 10) (some []) <|
sel (x1.Op == 4) (some [x1.N]) <|
sel ((x1.Op == 5) && (decide (x1.N < (w64 (a1 + 1))))) (some [x1.N, w64 (a1 + 1)]) <|
sel ((x1.Op == 5) && (decide (x1.N > (w64 (a1 + 1))))) (some [w64 (a1 + 1), x1.N]) <|
some [w64 (a1 + 1)]
def spec_l33Edges (a0 : List Quad) (a1 : List Fact) (a2 : Int) : Option ((List Int)) :=
(nth a0 a2).bind fun x1 =>
(sel (x1.Op != 5) (some true) ((nth a1 x1.A).bind fun x2 => some (x2.Kind != 1)) : Option (Bool)).bind fun b1 =>
sel b1 ((spec_l31Next a0 a2).bind fun y1 =>
some y1) <|
(nth a1 x1.A).bind fun x3 =>
sel (x3.N == 0) (some [x1.N]) <|
some [w64 (a2 + 1)]
def spec_l2Flag (a0 : Bool) : Option (Int) :=
sel a0 (some 1) <|
some 0
def spec_l2Shift (a0 : Int) (a1 : Int) (a2 : Bool) : Option (Int) :=
sel a2 ((shO .shr .i64 a0 (bitsI .and .i64 a1 31)).bind fun d1 =>
some d1) <|
(shO .shl .i64 a0 (bitsI .and .i64 a1 31)).bind fun d2 =>
(spec_Wrap d2).bind fun y1 =>
some y1
def spec_l2Divide (a0 : Int) (a1 : Int) : Option (Int) :=
sel (a1 == 0) (some (-1)) <|
(quoO .i64 a0 a1).bind fun d1 =>
(spec_Wrap d1).bind fun y1 =>
some y1
def spec_l2Remain (a0 : Int) (a1 : Int) : Option (Int) :=
sel (a1 == 0) (some a0) <|
(remO a0 a1).bind fun d1 =>
some d1
def spec_Apply (a0 : Int) (a1 : Int) (a2 : Int) : Option (Int × Bool) :=
(spec_OpValid a0).bind fun y1 =>
(sel (!y1) (some true) ((spec_WordValid a1).bind fun y2 => some (!y2)) : Option (Bool)).bind fun b1 =>
(sel b1 (some true) ((spec_WordValid a2).bind fun y3 => some (!y3)) : Option (Bool)).bind fun b2 =>
sel b2 (some (0, false)) <|
sel (a0 == 1) (some (bitsI .or .i64 a1 a2, true)) <|
sel (a0 == 2) (some (bitsI .xor .i64 a1 a2, true)) <|
sel (a0 == 3) (some (bitsI .and .i64 a1 a2, true)) <|
sel (a0 == 4) ((spec_l2Flag (a1 == a2)).bind fun y4 =>
some (y4, true)) <|
sel (a0 == 5) ((spec_l2Flag (decide (a1 < a2))).bind fun y5 =>
some (y5, true)) <|
sel (a0 == 6) ((spec_l2Shift a1 a2 false).bind fun y6 =>
some (y6, true)) <|
sel (a0 == 7) ((spec_l2Shift a1 a2 true).bind fun y7 =>
some (y7, true)) <|
sel (a0 == 8) ((spec_Wrap (w64 (a1 + a2))).bind fun y8 =>
some (y8, true)) <|
sel (a0 == 9) ((spec_Wrap (w64 (a1 - a2))).bind fun y9 =>
some (y9, true)) <|
sel (a0 == 10) ((spec_Wrap (w64 (a1 * a2))).bind fun y10 =>
some (y10, true)) <|
sel (a0 == 11) ((spec_l2Divide a1 a2).bind fun y11 =>
some (y11, true)) <|
(spec_l2Remain a1 a2).bind fun y12 =>
some (y12, true)
def spec_l33Result (a0 : Quad) (a1 : Fact) (a2 : Fact) : Option (Fact) :=
sel ((a1.Kind != 1) || (a2.Kind != 1)) (some (Fact.mk 2 0)) <|
(spec_Apply a0.N a1.N a2.N).bind fun y1 =>
some (Fact.mk 1 y1.1)
def spec_l33After (a0 : Quad) (a1 : List Fact) : Option ((List Fact)) :=
(app 16 [] a1).bind fun r1 =>
sel (a0.Op == 1) ((nth r1 a0.Dst).bind fun x1 =>
(upd r1 a0.Dst (Fact.mk 1 a0.N)).bind fun r2 =>
some r2) <|
sel (a0.Op == 2) ((nth a1 a0.A).bind fun x2 =>
(nth r1 a0.Dst).bind fun x3 =>
(upd r1 a0.Dst x2).bind fun r3 =>
some r3) <|
sel (a0.Op == 7) ((nth r1 a0.Dst).bind fun x4 =>
(upd r1 a0.Dst (Fact.mk 2 0)).bind fun r4 =>
some r4) <|
sel (a0.Op == 3) ((nth a1 a0.A).bind fun x5 =>
(nth a1 a0.B).bind fun x6 =>
(spec_l33Result a0 x5 x6).bind fun y1 =>
(nth r1 a0.Dst).bind fun x7 =>
(upd r1 a0.Dst y1).bind fun r5 =>
some r5) <|
some r1
def spec_l33Join (a0 : Fact) (a1 : Fact) : Option (Fact) :=
sel (a0.Kind == 0) (some a1) <|
sel ((a1.Kind == 0) || ((a0.Kind == a1.Kind) && ((a0.N == a1.N) && true))) (some a0) <|
some (Fact.mk 2 0)
def spec_l33Carry_b1 (a1 : Int) (a2 : List Fact) (s1 : Bool × Int × (List (List Fact))) : Option ((Bool × Int × (List (List Fact))) ⊕ (Bool × (List (List Fact)))) :=
sel (decide (s1.2.1 < 12)) (((nth s1.2.2 a1).bind fun x1 =>
(nth x1 s1.2.1).bind fun x4 =>
(nth a2 s1.2.1).bind fun x5 =>
(spec_l33Join x4 x5).bind fun y6 =>
(nth s1.2.2 a1).bind fun x6 =>
(nth x6 s1.2.1).bind fun x8 =>
sel (!((y6.Kind == x8.Kind) && ((y6.N == x8.N) && true))) ((nth x6 s1.2.1).bind fun x9 =>
(upd x6 s1.2.1 y6).bind fun r1 =>
some (true, (s1.2.2.set (Int.toNat a1) r1))) <|
some (s1.1, s1.2.2) : Option (Bool × (List (List Fact)))).bind fun y4 =>
some (.inl (y4.1, w64 (s1.2.1 + 1), y4.2))) <|
some (.inr (s1.1, s1.2.2))
noncomputable def spec_l33Carry (a0 : List (List Fact)) (a1 : Int) (a2 : List Fact) : Option (Bool × (List (List Fact))) :=
(iter (spec_l33Carry_b1 a1 a2) (false, 0, a0)).bind fun y1 =>
some (y1.1, y1.2)
noncomputable def spec_l33Round_b7 (y5 : (List Int)) (y6 : (List Fact)) (s2 : Bool × Int × (List (List Fact))) : Option ((Bool × Int × (List (List Fact))) ⊕ (Bool × (List (List Fact)))) :=
sel (decide (s2.2.1 < (y5.length : Int))) (((nth y5 s2.2.1).bind fun x4 =>
(spec_l33Carry s2.2.2 x4 y6).bind fun y11 =>
sel y11.1 (some (true, y11.2)) <|
some (s2.1, y11.2) : Option (Bool × (List (List Fact)))).bind fun y10 =>
some (.inl (y10.1, w64 (s2.2.1 + 1), y10.2))) <|
some (.inr (s2.1, s2.2.2))
noncomputable def spec_l33Round_b5 (a0 : List Quad) (s1 : Bool × Int × (List (List Fact))) : Option ((Bool × Int × (List (List Fact))) ⊕ (Bool × (List (List Fact)))) :=
sel (decide (s1.2.1 < (a0.length : Int))) (((nth s1.2.2 s1.2.1).bind fun x1 =>
(nth x1 0).bind fun x2 =>
sel (x2.Kind == 0) (some (s1.1, s1.2.2)) <|
(spec_l33Edges a0 x1 s1.2.1).bind fun y5 =>
(nth a0 s1.2.1).bind fun x3 =>
(spec_l33After x3 x1).bind fun y6 =>
(iter (spec_l33Round_b7 y5 y6) (s1.1, 0, s1.2.2)).bind fun y7 =>
some (y7.1, y7.2) : Option (Bool × (List (List Fact)))).bind fun y4 =>
some (.inl (y4.1, w64 (s1.2.1 + 1), y4.2))) <|
some (.inr (s1.1, s1.2.2))
noncomputable def spec_l33Round (a0 : List Quad) (a1 : List (List Fact)) : Option (Bool × (List (List Fact))) :=
(iter (spec_l33Round_b5 a0) (false, 0, a1)).bind fun y1 =>
some (y1.1, y1.2)
def spec_FactsOf_b1 (a0 : List Quad) (s1 : (List (List Fact)) × Int) : Option (((List (List Fact)) × Int) ⊕ ((List (List Fact)))) :=
sel (decide (s1.2 < (a0.length : Int))) ((mk 16 12 (Fact.mk 0 0)).bind fun r1 =>
(app 24 s1.1 [r1]).bind fun r2 =>
some (.inl (r2, w64 (s1.2 + 1)))) <|
some (.inr s1.1)
def spec_FactsOf_b2 (s2 : Int × (List (List Fact))) : Option ((Int × (List (List Fact))) ⊕ ((List (List Fact)))) :=
sel (decide (s2.1 < 12)) ((nth s2.2 0).bind fun x1 =>
(nth x1 s2.1).bind fun x2 =>
(upd x1 s2.1 (Fact.mk 1 0)).bind fun r3 =>
some (.inl (w64 (s2.1 + 1), (s2.2.set (Int.toNat 0) r3)))) <|
some (.inr s2.2)
noncomputable def spec_FactsOf_b3 (a0 : List Quad) (s3 : (List (List Fact))) : Option (((List (List Fact))) ⊕ ((List (List Fact)))) :=
(spec_l33Round a0 s3).bind fun y11 =>
sel y11.1 (some (.inl y11.2)) <|
some (.inr y11.2)
noncomputable def spec_FactsOf (a0 : List Quad) : Option ((List (List Fact))) :=
(spec_CodeValid a0).bind fun y1 =>
sel (!y1) (some []) <|
(iter (spec_FactsOf_b1 a0) ([], 0)).bind fun y2 =>
(iter (spec_FactsOf_b2) (0, y2)).bind fun y5 =>
(iter (spec_FactsOf_b3 a0) y5).bind fun y8 =>
some y8
def spec_l33Is (a0 : Fact) (a1 : Int) : Option (Bool) :=
some ((a0.Kind == 1) && (a0.N == a1))
def spec_l31Has_b1 (a0 : List Int) (a1 : Int) (s1 : Int) : Option (Int ⊕ (Bool ⊕ Unit)) :=
sel (decide (s1 < (a0.length : Int))) ((nth a0 s1).bind fun x1 =>
sel (x1 == a1) (some (.inr (.inl true))) <|
some (.inl (w64 (s1 + 1)))) <|
some (.inr (.inr ()))
noncomputable def spec_l31Has (a0 : List Int) (a1 : Int) : Option (Bool) :=
(iter (spec_l31Has_b1 a0 a1) 0).bind fun y1 =>
both y1 (fun o3 => some o3) (fun o4 =>
some false)
noncomputable def spec_l33Any (a0 : Int) (a1 : List Int) : Option (Bool) :=
(spec_l31Has a1 a0).bind fun y1 =>
some y1
noncomputable def spec_l33Bin (a0 : Quad) (a1 : Fact) (a2 : Fact) : Option (Quad) :=
(spec_l33Result a0 a1 a2).bind fun y1 =>
sel (y1.Kind == 1) (some (Quad.mk 1 a0.Dst 0 0 y1.N)) <|
(spec_l33Is a2 0).bind fun y2 =>
(sel y2 ((spec_l33Any a0.N [1, 2, 6, 7, 8, 9]).bind fun y3 => some y3) (some false) : Option (Bool)).bind fun b1 =>
sel b1 (some (Quad.mk 2 a0.Dst a0.A 0 0)) <|
(spec_l33Is a2 1).bind fun y4 =>
(sel y4 ((spec_l33Any a0.N [10, 11]).bind fun y5 => some y5) (some false) : Option (Bool)).bind fun b2 =>
sel b2 (some (Quad.mk 2 a0.Dst a0.A 0 0)) <|
(spec_l33Is a1 0).bind fun y6 =>
(sel y6 ((spec_l33Any a0.N [1, 2, 8]).bind fun y7 => some y7) (some false) : Option (Bool)).bind fun b3 =>
sel b3 (some (Quad.mk 2 a0.Dst a0.B 0 0)) <|
(spec_l33Is a1 1).bind fun y8 =>
sel (y8 && (a0.N == 10)) (some (Quad.mk 2 a0.Dst a0.B 0 0)) <|
(spec_l33Is a1 0).bind fun y9 =>
(sel y9 (some true) ((spec_l33Is a2 0).bind fun y10 => some y10) : Option (Bool)).bind fun b4 =>
(sel b4 ((spec_l33Any a0.N [3, 10]).bind fun y11 => some y11) (some false) : Option (Bool)).bind fun b5 =>
sel b5 (some (Quad.mk 1 a0.Dst 0 0 0)) <|
some a0
noncomputable def spec_l33Fold (a0 : Quad) (a1 : List Fact) (a2 : Int) : Option (Quad) :=
(nth a1 0).bind fun x1 =>
sel (x1.Kind == 0) (some a0) <|
sel (a0.Op == 2) ((nth a1 a0.A).bind fun x2 =>
sel (x2.Kind == 1) ((nth a1 a0.A).bind fun x3 =>
some (Quad.mk 1 a0.Dst 0 0 x3.N)) <|
some a0) <|
sel (a0.Op == 3) ((nth a1 a0.A).bind fun x4 =>
(nth a1 a0.B).bind fun x5 =>
(spec_l33Bin a0 x4 x5).bind fun y1 =>
some y1) <|
sel (a0.Op == 5) ((nth a1 a0.A).bind fun x6 =>
(spec_l33Is x6 0).bind fun y2 =>
sel y2 (some (Quad.mk 4 0 0 0 a0.N)) <|
(nth a1 a0.A).bind fun x7 =>
sel (x7.Kind == 1) (some (Quad.mk 4 0 0 0 (w64 (a2 + 1)))) <|
some a0) <|
some a0
noncomputable def spec_FoldCode_b1 (a0 : List Quad) (y2 : (List (List Fact))) (s1 : (List Quad) × Int) : Option (((List Quad) × Int) ⊕ ((List Quad))) :=
sel (decide (s1.2 < (a0.length : Int))) ((nth y2 s1.2).bind fun x1 =>
(nth a0 s1.2).bind fun x3 =>
(spec_l33Fold x3 x1 s1.2).bind fun y7 =>
(app 40 s1.1 [y7]).bind fun r2 =>
some (.inl (r2, w64 (s1.2 + 1)))) <|
some (.inr s1.1)
noncomputable def spec_FoldCode (a0 : List Quad) : Option ((List Quad) × Bool) :=
(spec_CodeValid a0).bind fun y1 =>
sel (!y1) (some ([], false)) <|
(spec_FactsOf a0).bind fun y2 =>
(iter (spec_FoldCode_b1 a0 y2) ([], 0)).bind fun y3 =>
some (y3, true)
def spec_l34Self_b1 (s1 : (List Int) × Int) : Option (((List Int) × Int) ⊕ ((List Int))) :=
sel (decide (s1.2 < 12)) ((app 8 s1.1 [s1.2]).bind fun r1 =>
some (.inl (r1, w64 (s1.2 + 1)))) <|
some (.inr s1.1)
noncomputable def spec_l34Self : Option ((List Int)) :=
(iter (spec_l34Self_b1) ([], 0)).bind fun y1 =>
some y1
def spec_QuadSets (a0 : Quad) : Option (Int) :=
(spec_QuadValid a0 600).bind fun y1 =>
sel (!y1) (some (-1)) <|
(sel (a0.Op == 1) (some (a0.Op == 1)) <|
sel (a0.Op == 2) (some (a0.Op == 2)) <|
sel (a0.Op == 3) (some (a0.Op == 3)) <|
some (a0.Op == 7) : Option (Bool)).bind fun y2 =>
sel y2 (some a0.Dst) <|
some (-1)
def spec_l34After_b1 (y1 : Int) (s1 : Int × (List Int)) : Option ((Int × (List Int)) ⊕ ((List Int))) :=
sel (decide (s1.1 < 12)) (((nth s1.2 s1.1).bind fun x1 =>
sel (x1 == y1) ((nth s1.2 s1.1).bind fun x2 =>
(upd s1.2 s1.1 s1.1).bind fun r2 =>
some r2) <|
some s1.2 : Option ((List Int))).bind fun y5 =>
some (.inl (w64 (s1.1 + 1), y5))) <|
some (.inr s1.2)
noncomputable def spec_l34After (a0 : Quad) (a1 : List Int) : Option ((List Int)) :=
(app 8 [] a1).bind fun r1 =>
(spec_QuadSets a0).bind fun y1 =>
sel (decide (y1 < 0)) (some r1) <|
(iter (spec_l34After_b1 y1) (0, r1)).bind fun y2 =>
(nth y2 y1).bind fun x3 =>
(upd y2 y1 y1).bind fun r3 =>
sel (a0.Op == 2) ((nth r3 y1).bind fun x4 =>
(upd r3 y1 a0.A).bind fun r4 =>
some r4) <|
some r3
def spec_l34Carry_b1 (a1 : Int) (a2 : List Int) (s1 : Bool × Int × (List (List Int))) : Option ((Bool × Int × (List (List Int))) ⊕ (Bool × (List (List Int)))) :=
sel (decide (s1.2.1 < 12)) (((nth s1.2.2 a1).bind fun x2 =>
(nth x2 s1.2.1).bind fun x6 =>
(sel (x6 != s1.2.1) ((nth x2 s1.2.1).bind fun x7 => (nth a2 s1.2.1).bind fun x8 => some (x7 != x8)) (some false)).bind fun b2 =>
sel b2 ((nth s1.2.2 a1).bind fun x9 =>
(nth x9 s1.2.1).bind fun x10 =>
(upd x9 s1.2.1 s1.2.1).bind fun r2 =>
some (true, (s1.2.2.set (Int.toNat a1) r2))) <|
some (s1.1, s1.2.2) : Option (Bool × (List (List Int)))).bind fun y4 =>
some (.inl (y4.1, w64 (s1.2.1 + 1), y4.2))) <|
some (.inr (s1.1, s1.2.2))
noncomputable def spec_l34Carry (a0 : List (List Int)) (a1 : Int) (a2 : List Int) : Option (Bool × (List (List Int))) :=
(nth a0 a1).bind fun x1 =>
sel ((x1.length : Int) == 0) ((app 8 [] a2).bind fun r1 =>
some (true, (a0.set (Int.toNat a1) r1))) <|
(iter (spec_l34Carry_b1 a1 a2) (false, 0, a0)).bind fun y1 =>
some (y1.1, y1.2)
noncomputable def spec_l34Round_b7 (y5 : (List Int)) (y6 : (List Int)) (s2 : Bool × Int × (List (List Int))) : Option ((Bool × Int × (List (List Int))) ⊕ (Bool × (List (List Int)))) :=
sel (decide (s2.2.1 < (y5.length : Int))) (((nth y5 s2.2.1).bind fun x3 =>
(spec_l34Carry s2.2.2 x3 y6).bind fun y11 =>
sel y11.1 (some (true, y11.2)) <|
some (s2.1, y11.2) : Option (Bool × (List (List Int)))).bind fun y10 =>
some (.inl (y10.1, w64 (s2.2.1 + 1), y10.2))) <|
some (.inr (s2.1, s2.2.2))
noncomputable def spec_l34Round_b5 (a0 : List Quad) (s1 : Bool × Int × (List (List Int))) : Option ((Bool × Int × (List (List Int))) ⊕ (Bool × (List (List Int)))) :=
sel (decide (s1.2.1 < (a0.length : Int))) (((nth s1.2.2 s1.2.1).bind fun x1 =>
sel ((x1.length : Int) == 0) (some (s1.1, s1.2.2)) <|
(spec_l31Next a0 s1.2.1).bind fun y5 =>
(nth a0 s1.2.1).bind fun x2 =>
(spec_l34After x2 x1).bind fun y6 =>
(iter (spec_l34Round_b7 y5 y6) (s1.1, 0, s1.2.2)).bind fun y7 =>
some (y7.1, y7.2) : Option (Bool × (List (List Int)))).bind fun y4 =>
some (.inl (y4.1, w64 (s1.2.1 + 1), y4.2))) <|
some (.inr (s1.1, s1.2.2))
noncomputable def spec_l34Round (a0 : List Quad) (a1 : List (List Int)) : Option (Bool × (List (List Int))) :=
(iter (spec_l34Round_b5 a0) (false, 0, a1)).bind fun y1 =>
some (y1.1, y1.2)
def spec_CopiesOf_b1 (a0 : List Quad) (s1 : (List (List Int)) × Int) : Option (((List (List Int)) × Int) ⊕ ((List (List Int)))) :=
sel (decide (s1.2 < (a0.length : Int))) ((app 24 s1.1 [[]]).bind fun r1 =>
some (.inl (r1, w64 (s1.2 + 1)))) <|
some (.inr s1.1)
noncomputable def spec_CopiesOf_b2 (a0 : List Quad) (s2 : (List (List Int))) : Option (((List (List Int))) ⊕ ((List (List Int)))) :=
(spec_l34Round a0 s2).bind fun y9 =>
sel y9.1 (some (.inl y9.2)) <|
some (.inr y9.2)
noncomputable def spec_CopiesOf_b3 (a0 : List Quad) (s3 : Int × (List (List Int))) : Option ((Int × (List (List Int))) ⊕ ((List (List Int)))) :=
sel (decide (s3.1 < (a0.length : Int))) (((nth s3.2 s3.1).bind fun x2 =>
sel ((x2.length : Int) == 0) ((spec_l34Self).bind fun y14 =>
some (s3.2.set (Int.toNat s3.1) y14)) <|
some s3.2 : Option ((List (List Int)))).bind fun y13 =>
some (.inl (w64 (s3.1 + 1), y13))) <|
some (.inr s3.2)
noncomputable def spec_CopiesOf (a0 : List Quad) : Option ((List (List Int))) :=
(spec_CodeValid a0).bind fun y1 =>
sel (!y1) (some []) <|
(iter (spec_CopiesOf_b1 a0) ([], 0)).bind fun y2 =>
(spec_l34Self).bind fun y5 =>
(nth y2 0).bind fun x1 =>
(iter (spec_CopiesOf_b2 a0) (y2.set (Int.toNat 0) y5)).bind fun y6 =>
(iter (spec_CopiesOf_b3 a0) (0, y6)).bind fun y10 =>
some y10
def spec_l34Read (a0 : Quad) (a1 : List Int) : Option (Quad) :=
(sel (a0.Op == 2) (some (a0.Op == 2)) <|
sel (a0.Op == 5) (some (a0.Op == 5)) <|
sel (a0.Op == 6) (some (a0.Op == 6)) <|
some (a0.Op == 9) : Option (Bool)).bind fun y1 =>
sel y1 ((nth a1 a0.A).bind fun x1 =>
some (Quad.mk a0.Op a0.Dst x1 a0.B a0.N)) <|
sel (a0.Op == 3) ((nth a1 a0.A).bind fun x2 =>
(nth a1 a0.B).bind fun x3 =>
some (Quad.mk a0.Op a0.Dst x2 x3 a0.N)) <|
some a0
def spec_CopyCode_b1 (a0 : List Quad) (y2 : (List (List Int))) (s1 : (List Quad) × Int) : Option (((List Quad) × Int) ⊕ ((List Quad))) :=
sel (decide (s1.2 < (a0.length : Int))) ((nth y2 s1.2).bind fun x1 =>
(nth a0 s1.2).bind fun x3 =>
(spec_l34Read x3 x1).bind fun y7 =>
(app 40 s1.1 [y7]).bind fun r2 =>
some (.inl (r2, w64 (s1.2 + 1)))) <|
some (.inr s1.1)
noncomputable def spec_CopyCode (a0 : List Quad) : Option ((List Quad) × Bool) :=
(spec_CodeValid a0).bind fun y1 =>
sel (!y1) (some ([], false)) <|
(spec_CopiesOf a0).bind fun y2 =>
(iter (spec_CopyCode_b1 a0 y2) ([], 0)).bind fun y3 =>
some (y3, true)
def spec_l36Target_b1 (a0 : List Quad) (s1 : Int × Int) : Option ((Int × Int) ⊕ (Int ⊕ Unit)) :=
sel (decide (s1.2 < (a0.length : Int))) ((nth a0 s1.1).bind fun x1 =>
sel (x1.Op != 4) (some (.inr (.inl s1.1))) <|
(nth a0 s1.1).bind fun x2 =>
some (.inl (x2.N, w64 (s1.2 + 1)))) <|
some (.inr (.inr ()))
noncomputable def spec_l36Target (a0 : List Quad) (a1 : Int) : Option (Int) :=
(iter (spec_l36Target_b1 a0) (a1, 0)).bind fun y1 =>
both y1 (fun o3 => some o3) (fun o4 =>
some a1)
noncomputable def spec_JumpCode_b1 (a0 : List Quad) (s1 : (List Quad) × Int) : Option (((List Quad) × Int) ⊕ ((List Quad))) :=
sel (decide (s1.2 < (a0.length : Int))) ((nth a0 s1.2).bind fun x1 =>
(sel ((x1.Op == 4) || (x1.Op == 5)) ((spec_l36Target a0 x1.N).bind fun y6 =>
some (Quad.mk x1.Op x1.Dst x1.A x1.B y6)) <|
some x1 : Option (Quad)).bind fun y5 =>
(app 40 s1.1 [y5]).bind fun r1 =>
some (.inl (r1, w64 (s1.2 + 1)))) <|
some (.inr s1.1)
noncomputable def spec_JumpCode (a0 : List Quad) : Option ((List Quad) × Bool) :=
(spec_CodeValid a0).bind fun y1 =>
sel (!y1) (some ([], false)) <|
(iter (spec_JumpCode_b1 a0) ([], 0)).bind fun y2 =>
some (y2, true)
def spec_l32After_b4 (a1 : List (List Bool)) (y1 : (List Int)) (s1 : Int × (List Bool)) (s2 : Int × (List Bool)) : Option ((Int × (List Bool)) ⊕ ((List Bool))) :=
sel (decide (s2.1 < 12)) ((nth s2.2 s2.1).bind fun x1 =>
(sel x1 (some true) ((nth y1 s1.1).bind fun x2 => (nth a1 x2).bind fun x3 => (nth x3 s2.1).bind fun x4 => some x4) : Option (Bool)).bind fun b1 =>
(nth s2.2 s2.1).bind fun x5 =>
(upd s2.2 s2.1 b1).bind fun r2 =>
some (.inl (w64 (s2.1 + 1), r2))) <|
some (.inr s2.2)
noncomputable def spec_l32After_b3 (a1 : List (List Bool)) (y1 : (List Int)) (s1 : Int × (List Bool)) : Option ((Int × (List Bool)) ⊕ ((List Bool))) :=
sel (decide (s1.1 < (y1.length : Int))) ((iter (spec_l32After_b4 a1 y1 s1) (0, s1.2)).bind fun y5 =>
some (.inl (w64 (s1.1 + 1), y5))) <|
some (.inr s1.2)
noncomputable def spec_l32After (a0 : List Quad) (a1 : List (List Bool)) (a2 : Int) : Option ((List Bool)) :=
(mk 1 12 false).bind fun r1 =>
(spec_l31Next a0 a2).bind fun y1 =>
(iter (spec_l32After_b3 a1 y1) (0, r1)).bind fun y2 =>
some y2
def spec_QuadUses (a0 : Quad) : Option ((List Int)) :=
(spec_QuadValid a0 600).bind fun y1 =>
sel (!y1) (some []) <|
(sel (a0.Op == 2) (some (a0.Op == 2)) <|
sel (a0.Op == 5) (some (a0.Op == 5)) <|
sel (a0.Op == 6) (some (a0.Op == 6)) <|
some (a0.Op == 9) : Option (Bool)).bind fun y2 =>
sel y2 (some [a0.A]) <|
sel (a0.Op == 3) (sel (a0.A == a0.B) (some [a0.A]) <|
some [min a0.A a0.B, max a0.A a0.B]) <|
some []
def spec_l32Before_b1 (y4 : (List Int)) (s1 : Int × (List Bool)) : Option ((Int × (List Bool)) ⊕ ((List Bool))) :=
sel (decide (s1.1 < (y4.length : Int))) ((nth y4 s1.1).bind fun x2 =>
(nth s1.2 x2).bind fun x3 =>
(upd s1.2 x2 true).bind fun r3 =>
some (.inl (w64 (s1.1 + 1), r3))) <|
some (.inr s1.2)
noncomputable def spec_l32Before (a0 : Quad) (a1 : List Bool) : Option ((List Bool)) :=
(app 1 [] a1).bind fun r1 =>
((spec_QuadSets a0).bind fun y2 =>
sel (decide (y2 ≥ 0)) ((spec_QuadSets a0).bind fun y3 =>
(nth r1 y3).bind fun x1 =>
(upd r1 y3 false).bind fun r2 =>
some r2) <|
some r1 : Option ((List Bool))).bind fun y1 =>
(spec_QuadUses a0).bind fun y4 =>
(iter (spec_l32Before_b1 y4) (0, y1)).bind fun y5 =>
some y5
def spec_l32Same_b1 (a0 : List Bool) (a1 : List Bool) (s1 : Int) : Option (Int ⊕ (Bool ⊕ Unit)) :=
sel (decide (s1 < (a0.length : Int))) ((nth a0 s1).bind fun x1 =>
(nth a1 s1).bind fun x2 =>
sel (x1 != x2) (some (.inr (.inl false))) <|
some (.inl (w64 (s1 + 1)))) <|
some (.inr (.inr ()))
noncomputable def spec_l32Same (a0 : List Bool) (a1 : List Bool) : Option (Bool) :=
(iter (spec_l32Same_b1 a0 a1) 0).bind fun y1 =>
both y1 (fun o3 => some o3) (fun o4 =>
some ((a0.length : Int) == (a1.length : Int)))
noncomputable def spec_l32Round_b1 (a0 : List Quad) (s1 : Bool × Int × (List (List Bool))) : Option ((Bool × Int × (List (List Bool))) ⊕ (Bool × (List (List Bool)))) :=
sel (decide (s1.2.1 ≥ 0)) (((nth a0 s1.2.1).bind fun x1 =>
(spec_l32After a0 s1.2.2 s1.2.1).bind fun y5 =>
(spec_l32Before x1 y5).bind fun y6 =>
(nth s1.2.2 s1.2.1).bind fun x2 =>
(spec_l32Same y6 x2).bind fun y7 =>
sel (!y7) (some (true, (s1.2.2.set (Int.toNat s1.2.1) y6))) <|
some (s1.1, s1.2.2) : Option (Bool × (List (List Bool)))).bind fun y4 =>
some (.inl (y4.1, w64 (s1.2.1 - 1), y4.2))) <|
some (.inr (s1.1, s1.2.2))
noncomputable def spec_l32Round (a0 : List Quad) (a1 : List (List Bool)) : Option (Bool × (List (List Bool))) :=
(iter (spec_l32Round_b1 a0) (false, w64 ((a0.length : Int) - 1), a1)).bind fun y1 =>
some (y1.1, y1.2)
def spec_LiveOf_b1 (a0 : List Quad) (s1 : (List (List Bool)) × Int) : Option (((List (List Bool)) × Int) ⊕ ((List (List Bool)))) :=
sel (decide (s1.2 < (a0.length : Int))) ((mk 1 12 false).bind fun r1 =>
(app 24 s1.1 [r1]).bind fun r2 =>
some (.inl (r2, w64 (s1.2 + 1)))) <|
some (.inr s1.1)
noncomputable def spec_LiveOf_b2 (a0 : List Quad) (s2 : (List (List Bool))) : Option (((List (List Bool))) ⊕ ((List (List Bool)))) :=
(spec_l32Round a0 s2).bind fun y8 =>
sel y8.1 (some (.inl y8.2)) <|
some (.inr y8.2)
noncomputable def spec_LiveOf (a0 : List Quad) : Option ((List (List Bool))) :=
(spec_CodeValid a0).bind fun y1 =>
sel (!y1) (some []) <|
(iter (spec_LiveOf_b1 a0) ([], 0)).bind fun y2 =>
(iter (spec_LiveOf_b2 a0) y2).bind fun y5 =>
some y5
def spec_l35Dead (a0 : Quad) (a1 : List Bool) : Option (Bool) :=
(sel (a0.Op == 1) (some (a0.Op == 1)) <|
sel (a0.Op == 2) (some (a0.Op == 2)) <|
some (a0.Op == 3) : Option (Bool)).bind fun y1 =>
sel y1 ((nth a1 a0.Dst).bind fun x1 =>
some (!x1)) <|
some false
noncomputable def spec_DeadCode_b1 (a0 : List Quad) (y2 : (List (List Bool))) (s1 : (List Quad) × Int) : Option (((List Quad) × Int) ⊕ ((List Quad))) :=
sel (decide (s1.2 < (a0.length : Int))) ((nth a0 s1.2).bind fun x1 =>
((spec_l32After a0 y2 s1.2).bind fun y7 =>
(spec_l35Dead x1 y7).bind fun y8 =>
sel y8 (some (Quad.mk 4 0 0 0 (w64 (s1.2 + 1)))) <|
some x1 : Option (Quad)).bind fun y6 =>
(app 40 s1.1 [y6]).bind fun r1 =>
some (.inl (r1, w64 (s1.2 + 1)))) <|
some (.inr s1.1)
noncomputable def spec_DeadCode (a0 : List Quad) : Option ((List Quad) × Bool) :=
(spec_CodeValid a0).bind fun y1 =>
sel (!y1) (some ([], false)) <|
(spec_LiveOf a0).bind fun y2 =>
(iter (spec_DeadCode_b1 a0 y2) ([], 0)).bind fun y3 =>
some (y3, true)
def spec_l31Spread_b7 (y5 : (List Int)) (s2 : Bool × Int × (List Bool)) : Option ((Bool × Int × (List Bool)) ⊕ (Bool × (List Bool))) :=
sel (decide (s2.2.1 < (y5.length : Int))) (((nth y5 s2.2.1).bind fun x2 =>
(nth s2.2.2 x2).bind fun x3 =>
sel (!x3) ((nth y5 s2.2.1).bind fun x4 =>
(nth s2.2.2 x4).bind fun x5 =>
(upd s2.2.2 x4 true).bind fun r1 =>
some (true, r1)) <|
some (s2.1, s2.2.2) : Option (Bool × (List Bool))).bind fun y9 =>
some (.inl (y9.1, w64 (s2.2.1 + 1), y9.2))) <|
some (.inr (s2.1, s2.2.2))
noncomputable def spec_l31Spread_b5 (a0 : List Quad) (s1 : Bool × Int × (List Bool)) : Option ((Bool × Int × (List Bool)) ⊕ (Bool × (List Bool))) :=
sel (decide (s1.2.1 < (a0.length : Int))) (((nth s1.2.2 s1.2.1).bind fun x1 =>
sel (!x1) (some (s1.1, s1.2.2)) <|
(spec_l31Next a0 s1.2.1).bind fun y5 =>
(iter (spec_l31Spread_b7 y5) (s1.1, 0, s1.2.2)).bind fun y6 =>
some (y6.1, y6.2) : Option (Bool × (List Bool))).bind fun y4 =>
some (.inl (y4.1, w64 (s1.2.1 + 1), y4.2))) <|
some (.inr (s1.1, s1.2.2))
noncomputable def spec_l31Spread (a0 : List Quad) (a1 : List Bool) : Option (Bool × (List Bool)) :=
(iter (spec_l31Spread_b5 a0) (false, 0, a1)).bind fun y1 =>
some (y1.1, y1.2)
noncomputable def spec_CodeReach_b1 (a0 : List Quad) (s1 : (List Bool)) : Option (((List Bool)) ⊕ ((List Bool))) :=
(spec_l31Spread a0 s1).bind fun y5 =>
sel y5.1 (some (.inl y5.2)) <|
some (.inr y5.2)
noncomputable def spec_CodeReach (a0 : List Quad) : Option ((List Bool)) :=
(spec_CodeValid a0).bind fun y1 =>
sel (!y1) (some []) <|
(mk 1 (a0.length : Int) false).bind fun r1 =>
(nth r1 0).bind fun x1 =>
(upd r1 0 true).bind fun r2 =>
(iter (spec_CodeReach_b1 a0) r2).bind fun y2 =>
some y2
def spec_l36Idle (a0 : Quad) (a1 : Int) : Option (Bool) :=
(sel (a0.Op == 4) (some (a0.Op == 4)) <|
some (a0.Op == 5) : Option (Bool)).bind fun y1 =>
sel y1 (some (a0.N == (w64 (a1 + 1)))) <|
sel (a0.Op == 2) (some (a0.Dst == a0.A)) <|
some false
def spec_l36Place_b1 (a0 : List Bool) (a1 : Int) (s1 : Int × Int) : Option ((Int × Int) ⊕ Int) :=
sel (decide (s1.2 < a1)) (((nth a0 s1.2).bind fun x1 =>
sel x1 (some (w64 (s1.1 + 1))) <|
some s1.1 : Option (Int)).bind fun y4 =>
some (.inl (y4, w64 (s1.2 + 1)))) <|
some (.inr s1.1)
noncomputable def spec_l36Place (a0 : List Bool) (a1 : Int) : Option (Int) :=
(iter (spec_l36Place_b1 a0 a1) (0, 0)).bind fun y1 =>
some y1
def spec_SqueezeCode_b1 (a0 : List Quad) (s1 : Int × (List Bool)) : Option ((Int × (List Bool)) ⊕ ((List Bool))) :=
sel (decide (s1.1 < (a0.length : Int))) ((nth s1.2 s1.1).bind fun x1 =>
(sel x1 ((nth a0 s1.1).bind fun x2 => (spec_l36Idle x2 s1.1).bind fun y6 => some (!y6)) (some false) : Option (Bool)).bind fun b1 =>
(nth s1.2 s1.1).bind fun x3 =>
(upd s1.2 s1.1 b1).bind fun r1 =>
some (.inl (w64 (s1.1 + 1), r1))) <|
some (.inr s1.2)
noncomputable def spec_SqueezeCode_b2 (a0 : List Quad) (y3 : (List Bool)) (s2 : (List Quad) × Int) : Option (((List Quad) × Int) ⊕ ((List Quad))) :=
sel (decide (s2.2 < (a0.length : Int))) (((nth a0 s2.2).bind fun x4 =>
(nth y3 s2.2).bind fun x5 =>
sel (!x5) (some s2.1) <|
(sel ((x4.Op == 4) || (x4.Op == 5)) ((spec_l36Place y3 x4.N).bind fun y12 =>
some (Quad.mk x4.Op x4.Dst x4.A x4.B y12)) <|
some x4 : Option (Quad)).bind fun y11 =>
(app 40 s2.1 [y11]).bind fun r2 =>
some r2 : Option ((List Quad))).bind fun y10 =>
some (.inl (y10, w64 (s2.2 + 1)))) <|
some (.inr s2.1)
noncomputable def spec_SqueezeCode (a0 : List Quad) : Option ((List Quad) × Bool) :=
(spec_CodeValid a0).bind fun y1 =>
sel (!y1) (some ([], false)) <|
(spec_CodeReach a0).bind fun y2 =>
(iter (spec_SqueezeCode_b1 a0) (0, y2)).bind fun y3 =>
(iter (spec_SqueezeCode_b2 a0 y3) ([], 0)).bind fun y7 =>
some (y7, true)
noncomputable def spec_l37Once (a0 : List Quad) : Option ((List Quad)) :=
(spec_FoldCode a0).bind fun y1 =>
(spec_CopyCode y1.1).bind fun y2 =>
(spec_JumpCode y2.1).bind fun y3 =>
(spec_DeadCode y3.1).bind fun y4 =>
(spec_SqueezeCode y4.1).bind fun y5 =>
some y5.1
noncomputable def spec_OptimizeCode_b1 (a1 : Int) (s1 : (List Quad) × Int) : Option (((List Quad) × Int) ⊕ ((List Quad))) :=
sel (decide (s1.2 < a1)) ((spec_l37Once s1.1).bind fun y6 =>
some (.inl (y6, w64 (s1.2 + 1)))) <|
some (.inr s1.1)
noncomputable def spec_OptimizeCode (a0 : List Quad) (a1 : Int) : Option ((List Quad) × Bool) :=
(spec_CodeValid a0).bind fun y1 =>
(sel (!y1) (some true) ((spec_l6In a1 0 4).bind fun y2 => some (!y2)) : Option (Bool)).bind fun b1 =>
sel b1 (some ([], false)) <|
(app 40 [] a0).bind fun r1 =>
(iter (spec_OptimizeCode_b1 a1) (r1, 0)).bind fun y3 =>
some (y3, true)
noncomputable def spec_l93Good (k : Nat) (a0 : L6Rd) : Option ((List Quad) × Int) :=
(spec_l6Rd_pick (L6Rd.mk a0.b a0.p) 2).bind fun y1 =>
sel (y1.1 == 0) ((spec_l93Random (L6Rd.mk a0.b y1.2)).bind fun y2 =>
some (y2.1, y2.2)) <|
(spec_l92Stmts k (L6Rd.mk a0.b y1.2) 2).bind fun y3 =>
(spec_CompileTask k y3.1).bind fun y4 =>
sel (decide ((y4.1.length : Int) > 40)) ((spec_l93Random (L6Rd.mk a0.b y3.2)).bind fun y5 =>
some (y5.1, y5.2)) <|
(spec_l6Rd_pick (L6Rd.mk a0.b y3.2) 3).bind fun y6 =>
(spec_OptimizeCode y4.1 (w64 (Int.tdiv y6.1 2))).bind fun y7 =>
some (y7.1, y6.2)
noncomputable def spec_l93Code (k : Nat) (a0 : L6Rd) : Option ((List Quad) × Int) :=
(spec_l93Good k (L6Rd.mk a0.b a0.p)).bind fun y1 =>
(spec_l6Rd_pick (L6Rd.mk a0.b y1.2) 36).bind fun y2 =>
sel (y2.1 == 0) ((nth y1.1 0).bind fun x1 =>
(upd y1.1 0 (Quad.mk x1.Op 12 x1.A x1.B x1.N)).bind fun r1 =>
some (r1, y2.2)) <|
sel (y2.1 == 1) ((app 40 y1.1 [(Quad.mk 9 0 0 0 0)]).bind fun r2 =>
some (r2, y2.2)) <|
sel (y2.1 == 2) ((nth y1.1 0).bind fun x2 =>
(upd y1.1 0 (Quad.mk 4 0 0 0 (y1.1.length : Int))).bind fun r3 =>
some (r3, y2.2)) <|
sel (y2.1 == 3) (some ([], y2.2)) <|
some (y1.1, y2.2)
noncomputable def spec_DrawTaskInstrs (k : Nat) (a0 : List Int) : Option ((List Quad) × Int) :=
(spec_l6Open a0).bind fun y1 =>
(spec_l93Code k (L6Rd.mk y1.b y1.p)).bind fun y2 =>
(spec_l6Rd_pick (L6Rd.mk y1.b y2.2) 24).bind fun y3 =>
sel (y3.1 == 0) ((spec_l6Rd_pick (L6Rd.mk y1.b y3.2) 2).bind fun y4 =>
(nth [0, 9] y4.1).bind fun x1 =>
some (y2.1, x1)) <|
(spec_l6Rd_pick (L6Rd.mk y1.b y3.2) 8).bind fun y5 =>
some (y2.1, w64 (1 + y5.1))
def impl_emitter_emit (a0 : Emitter) (a1 : List Instr) : Option ((List Instr)) :=
(app 40 a0.list a1).bind fun r1 =>
some r1
def impl_emitter_write (a0 : Emitter) (a1 : Int) (a2 : Int → Option (List Instr)) : Option ((List Instr)) :=
sel (decide (a1 < a0.colors)) ((nth colorRegs a1).bind fun x1 =>
(a2 x1).bind fun y1 =>
(impl_emitter_emit (Emitter.mk a0.colors a0.list) y1).bind fun y2 =>
some y2) <|
(a2 7).bind fun y3 =>
(impl_emitter_emit (Emitter.mk a0.colors a0.list) y3).bind fun y4 =>
(impl_emitter_emit (Emitter.mk a0.colors y4) [(Instr.mk 16 0 2 7 (w64 (4 * (w64 (a1 - a0.colors)))))]).bind fun y5 =>
some y5
def impl_emitter_read (a0 : Emitter) (a1 : Int) (a2 : Int) : Option (Int × (List Instr)) :=
sel (decide (a1 < a0.colors)) ((nth colorRegs a1).bind fun x1 =>
some (x1, a0.list)) <|
(impl_emitter_emit (Emitter.mk a0.colors a0.list) [(Instr.mk 14 a2 2 0 (w64 (4 * (w64 (a1 - a0.colors)))))]).bind fun y1 =>
some (a2, y1)
def impl_addi (a0 : Int) (a1 : Int) (a2 : Int) : Option (Instr) :=
some (Instr.mk 12 a0 a1 0 a2)
def impl_emitter_jump (a0 : Emitter) (a1 : Int) : Option ((List Instr)) :=
(impl_emitter_emit (Emitter.mk a0.colors a0.list) [(Instr.mk 20 0 0 0 (w64 (a1 - (w64 (4 * (a0.list.length : Int))))))]).bind fun y1 =>
some y1
def impl_emitter_call (a0 : Emitter) (a1 : Int) : Option ((List Instr)) :=
(impl_addi 17 0 a1).bind fun y1 =>
(impl_emitter_emit (Emitter.mk a0.colors a0.list) [y1, (Instr.mk 15 1 0 0 0)]).bind fun y2 =>
some y2
def impl_SignExtend (a0 : Int) (a1 : Int) : Option (Int) :=
(sel (((decide (a1 < 1)) || (decide (a1 > 32))) || (decide (a0 < 0))) (some true) ((shO .shl .i64 1 a1).bind fun d1 => some (decide (a0 ≥ d1))) : Option (Bool)).bind fun b1 =>
sel b1 (some 0) <|
(shO .shl .i64 1 (w64 (a1 - 1))).bind fun d2 =>
sel (decide (a0 ≥ d2)) ((shO .shl .i64 1 a1).bind fun d3 =>
some (w64 (a0 - d3))) <|
some a0
def impl_isUnsigned (a0 : Int) : Option (Bool) :=
some ((decide (a0 ≥ 0)) && (decide (a0 < 4294967296)))
def impl_Bits (a0 : Int) (a1 : Int) (a2 : Int) : Option (Int) :=
(impl_isUnsigned a0).bind fun y1 =>
sel (((((!y1) || (decide (a1 < 0))) || (decide (a1 > 31))) || (decide (a2 < 1))) || (decide (a2 > (w64 (32 - a1))))) (some 0) <|
(shO .shr .i64 a0 a1).bind fun d1 =>
(shO .shl .i64 1 a2).bind fun d2 =>
some (bitsI .and .i64 d1 (w64 (d2 - 1)))
def impl_WordValid (a0 : Int) : Option (Bool) :=
some ((decide (a0 ≥ (-2147483648))) && (decide (a0 ≤ 2147483647)))
def impl_Unsigned (a0 : Int) : Option (Int) :=
(impl_WordValid a0).bind fun y1 =>
sel (!y1) (some (-1)) <|
some (w64 (kwrap .u32 (a0)))
def impl_Wrap (a0 : Int) : Option (Int) :=
some (w64 (kwrap .i32 (a0)))
def impl_constInstrs (a0 : Int) (a1 : Int) : Option ((List Instr)) :=
sel ((decide (a1 ≥ (-2048))) && (decide (a1 ≤ 2047))) ((impl_addi a0 0 a1).bind fun y1 =>
some [y1]) <|
(impl_Unsigned a1).bind fun y2 =>
(impl_Bits y2 0 12).bind fun y3 =>
(impl_SignExtend y3 12).bind fun y4 =>
(impl_Wrap (w64 (a1 - y4))).bind fun y5 =>
(impl_Unsigned y5).bind fun y6 =>
(impl_Bits y6 12 20).bind fun y7 =>
(impl_addi a0 a0 y4).bind fun y8 =>
some [(Instr.mk 19 a0 0 0 y7), y8]
def impl_quadInstrs_1 (a0 : Int) (a1 : Quad) : Option ((List Instr)) :=
(impl_constInstrs a0 a1.N).bind fun y1 =>
some y1
def impl_quadInstrs_2 (a0 : Int) (a1 : Int) : Option ((List Instr)) :=
(impl_addi a0 a1 0).bind fun y1 =>
some [y1]
def impl_quadInstrs_3 (a0 : Int) (a1 : Quad) (a2 : Int) (a3 : Int) : Option ((List Instr)) :=
(nth binInstrs (w64 (a1.N - 1))).bind fun x1 =>
sel (a1.N == 4) ((app 40 [(Instr.mk x1 a0 a2 a3 0)] [(Instr.mk 13 a0 a0 0 1)]).bind fun r1 =>
some r1) <|
some [(Instr.mk x1 a0 a2 a3 0)]
def impl_quadInstrs_4 (a0 : Int) : Option ((List Instr)) :=
(impl_addi a0 10 0).bind fun y1 =>
some [y1]
def impl_quadInstrs (a0 : Quad) (a1 : Int) (a2 : Int) : Option ((List Instr)) :=
(sel (a0.Op == 1) ((impl_emitter_write (Emitter.mk a1 []) a0.Dst (fun b0 => impl_quadInstrs_1 b0 a0)).bind fun y2 =>
some y2) <|
sel (a0.Op == 2) ((impl_emitter_read (Emitter.mk a1 []) a0.A 5).bind fun y3 =>
(impl_emitter_write (Emitter.mk a1 y3.2) a0.Dst (fun b0 => impl_quadInstrs_2 b0 y3.1)).bind fun y4 =>
some y4) <|
sel (a0.Op == 3) ((impl_emitter_read (Emitter.mk a1 []) a0.A 5).bind fun y5 =>
(impl_emitter_read (Emitter.mk a1 y5.2) a0.B 6).bind fun y6 =>
(impl_emitter_write (Emitter.mk a1 y6.2) a0.Dst (fun b0 => impl_quadInstrs_3 b0 a0 y5.1 y6.1)).bind fun y7 =>
some y7) <|
sel (a0.Op == 4) ((impl_emitter_jump (Emitter.mk a1 []) a2).bind fun y8 =>
some y8) <|
sel (a0.Op == 5) ((impl_emitter_read (Emitter.mk a1 []) a0.A 5).bind fun y9 =>
(impl_emitter_emit (Emitter.mk a1 y9.2) [(Instr.mk 18 0 y9.1 0 8)]).bind fun y10 =>
(impl_emitter_jump (Emitter.mk a1 y10) a2).bind fun y11 =>
some y11) <|
sel (a0.Op == 6) ((impl_emitter_read (Emitter.mk a1 []) a0.A 5).bind fun y12 =>
(impl_addi 10 y12.1 0).bind fun y13 =>
(impl_addi 11 0 a0.N).bind fun y14 =>
(impl_emitter_emit (Emitter.mk a1 y12.2) [y13, y14]).bind fun y15 =>
(impl_emitter_call (Emitter.mk a1 y15) 1).bind fun y16 =>
some y16) <|
sel (a0.Op == 7) ((impl_addi 11 0 a0.N).bind fun y17 =>
(impl_emitter_emit (Emitter.mk a1 []) [y17]).bind fun y18 =>
(impl_emitter_call (Emitter.mk a1 y18) 2).bind fun y19 =>
(impl_emitter_write (Emitter.mk a1 y19) a0.Dst impl_quadInstrs_4).bind fun y20 =>
some y20) <|
sel (a0.Op == 8) ((impl_emitter_call (Emitter.mk a1 []) 3).bind fun y21 =>
some y21) <|
sel (a0.Op == 9) ((impl_emitter_read (Emitter.mk a1 []) a0.A 5).bind fun y22 =>
(impl_addi 10 y22.1 0).bind fun y23 =>
(impl_emitter_emit (Emitter.mk a1 y22.2) [y23]).bind fun y24 =>
(impl_emitter_call (Emitter.mk a1 y24) 4).bind fun y25 =>
some y25) <|
sel (a0.Op == 10) ((impl_emitter_call (Emitter.mk a1 []) 5).bind fun y26 =>
some y26) <|
some [] : Option ((List Instr))).bind fun y1 =>
some y1
def impl_isReg (a0 : Int) : Option (Bool) :=
some ((decide (a0 ≥ 0)) && (decide (a0 < 12)))
def impl_OpValid (a0 : Int) : Option (Bool) :=
some ((decide (a0 ≥ 1)) && (decide (a0 ≤ 12)))
def impl_QuadValid (a0 : Quad) (a1 : Int) : Option (Bool) :=
(impl_isReg a0.Dst).bind fun y1 =>
(impl_isReg a0.A).bind fun y2 =>
(impl_isReg a0.B).bind fun y3 =>
sel (a0.Op == 1) ((sel (((a0.Op == 1) && ((a0.Dst == a0.Dst) && ((a0.A == 0) && ((a0.B == 0) && ((a0.N == a0.N) && true))))) && y1) ((impl_WordValid a0.N).bind fun y4 => some y4) (some false) : Option (Bool)).bind fun b1 =>
some b1) <|
sel (a0.Op == 2) (some ((((a0.Op == 2) && ((a0.Dst == a0.Dst) && ((a0.A == a0.A) && ((a0.B == 0) && ((a0.N == 0) && true))))) && y1) && y2)) <|
sel (a0.Op == 3) ((sel ((y1 && y2) && y3) ((impl_OpValid a0.N).bind fun y5 => some y5) (some false) : Option (Bool)).bind fun b2 =>
some b2) <|
sel (a0.Op == 4) (some ((((a0.Op == 4) && ((a0.Dst == 0) && ((a0.A == 0) && ((a0.B == 0) && ((a0.N == a0.N) && true))))) && (decide (a0.N ≥ 0))) && (decide (a0.N < a1)))) <|
sel (a0.Op == 5) (some (((((a0.Op == 5) && ((a0.Dst == 0) && ((a0.A == a0.A) && ((a0.B == 0) && ((a0.N == a0.N) && true))))) && y2) && (decide (a0.N ≥ 0))) && (decide (a0.N < a1)))) <|
sel (a0.Op == 6) (some (((((a0.Op == 6) && ((a0.Dst == 0) && ((a0.A == a0.A) && ((a0.B == 0) && ((a0.N == a0.N) && true))))) && y2) && (decide (a0.N ≥ 0))) && (decide (a0.N < 3)))) <|
sel (a0.Op == 7) (some (((((a0.Op == 7) && ((a0.Dst == a0.Dst) && ((a0.A == 0) && ((a0.B == 0) && ((a0.N == a0.N) && true))))) && y1) && (decide (a0.N ≥ 0))) && (decide (a0.N < 3)))) <|
sel (a0.Op == 9) (some (((a0.Op == 9) && ((a0.Dst == 0) && ((a0.A == a0.A) && ((a0.B == 0) && ((a0.N == 0) && true))))) && y2)) <|
(sel (a0.Op == 8) (some (a0.Op == 8)) <|
some (a0.Op == 10) : Option (Bool)).bind fun y6 =>
sel y6 (some ((a0.Op == a0.Op) && ((a0.Dst == 0) && ((a0.A == 0) && ((a0.B == 0) && ((a0.N == 0) && true)))))) <|
some false
def impl_CodeValid_b1 (a0 : List Quad) (s1 : Int) : Option (Int ⊕ (Bool ⊕ Unit)) :=
sel (decide (s1 < (a0.length : Int))) ((nth a0 s1).bind fun x1 =>
(impl_QuadValid x1 (a0.length : Int)).bind fun y4 =>
sel (!y4) (some (.inr (.inl false))) <|
some (.inl (w64 (s1 + 1)))) <|
some (.inr (.inr ()))
noncomputable def impl_CodeValid (a0 : List Quad) : Option (Bool) :=
sel ((decide ((a0.length : Int) < 1)) || (decide ((a0.length : Int) > 600))) (some false) <|
(iter (impl_CodeValid_b1 a0) 0).bind fun y1 =>
both y1 (fun o3 => some o3) (fun o4 =>
(nth a0 (w64 ((a0.length : Int) - 1))).bind fun x2 =>
some ((x2.Op == 10) || (x2.Op == 4)))
def impl_TaskPlaces_b1 (a0 : List Quad) (a1 : Int) (s1 : (List Int) × Int × Int) : Option (((List Int) × Int × Int) ⊕ ((List Int))) :=
sel (decide (s1.2.2 < (a0.length : Int))) ((nth a0 s1.2.2).bind fun x1 =>
(app 8 s1.1 [s1.2.1]).bind fun r1 =>
(impl_quadInstrs x1 a1 0).bind fun y5 =>
some (.inl (r1, w64 (s1.2.1 + (y5.length : Int)), w64 (s1.2.2 + 1)))) <|
some (.inr s1.1)
noncomputable def impl_TaskPlaces (a0 : List Quad) (a1 : Int) : Option ((List Int)) :=
(impl_CodeValid a0).bind fun y1 =>
sel (((!y1) || (decide (a1 < 1))) || (decide (a1 > 8))) (some []) <|
(iter (impl_TaskPlaces_b1 a0 a1) ([], 0, 0)).bind fun y2 =>
some y2
def impl_hasTarget (a0 : Quad) : Option (Bool) :=
some ((a0.Op == 4) || (a0.Op == 5))
def impl_TaskInstrs_b1 (a0 : List Quad) (a1 : Int) (y1 : (List Int)) (s1 : (List Instr) × Int) : Option (((List Instr) × Int) ⊕ ((List Instr))) :=
sel (decide (s1.2 < (a0.length : Int))) ((nth a0 s1.2).bind fun x1 =>
((impl_hasTarget x1).bind fun y6 =>
sel y6 ((nth y1 x1.N).bind fun x2 =>
(nth y1 s1.2).bind fun x3 =>
some (w64 (4 * (w64 (x2 - x3))))) <|
some 0 : Option (Int)).bind fun y5 =>
(impl_quadInstrs x1 a1 y5).bind fun y7 =>
(app 40 s1.1 y7).bind fun r1 =>
some (.inl (r1, w64 (s1.2 + 1)))) <|
some (.inr s1.1)
noncomputable def impl_TaskInstrs (a0 : List Quad) (a1 : Int) : Option ((List Instr) × Bool) :=
(impl_TaskPlaces a0 a1).bind fun y1 =>
sel (List.isEmpty y1) (some ([], false)) <|
(iter (impl_TaskInstrs_b1 a0 a1 y1) ([], 0)).bind fun y2 =>
some (y2, true)
def spec_l43Reg (a0 : Int) (a1 : Int) (a2 : Int) : Option (Int) :=
sel (decide (a0 ≥ a1)) (some a2) <|
(nth [8, 9, 18, 19, 20, 21, 22, 23] a0).bind fun x1 =>
some x1
def spec_l43Write (a0 : List Instr) (a1 : Int) (a2 : Int) : Option ((List Instr)) :=
sel (decide (a1 < a2)) (some a0) <|
(app 40 a0 [(Instr.mk 16 0 2 7 (w64 (4 * (w64 (a1 - a2)))))]).bind fun r1 =>
some r1
def spec_l1Power_b1 (a0 : Int) (s1 : Int × Int) : Option ((Int × Int) ⊕ Int) :=
sel (decide (s1.2 < a0)) (some (.inl (w64 (s1.1 * 2), w64 (s1.2 + 1)))) <|
some (.inr s1.1)
noncomputable def spec_l1Power (a0 : Int) : Option (Int) :=
(iter (spec_l1Power_b1 a0) (1, 0)).bind fun y1 =>
some y1
noncomputable def spec_SignExtend (a0 : Int) (a1 : Int) : Option (Int) :=
(spec_l6In a1 1 32).bind fun y1 =>
(sel (!y1) (some true) ((spec_l1Power a1).bind fun y2 => (spec_l6In a0 0 (w64 (y2 - 1))).bind fun y3 => some (!y3)) : Option (Bool)).bind fun b1 =>
sel b1 (some 0) <|
(spec_l1Power (w64 (a1 - 1))).bind fun y4 =>
sel (decide (a0 ≥ y4)) ((spec_l1Power a1).bind fun y5 =>
some (w64 (a0 - y5))) <|
some a0
noncomputable def spec_Bits (a0 : Int) (a1 : Int) (a2 : Int) : Option (Int) :=
(spec_l6In a0 0 4294967295).bind fun y1 =>
(sel (!y1) (some true) ((spec_l6In a1 0 31).bind fun y2 => some (!y2)) : Option (Bool)).bind fun b1 =>
(sel b1 (some true) ((spec_l6In a2 1 (w64 (32 - a1))).bind fun y3 => some (!y3)) : Option (Bool)).bind fun b2 =>
sel b2 (some 0) <|
(spec_l1Power a1).bind fun y4 =>
(quoO .i64 a0 y4).bind fun d1 =>
(spec_l1Power a2).bind fun y5 =>
(remO d1 y5).bind fun d2 =>
some d2
def spec_Unsigned (a0 : Int) : Option (Int) :=
(spec_WordValid a0).bind fun y1 =>
sel (!y1) (some (-1)) <|
sel (decide (a0 < 0)) (some (w64 (a0 + 4294967296))) <|
some a0
noncomputable def spec_l43Const (a0 : Int) (a1 : Int) : Option ((List Instr)) :=
(spec_l6In a1 (-2048) 2047).bind fun y1 =>
sel y1 (some [(Instr.mk 12 a0 0 0 a1)]) <|
(spec_Unsigned a1).bind fun y2 =>
(spec_Bits y2 0 12).bind fun y3 =>
(spec_SignExtend y3 12).bind fun y4 =>
(spec_Wrap (w64 (a1 - y4))).bind fun y5 =>
(spec_Unsigned y5).bind fun y6 =>
(spec_Bits y6 12 20).bind fun y7 =>
(app 40 [(Instr.mk 19 a0 0 0 y7)] [(Instr.mk 12 a0 a0 0 y4)]).bind fun r1 =>
some r1
def spec_l43Read (a0 : Int) (a1 : Int) (a2 : Int) : Option ((List Instr)) :=
sel (decide (a0 < a1)) (some []) <|
some [(Instr.mk 14 a2 2 0 (w64 (4 * (w64 (a0 - a1)))))]
def spec_l43Move (a0 : Int) (a1 : Int) : Option (Instr) :=
some (Instr.mk 12 a0 a1 0 0)
def spec_l43Op (a0 : Int) : Option (Int) :=
(nth [7, 8, 6, 8, 11, 9, 10, 1, 2, 3, 4, 5] (w64 (a0 - 1))).bind fun x1 =>
some x1
def spec_l43Bin (a0 : Quad) (a1 : Int) : Option ((List Instr)) :=
(spec_l43Read a0.A a1 5).bind fun y1 =>
(spec_l43Read a0.B a1 6).bind fun y2 =>
(app 40 y1 y2).bind fun r1 =>
(spec_l43Reg a0.Dst a1 7).bind fun y3 =>
(spec_l43Op a0.N).bind fun y4 =>
(spec_l43Reg a0.A a1 5).bind fun y5 =>
(spec_l43Reg a0.B a1 6).bind fun y6 =>
(app 40 r1 [(Instr.mk y4 y3 y5 y6 0)]).bind fun r2 =>
(sel (a0.N == 4) ((app 40 r2 [(Instr.mk 13 y3 y3 0 1)]).bind fun r3 =>
some r3) <|
some r2 : Option ((List Instr))).bind fun y7 =>
(spec_l43Write y7 a0.Dst a1).bind fun y8 =>
some y8
def spec_l43Zero (a0 : Quad) (a1 : Int) (a2 : Int) : Option ((List Instr)) :=
(spec_l43Read a0.A a1 5).bind fun y1 =>
(spec_l43Reg a0.A a1 5).bind fun y2 =>
(app 40 y1 [(Instr.mk 18 0 y2 0 8)]).bind fun r1 =>
(app 40 r1 [(Instr.mk 20 0 0 0 (w64 (a2 - (w64 (4 * (r1.length : Int))))))]).bind fun r2 =>
some r2
def spec_l43Call (a0 : List Instr) (a1 : Int) : Option ((List Instr)) :=
(app 40 a0 [(Instr.mk 12 17 0 0 a1)]).bind fun r1 =>
(app 40 r1 [(Instr.mk 15 1 0 0 0)]).bind fun r2 =>
some r2
def spec_l43Give (a0 : Int) (a1 : Int) : Option ((List Instr)) :=
(spec_l43Read a0 a1 5).bind fun y1 =>
(spec_l43Reg a0 a1 5).bind fun y2 =>
(spec_l43Move 10 y2).bind fun y3 =>
(app 40 y1 [y3]).bind fun r1 =>
some r1
def spec_l43Box (a0 : Int) : Option (Instr) :=
some (Instr.mk 12 11 0 0 a0)
noncomputable def spec_l43Quad (a0 : Quad) (a1 : Int) (a2 : Int) : Option ((List Instr)) :=
(spec_l43Reg a0.Dst a1 7).bind fun y1 =>
sel (a0.Op == 1) ((spec_l43Const y1 a0.N).bind fun y2 =>
(spec_l43Write y2 a0.Dst a1).bind fun y3 =>
some y3) <|
sel (a0.Op == 2) ((spec_l43Read a0.A a1 5).bind fun y4 =>
(spec_l43Reg a0.A a1 5).bind fun y5 =>
(spec_l43Move y1 y5).bind fun y6 =>
(app 40 y4 [y6]).bind fun r1 =>
(spec_l43Write r1 a0.Dst a1).bind fun y7 =>
some y7) <|
sel (a0.Op == 3) ((spec_l43Bin a0 a1).bind fun y8 =>
some y8) <|
sel (a0.Op == 4) (some [(Instr.mk 20 0 0 0 a2)]) <|
sel (a0.Op == 5) ((spec_l43Zero a0 a1 a2).bind fun y9 =>
some y9) <|
sel (a0.Op == 6) ((spec_l43Give a0.A a1).bind fun y10 =>
(spec_l43Box a0.N).bind fun y11 =>
(app 40 y10 [y11]).bind fun r2 =>
(spec_l43Call r2 1).bind fun y12 =>
some y12) <|
sel (a0.Op == 7) ((spec_l43Box a0.N).bind fun y13 =>
(spec_l43Call [y13] 2).bind fun y14 =>
(spec_l43Move y1 10).bind fun y15 =>
(app 40 y14 [y15]).bind fun r3 =>
(spec_l43Write r3 a0.Dst a1).bind fun y16 =>
some y16) <|
sel (a0.Op == 8) ((spec_l43Call [] 3).bind fun y17 =>
some y17) <|
sel (a0.Op == 9) ((spec_l43Give a0.A a1).bind fun y18 =>
(spec_l43Call y18 4).bind fun y19 =>
some y19) <|
(spec_l43Call [] 5).bind fun y20 =>
some y20
noncomputable def spec_l43Places_b1 (a0 : List Quad) (a1 : Int) (s1 : (List Int) × Int × Int) : Option (((List Int) × Int × Int) ⊕ ((List Int))) :=
sel (decide (s1.2.2 < (a0.length : Int))) ((app 8 s1.1 [s1.2.1]).bind fun r1 =>
(nth a0 s1.2.2).bind fun x1 =>
(spec_l43Quad x1 a1 0).bind fun y4 =>
some (.inl (r1, w64 (s1.2.1 + (y4.length : Int)), w64 (s1.2.2 + 1)))) <|
some (.inr s1.1)
noncomputable def spec_l43Places (a0 : List Quad) (a1 : Int) : Option ((List Int)) :=
(iter (spec_l43Places_b1 a0 a1) ([], 0, 0)).bind fun y1 =>
some y1
noncomputable def spec_l43Task_b1 (a0 : List Quad) (a1 : Int) (y1 : (List Int)) (s1 : (List Instr) × Int) : Option (((List Instr) × Int) ⊕ ((List Instr))) :=
sel (decide (s1.2 < (a0.length : Int))) (((nth a0 s1.2).bind fun x1 =>
(sel (x1.Op == 4) (some true) ((nth a0 s1.2).bind fun x2 => some (x2.Op == 5)) : Option (Bool)).bind fun b1 =>
sel b1 ((nth a0 s1.2).bind fun x3 =>
(nth y1 x3.N).bind fun x4 =>
(nth y1 s1.2).bind fun x5 =>
some (w64 (4 * (w64 (x4 - x5))))) <|
some 0 : Option (Int)).bind fun y5 =>
(nth a0 s1.2).bind fun x6 =>
(spec_l43Quad x6 a1 y5).bind fun y6 =>
(app 40 s1.1 y6).bind fun r1 =>
some (.inl (r1, w64 (s1.2 + 1)))) <|
some (.inr s1.1)
noncomputable def spec_l43Task (a0 : List Quad) (a1 : Int) : Option ((List Instr)) :=
(spec_l43Places a0 a1).bind fun y1 =>
(iter (spec_l43Task_b1 a0 a1 y1) ([], 0)).bind fun y2 =>
some y2
noncomputable def spec_TaskInstrs (a0 : List Quad) (a1 : Int) : Option ((List Instr) × Bool) :=
(spec_CodeValid a0).bind fun y1 =>
(sel (!y1) (some true) ((spec_l6In a1 1 8).bind fun y2 => some (!y2)) : Option (Bool)).bind fun b1 =>
sel b1 (some ([], false)) <|
(spec_l43Task a0 a1).bind fun y3 =>
some (y3, true)
def laws_sameInstrs_b1 (a0 : List Instr) (a1 : List Instr) (s1 : Int) : Option (Int ⊕ (Bool ⊕ Unit)) :=
sel (decide (s1 < (a0.length : Int))) ((nth a0 s1).bind fun x1 =>
(nth a1 s1).bind fun x2 =>
sel (!((x1.Op == x2.Op) && ((x1.Rd == x2.Rd) && ((x1.Rs == x2.Rs) && ((x1.Rt == x2.Rt) && ((x1.Imm == x2.Imm) && true)))))) (some (.inr (.inl false))) <|
some (.inl (w64 (s1 + 1)))) <|
some (.inr (.inr ()))
noncomputable def laws_sameInstrs (a0 : List Instr) (a1 : List Instr) : Option (Bool) :=
sel ((a0.length : Int) != (a1.length : Int)) (some false) <|
(iter (laws_sameInstrs_b1 a0 a1) 0).bind fun y1 =>
both y1 (fun o3 => some o3) (fun o4 =>
some true)
noncomputable def laws_FnTaskColors (k : Nat) (a0 : List Int) : Option (Bool) :=
sel (decide ((a0.length : Int) > 1048576)) (some true) <|
(spec_DrawTaskInstrs k a0).bind fun y1 =>
(impl_TaskInstrs y1.1 y1.2).bind fun y2 =>
(spec_TaskInstrs y1.1 y1.2).bind fun y3 =>
(sel (y2.2 != y3.2) (some true) ((laws_sameInstrs y2.1 y3.1).bind fun y4 => some (!y4)) : Option (Bool)).bind fun b1 =>
sel (b1 || (!y2.2)) ((sel (y2.2 == y3.2) ((laws_sameInstrs y2.1 y3.1).bind fun y5 => some y5) (some false) : Option (Bool)).bind fun b2 =>
some b2) <|
(impl_TaskInstrs y1.1 (min (w64 (y1.2 + 1)) 8)).bind fun y6 =>
some (y6.2 && (decide ((y6.1.length : Int) ≤ (y2.1.length : Int))))
def impl_QuadInstrs (a0 : Quad) (a1 : Int) (a2 : Int) : Option ((List Instr) × Bool) :=
(impl_QuadValid a0 600).bind fun y1 =>
sel ((((((!y1) || (decide (a1 < 1))) || (decide (a1 > 8))) || ((Int.tmod a2 4) != 0)) || (decide (a2 < (-100000)))) || (decide (a2 > 100000))) (some ([], false)) <|
(impl_quadInstrs a0 a1 a2).bind fun y2 =>
some (y2, true)
def laws_FnTaskInstrs_b1 (y1 : (List Quad) × Int) (y6 : (List Int)) (s1 : (List Instr) × Int) : Option (((List Instr) × Int) ⊕ (Bool ⊕ ((List Instr)))) :=
sel (decide (s1.2 < (y1.1.length : Int))) (((nth y1.1 s1.2).bind fun x1 =>
(sel (x1.Op == 4) (some true) ((nth y1.1 s1.2).bind fun x2 => some (x2.Op == 5)) : Option (Bool)).bind fun b3 =>
sel b3 ((nth y1.1 s1.2).bind fun x3 =>
(nth y6 x3.N).bind fun x4 =>
(nth y6 s1.2).bind fun x5 =>
some (w64 (4 * (w64 (x4 - x5))))) <|
some 0 : Option (Int)).bind fun y10 =>
(nth y1.1 s1.2).bind fun x6 =>
(impl_QuadInstrs x6 y1.2 y10).bind fun y11 =>
(sel (!y11.2) (some true) ((nth y6 s1.2).bind fun x7 => some (x7 != (s1.1.length : Int))) : Option (Bool)).bind fun b4 =>
sel b4 (some (.inr (.inl false))) <|
(app 40 s1.1 y11.1).bind fun r1 =>
some (.inl (r1, w64 (s1.2 + 1)))) <|
some (.inr (.inr s1.1))
noncomputable def laws_FnTaskInstrs (k : Nat) (a0 : List Int) : Option (Bool) :=
sel (decide ((a0.length : Int) > 1048576)) (some true) <|
(spec_DrawTaskInstrs k a0).bind fun y1 =>
(impl_TaskInstrs y1.1 y1.2).bind fun y2 =>
(spec_TaskInstrs y1.1 y1.2).bind fun y3 =>
(sel (y2.2 != y3.2) (some true) ((laws_sameInstrs y2.1 y3.1).bind fun y4 => some (!y4)) : Option (Bool)).bind fun b1 =>
sel (b1 || (!y2.2)) ((sel (y2.2 == y3.2) ((laws_sameInstrs y2.1 y3.1).bind fun y5 => some y5) (some false) : Option (Bool)).bind fun b2 =>
some b2) <|
(impl_TaskPlaces y1.1 y1.2).bind fun y6 =>
(iter (laws_FnTaskInstrs_b1 y1 y6) ([], 0)).bind fun y7 =>
both y7 (fun o3 => some o3) (fun o4 =>
(laws_sameInstrs o4 y2.1).bind fun y12 =>
some y12)
def laws_hasInt_b1 (a0 : List Int) (a1 : Int) (s1 : Int) : Option (Int ⊕ (Bool ⊕ Unit)) :=
sel (decide (s1 < (a0.length : Int))) ((nth a0 s1).bind fun x1 =>
sel (x1 == a1) (some (.inr (.inl true))) <|
some (.inl (w64 (s1 + 1)))) <|
some (.inr (.inr ()))
noncomputable def laws_hasInt (a0 : List Int) (a1 : Int) : Option (Bool) :=
(iter (laws_hasInt_b1 a0 a1) 0).bind fun y1 =>
both y1 (fun o3 => some o3) (fun o4 =>
some false)
noncomputable def laws_FnTaskJumps_b1 (y2 : (List Instr) × Bool) (y6 : (List Int)) (s1 : Int) : Option (Int ⊕ (Bool ⊕ Unit)) :=
sel (decide (s1 < (y2.1.length : Int))) ((nth y2.1 s1).bind fun x1 =>
(sel (x1.Op == 20) ((nth y2.1 s1).bind fun x2 => (laws_hasInt y6 (w64 (s1 + (w64 (Int.tdiv x2.Imm 4))))).bind fun y10 => some (!y10)) (some false) : Option (Bool)).bind fun b3 =>
(sel b3 (some true) ((nth y2.1 s1).bind fun x3 => (sel (x3.Op == 18) ((nth y2.1 s1).bind fun x4 => some (decide ((w64 (s1 + (w64 (Int.tdiv x4.Imm 4)))) ≥ (y2.1.length : Int)))) (some false) : Option (Bool)).bind fun b5 => some b5) : Option (Bool)).bind fun b4 =>
sel b4 (some (.inr (.inl false))) <|
some (.inl (w64 (s1 + 1)))) <|
some (.inr (.inr ()))
noncomputable def laws_FnTaskJumps (k : Nat) (a0 : List Int) : Option (Bool) :=
sel (decide ((a0.length : Int) > 1048576)) (some true) <|
(spec_DrawTaskInstrs k a0).bind fun y1 =>
(impl_TaskInstrs y1.1 y1.2).bind fun y2 =>
(spec_TaskInstrs y1.1 y1.2).bind fun y3 =>
(sel (y2.2 != y3.2) (some true) ((laws_sameInstrs y2.1 y3.1).bind fun y4 => some (!y4)) : Option (Bool)).bind fun b1 =>
sel (b1 || (!y2.2)) ((sel (y2.2 == y3.2) ((laws_sameInstrs y2.1 y3.1).bind fun y5 => some y5) (some false) : Option (Bool)).bind fun b2 =>
some b2) <|
(impl_TaskPlaces y1.1 y1.2).bind fun y6 =>
(iter (laws_FnTaskJumps_b1 y2 y6) 0).bind fun y7 =>
both y7 (fun o3 => some o3) (fun o4 =>
some true)
end Go.Proofs.YtjpbdpfkhdekpaaGreatDoor.N
