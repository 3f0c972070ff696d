/- Printed by a program of mine: what the program's functions compute, as plain Lean functions. Plain functions of my own, of which the plain laws speak. Plain laws of the natural functions' words: repetitions, numbers that do not wrap, what is marked and held. Plain laws of bits: and with a mask, or of numbers that lie apart, words. The encoding of instructions: reference and program encode alike. The fields of an encoded instruction are the instruction's own. The decoding of words: the tables, the kinds, the rows that match. The decoding of words: the fields of each kind. The decoding of words: branches. -/
import Derived.Test.YtcljimkjmklkmaaGreatK1
import Derived.Test.YtcljimkjmklkmaaGreatProg
set_option linter.unusedVariables false
set_option linter.unusedSimpArgs false
set_option maxRecDepth 100000
set_option maxHeartbeats 4000000
namespace Go.Proofs.YtcljimkjmklkmaaGreat.N
open Go.Proofs.YtcljimkjmklkmaaGreat.X
structure L6Rd where
 b : List Int
 p : Int
structure Quad where
 Op : Int
 Dst : Int
 A : Int
 B : Int
 N : Int
def dQuad (x : Quad) : D:=.agg [.int .i64 x.Op,.int .i64 x.Dst,.int .i64 x.A,.int .i64 x.B,.int .i64 x.N]
structure Expr where
 Op : Int
 N : Int
 Args : List Expr
mutual
def dExpr : Expr → D
 | ⟨x0,x1,x2⟩=>.agg [.int .i64 x0,.int .i64 x1,.row 138 3 (dExprs x2)]
def dExprs : List Expr → List D
 | []=>[]
 | x :: r=>dExpr x :: dExprs r
end
theorem dExprs_map : ∀ l,dExprs l = l.map dExpr
 | []=>rfl
 | x :: r=>by rw [dExprs,dExprs_map r,List.map]
theorem eExpr (x : Expr) : dExpr x = .agg [.int .i64 x.Op,.int .i64 x.N,.row 138 3 (x.Args.map dExpr)]:=by
 cases x; simp only [dExpr,dExprs_map]
theorem zExpr (x : Expr) : (dExpr x).sz = 3:=by simp only [eExpr,D.sz,D.szs]
structure Stmt where
 Kind : Int
 Var : Int
 Box : Int
 Expr : Expr
 Body : List Stmt
 Else : List Stmt
mutual
def dStmt : Stmt → D
 | ⟨x0,x1,x2,x3,x4,x5⟩=>.agg [.int .i64 x0,.int .i64 x1,.int .i64 x2,dExpr x3,.row 140 8 (dStmts x4),.row 140 8 (dStmts x5)]
def dStmts : List Stmt → List D
 | []=>[]
 | x :: r=>dStmt x :: dStmts r
end
theorem dStmts_map : ∀ l,dStmts l = l.map dStmt
 | []=>rfl
 | x :: r=>by rw [dStmts,dStmts_map r,List.map]
theorem eStmt (x : Stmt) : dStmt x = .agg [.int .i64 x.Kind,.int .i64 x.Var,.int .i64 x.Box,dExpr x.Expr,.row 140 8 (x.Body.map dStmt),.row 140 8 (x.Else.map dStmt)]:=by
 cases x; simp only [dStmt,dStmts_map]
theorem zStmt (x : Stmt) : (dStmt x).sz = 8:=by simp only [eStmt,D.sz,D.szs,zExpr]
structure Fact where
 Kind : Int
 N : Int
def dFact (x : Fact) : D:=.agg [.int .i64 x.Kind,.int .i64 x.N]
structure Instr where
 Op : Int
 Rd : Int
 Rs : Int
 Rt : Int
 Imm : Int
def dInstr (x : Instr) : D:=.agg [.int .i64 x.Op,.int .i64 x.Rd,.int .i64 x.Rs,.int .i64 x.Rt,.int .i64 x.Imm]
structure Box where
 Room : Int
 Items : List Int
def dBox (x : Box) : D:=.agg [.int .i64 x.Room,.row 3 1 (x.Items.map (D.int .i64))]
structure Machine where
 Regs : List Int
 Pc : Int
 Mem : List Int
def dMachine (x : Machine) : D:=.agg [.row 3 1 (x.Regs.map (D.int .i64)),.int .i64 x.Pc,.row 3 1 (x.Mem.map (D.int .i64))]
structure Squad where
 Harts : List Machine
 Boxes : List Box
 Turn : Int
 Idle : Int
 Out : List Int
structure Outcome where
 Out : List Int
 Items : List (List Int)
 Ended : List Bool
 Rest : Bool
theorem T.f54_1 : fOff Tryz.prog 54 1 = some (1,1,false):=by kernel_rfl
theorem T.t3 : tinfo Tryz.prog 3 = some (false,some (.int .i64 0),1,8):=by kernel_rfl
theorem T.f54_0 : fOff Tryz.prog 54 0 = some (0,1,false):=by kernel_rfl
theorem T.t22 : tinfo Tryz.prog 22 = some (false,some (.slice none 0 0),1,24):=by kernel_rfl
theorem T.u22 : Tryz.prog.underlying 22 = some (.slice 5):=by kernel_rfl
theorem T.t5 : tinfo Tryz.prog 5 = some (false,some (.int .u8 0),1,1):=by kernel_rfl
theorem T.u5 : Tryz.prog.underlying 5 = some (.int .u8):=by kernel_rfl
theorem T.u3 : Tryz.prog.underlying 3 = some (.int .i64):=by kernel_rfl
theorem T.mix : Tryz.prog.follows .mixedOrders = true:=by kernel_rfl
theorem T.u25 : Tryz.prog.underlying 25 = some (.slice 3):=by kernel_rfl
theorem T.t82 : tinfo Tryz.prog 82 = some (true,some (.agg #[.int .i64 0,.int .i64 0,.int .i64 0,.int .i64 0,.int .i64 0]),5,40):=by kernel_rfl
theorem T.s82 : sinfo Tryz.prog 82 = some ([(0,1),(1,1),(2,1),(3,1),(4,1)],[.int .i64 0,.int .i64 0,.int .i64 0,.int .i64 0,.int .i64 0]):=by kernel_rfl
theorem T.u68 : Tryz.prog.underlying 68 = some (.slice 82):=by kernel_rfl
theorem T.u97 : Tryz.prog.underlying 97 = some (.slice 140):=by kernel_rfl
theorem T.t140 : tinfo Tryz.prog 140 = some (true,some (.agg #[.int .i64 0,.int .i64 0,.int .i64 0,.int .i64 0,.int .i64 0,.slice none 0 0,.slice none 0 0,.slice none 0 0]),8,112):=by kernel_rfl
theorem T.f140_4 : fOff Tryz.prog 140 4 = some (6,1,false):=by kernel_rfl
theorem T.t97 : tinfo Tryz.prog 97 = some (false,some (.slice none 0 0),1,24):=by kernel_rfl
theorem T.f140_5 : fOff Tryz.prog 140 5 = some (7,1,false):=by kernel_rfl
theorem T.f140_1 : fOff Tryz.prog 140 1 = some (1,1,false):=by kernel_rfl
theorem T.f140_2 : fOff Tryz.prog 140 2 = some (2,1,false):=by kernel_rfl
theorem T.f138_0 : fOff Tryz.prog 138 0 = some (0,1,false):=by kernel_rfl
theorem T.f138_1 : fOff Tryz.prog 138 1 = some (1,1,false):=by kernel_rfl
theorem T.f138_2 : fOff Tryz.prog 138 2 = some (2,1,false):=by kernel_rfl
theorem T.t136 : tinfo Tryz.prog 136 = some (false,some (.slice none 0 0),1,24):=by kernel_rfl
theorem T.u136 : Tryz.prog.underlying 136 = some (.slice 138):=by kernel_rfl
theorem T.t138 : tinfo Tryz.prog 138 = some (true,some (.agg #[.int .i64 0,.int .i64 0,.slice none 0 0]),3,40):=by kernel_rfl
theorem T.f140_0 : fOff Tryz.prog 140 0 = some (0,1,false):=by kernel_rfl
theorem T.f140_3 : fOff Tryz.prog 140 3 = some (3,3,true):=by kernel_rfl
theorem T.s138 : sinfo Tryz.prog 138 = some ([(0,1),(1,1),(2,1)],[.int .i64 0,.int .i64 0,.slice none 0 0]):=by kernel_rfl
theorem T.s140 : sinfo Tryz.prog 140 = some ([(0,1),(1,1),(2,1),(3,3),(6,1),(7,1)],[.int .i64 0,.int .i64 0,.int .i64 0,.int .i64 0,.int .i64 0,.slice none 0 0,.slice none 0 0,.slice none 0 0]):=by kernel_rfl
theorem T.f82_1 : fOff Tryz.prog 82 1 = some (1,1,false):=by kernel_rfl
theorem T.f82_2 : fOff Tryz.prog 82 2 = some (2,1,false):=by kernel_rfl
theorem T.f82_3 : fOff Tryz.prog 82 3 = some (3,1,false):=by kernel_rfl
theorem T.f82_0 : fOff Tryz.prog 82 0 = some (0,1,false):=by kernel_rfl
theorem T.f82_4 : fOff Tryz.prog 82 4 = some (4,1,false):=by kernel_rfl
theorem T.u158 : Tryz.prog.underlying 158 = some (.slice 177):=by kernel_rfl
theorem T.t177 : tinfo Tryz.prog 177 = some (true,some (.agg #[.int .i64 0,.int .i64 0]),2,16):=by kernel_rfl
theorem T.f177_0 : fOff Tryz.prog 177 0 = some (0,1,false):=by kernel_rfl
theorem T.f177_1 : fOff Tryz.prog 177 1 = some (1,1,false):=by kernel_rfl
theorem T.s177 : sinfo Tryz.prog 177 = some ([(0,1),(1,1)],[.int .i64 0,.int .i64 0]):=by kernel_rfl
theorem T.e177 : einfo Tryz.prog 177 = some [(0,.int .i64),(1,.int .i64)]:=by kernel_rfl
theorem T.u155 : Tryz.prog.underlying 155 = some (.slice 158):=by kernel_rfl
theorem T.t158 : tinfo Tryz.prog 158 = some (false,some (.slice none 0 0),1,24):=by kernel_rfl
theorem T.u29 : Tryz.prog.underlying 29 = some (.slice 25):=by kernel_rfl
theorem T.t25 : tinfo Tryz.prog 25 = some (false,some (.slice none 0 0),1,24):=by kernel_rfl
theorem T.u30 : Tryz.prog.underlying 30 = some (.slice 4):=by kernel_rfl
theorem T.t4 : tinfo Tryz.prog 4 = some (false,some (.bool false),1,1):=by kernel_rfl
theorem T.u162 : Tryz.prog.underlying 162 = some (.slice 30):=by kernel_rfl
theorem T.t30 : tinfo Tryz.prog 30 = some (false,some (.slice none 0 0),1,24):=by kernel_rfl
theorem T.u4 : Tryz.prog.underlying 4 = some (.bool):=by kernel_rfl
theorem T.u64 : Tryz.prog.underlying 64 = some (.slice 68):=by kernel_rfl
theorem T.t68 : tinfo Tryz.prog 68 = some (false,some (.slice none 0 0),1,24):=by kernel_rfl
theorem T.s105 : sinfo Tryz.prog 105 = some ([(0,1),(1,1),(2,1),(3,1),(4,1)],[.int .i64 0,.int .i64 0,.int .i64 0,.int .i64 0,.int .i64 0]):=by kernel_rfl
theorem T.u66 : Tryz.prog.underlying 66 = some (.slice 105):=by kernel_rfl
theorem T.t105 : tinfo Tryz.prog 105 = some (true,some (.agg #[.int .i64 0,.int .i64 0,.int .i64 0,.int .i64 0,.int .i64 0]),5,40):=by kernel_rfl
theorem T.u47 : Tryz.prog.underlying 47 = some (.slice 66):=by kernel_rfl
theorem T.t66 : tinfo Tryz.prog 66 = some (false,some (.slice none 0 0),1,24):=by kernel_rfl
theorem T.u24 : Tryz.prog.underlying 24 = some (.slice 61):=by kernel_rfl
theorem T.t61 : tinfo Tryz.prog 61 = some (true,some (.agg #[.int .i64 0,.slice none 0 0]),2,32):=by kernel_rfl
theorem T.s61 : sinfo Tryz.prog 61 = some ([(0,1),(1,1)],[.int .i64 0,.slice none 0 0]):=by kernel_rfl
theorem T.f105_1 : fOff Tryz.prog 105 1 = some (1,1,false):=by kernel_rfl
theorem T.f105_2 : fOff Tryz.prog 105 2 = some (2,1,false):=by kernel_rfl
theorem T.f105_3 : fOff Tryz.prog 105 3 = some (3,1,false):=by kernel_rfl
theorem T.f105_0 : fOff Tryz.prog 105 0 = some (0,1,false):=by kernel_rfl
theorem T.f105_4 : fOff Tryz.prog 105 4 = some (4,1,false):=by kernel_rfl
theorem T.t36 : tinfo Tryz.prog 36 = some (true,some (.agg #[.slice none 0 0,.int .i64 0,.slice none 0 0]),3,56):=by kernel_rfl
theorem T.s36 : sinfo Tryz.prog 36 = some ([(0,1),(1,1),(2,1)],[.slice none 0 0,.int .i64 0,.slice none 0 0]):=by kernel_rfl
theorem T.f36_0 : fOff Tryz.prog 36 0 = some (0,1,false):=by kernel_rfl
theorem T.f36_2 : fOff Tryz.prog 36 2 = some (2,1,false):=by kernel_rfl
theorem T.t27 : tinfo Tryz.prog 27 = some (true,some (.agg #[.slice none 0 0,.slice none 0 0,.int .i64 0,.int .i64 0,.slice none 0 0]),5,88):=by kernel_rfl
theorem T.s27 : sinfo Tryz.prog 27 = some ([(0,1),(1,1),(2,1),(3,1),(4,1)],[.slice none 0 0,.slice none 0 0,.int .i64 0,.int .i64 0,.slice none 0 0]):=by kernel_rfl
theorem T.u23 : Tryz.prog.underlying 23 = some (.slice 36):=by kernel_rfl
theorem T.f27_0 : fOff Tryz.prog 27 0 = some (0,1,false):=by kernel_rfl
theorem T.t23 : tinfo Tryz.prog 23 = some (false,some (.slice none 0 0),1,24):=by kernel_rfl
theorem T.f61_0 : fOff Tryz.prog 61 0 = some (0,1,false):=by kernel_rfl
theorem T.f61_1 : fOff Tryz.prog 61 1 = some (1,1,false):=by kernel_rfl
theorem T.f36_1 : fOff Tryz.prog 36 1 = some (1,1,false):=by kernel_rfl
theorem T.f27_1 : fOff Tryz.prog 27 1 = some (1,1,false):=by kernel_rfl
theorem T.t24 : tinfo Tryz.prog 24 = some (false,some (.slice none 0 0),1,24):=by kernel_rfl
theorem T.f27_2 : fOff Tryz.prog 27 2 = some (2,1,false):=by kernel_rfl
theorem T.f27_3 : fOff Tryz.prog 27 3 = some (3,1,false):=by kernel_rfl
theorem T.f27_4 : fOff Tryz.prog 27 4 = some (4,1,false):=by kernel_rfl
theorem T.s54 : sinfo Tryz.prog 54 = some ([(0,1),(1,1)],[.slice none 0 0,.int .i64 0]):=by kernel_rfl
theorem T.t32 : tinfo Tryz.prog 32 = some (true,some (.agg #[.slice none 0 0,.slice none 0 0,.slice none 0 0,.bool false]),4,80):=by kernel_rfl
theorem T.s32 : sinfo Tryz.prog 32 = some ([(0,1),(1,1),(2,1),(3,1)],[.slice none 0 0,.slice none 0 0,.slice none 0 0,.bool false]):=by kernel_rfl
theorem T.f32_1 : fOff Tryz.prog 32 1 = some (1,1,false):=by kernel_rfl
theorem T.t29 : tinfo Tryz.prog 29 = some (false,some (.slice none 0 0),1,24):=by kernel_rfl
theorem T.f32_2 : fOff Tryz.prog 32 2 = some (2,1,false):=by kernel_rfl
theorem T.f32_0 : fOff Tryz.prog 32 0 = some (0,1,false):=by kernel_rfl
theorem T.f32_3 : fOff Tryz.prog 32 3 = some (3,1,false):=by kernel_rfl
def f01 (a0 : L6Rd) (a1 : Int) : Option (Int × Int):=
sel ((decide (a1 < 1)) || ((a0.b.length : Int) == 0)) (some (0,w64 (a0.p + 1))) <|
sel (decide ((w64 ((w64 (a0.p + 1)) - 1)) < (a0.b.length : Int))) ((nth a0.b (w64 ((w64 (a0.p + 1)) - 1))).bind fun x1 =>
(remO (w64 (x1)) a1).bind fun d1 =>
some (d1,w64 (a0.p + 1))) <|
(remO (w64 ((w64 (a0.p + 1)) - 1)) (a0.b.length : Int)).bind fun d2 =>
(nth a0.b d2).bind fun x2 =>
(remO (w64 ((w64 ((w64 ((w64 (a0.p + 1)) - 1)) * 7)) + 3)) (a0.b.length : Int)).bind fun d3 =>
(nth a0.b d3).bind fun x3 =>
(quoO .i64 (w64 ((w64 (a0.p + 1)) - 1)) (a0.b.length : Int)).bind fun d4 =>
(remO (bitsI .xor .i64 (w64 ((w64 ((w64 ((w64 ((w64 (x2)) * 131)) + (w64 ((w64 (x3)) * 1117)))) + (w64 ((w64 ((w64 (a0.p + 1)) - 1)) * 29)))) + (w64 (d4 * 53)))) (w64 (Int.tdiv (w64 ((w64 ((w64 ((w64 ((w64 (x2)) * 131)) + (w64 ((w64 (x3)) * 1117)))) + (w64 ((w64 ((w64 (a0.p + 1)) - 1)) * 29)))) + (w64 (d4 * 53)))) 64))) a1).bind fun d5 =>
some (d5,w64 (a0.p + 1))
def f19 (a0 : L6Rd) : Option (Int × Int):=
(f01 (L6Rd.mk a0.b a0.p) 6).bind fun y1 =>
some (y1.1,y1.2)
def f0n (a0 : Int) : Option (Int):=
sel (decide ((Int.tmod a0 4294967296) > 2147483647)) (some (w64 ((Int.tmod a0 4294967296) - 4294967296))) <|
sel (decide ((Int.tmod a0 4294967296) < (-2147483648))) (some (w64 ((Int.tmod a0 4294967296) + 4294967296))) <|
some (Int.tmod a0 4294967296)
def f7u (a0 : L6Rd) : Option (Int × Int):=
(f01 (L6Rd.mk a0.b a0.p) 6).bind fun y1 =>
sel (y1.1 == 0) ((f01 (L6Rd.mk a0.b y1.2) 8).bind fun y2 =>
(nth [(-2147483648),2147483647,(-1),0,1,(-2147483647),65536,(-65536)] y2.1).bind fun x1 =>
some (x1,y2.2)) <|
sel (y1.1 == 1) ((f01 (L6Rd.mk a0.b y1.2) 256).bind fun y3 =>
(f01 (L6Rd.mk a0.b y3.2) 256).bind fun y4 =>
(f01 (L6Rd.mk a0.b y4.2) 256).bind fun y5 =>
(f01 (L6Rd.mk a0.b y5.2) 200).bind fun y6 =>
(f0n (w64 ((w64 ((w64 ((w64 (y3.1 * 65536)) + (w64 (y4.1 * 256)))) + y5.1)) * (w64 (1 + y6.1))))).bind fun y7 =>
some (y7,y6.2)) <|
sel (y1.1 == 2) ((f01 (L6Rd.mk a0.b y1.2) 200).bind fun y8 =>
some (w64 (0 - y8.1),y8.2)) <|
(f01 (L6Rd.mk a0.b y1.2) 20).bind fun y9 =>
some (y9.1,y9.2)
def f8i (a0 : L6Rd) : Option (Int × Int):=
(f01 (L6Rd.mk a0.b a0.p) 12).bind fun y1 =>
some (w64 (1 + y1.1),y1.2)
def f7w (a0 : L6Rd) (a1 : Int) : Option (Quad × Int):=
(f01 (L6Rd.mk a0.b a0.p) 12).bind fun y1 =>
(sel (y1.1 == 0) (some (y1.1 == 0)) <|
some (y1.1 == 1) : Option (Bool)).bind fun y2 =>
sel y2 ((f19 (L6Rd.mk a0.b y1.2)).bind fun y3 =>
(f7u (L6Rd.mk a0.b y3.2)).bind fun y4 =>
(f01 (L6Rd.mk a0.b y4.2) 4).bind fun y5 =>
(nth [0,1,2,y4.1] y5.1).bind fun x1 =>
some ((Quad.mk 1 y3.1 0 0 x1),y5.2)) <|
(sel (y1.1 == 2) (some (y1.1 == 2)) <|
some (y1.1 == 3) : Option (Bool)).bind fun y6 =>
sel y6 ((f19 (L6Rd.mk a0.b y1.2)).bind fun y7 =>
(f19 (L6Rd.mk a0.b y7.2)).bind fun y8 =>
some ((Quad.mk 2 y7.1 y8.1 0 0),y8.2)) <|
(sel (y1.1 == 4) (some (y1.1 == 4)) <|
sel (y1.1 == 5) (some (y1.1 == 5)) <|
some (y1.1 == 6) : Option (Bool)).bind fun y9 =>
sel y9 ((f19 (L6Rd.mk a0.b y1.2)).bind fun y10 =>
(f19 (L6Rd.mk a0.b y10.2)).bind fun y11 =>
(f19 (L6Rd.mk a0.b y11.2)).bind fun y12 =>
(f8i (L6Rd.mk a0.b y12.2)).bind fun y13 =>
some ((Quad.mk 3 y10.1 y11.1 y12.1 y13.1),y13.2)) <|
sel (y1.1 == 7) ((f01 (L6Rd.mk a0.b y1.2) a1).bind fun y14 =>
some ((Quad.mk 4 0 0 0 y14.1),y14.2)) <|
sel (y1.1 == 8) ((f19 (L6Rd.mk a0.b y1.2)).bind fun y15 =>
(f01 (L6Rd.mk a0.b y15.2) a1).bind fun y16 =>
some ((Quad.mk 5 0 y15.1 0 y16.1),y16.2)) <|
sel (y1.1 == 9) ((f19 (L6Rd.mk a0.b y1.2)).bind fun y17 =>
(f01 (L6Rd.mk a0.b y17.2) 2).bind fun y18 =>
some ((Quad.mk 6 0 y17.1 0 y18.1),y18.2)) <|
sel (y1.1 == 10) ((f19 (L6Rd.mk a0.b y1.2)).bind fun y19 =>
(f01 (L6Rd.mk a0.b y19.2) 2).bind fun y20 =>
some ((Quad.mk 7 y19.1 0 0 y20.1),y20.2)) <|
(f01 (L6Rd.mk a0.b y1.2) 4).bind fun y21 =>
sel (y21.1 == 0) (some ((Quad.mk 8 0 0 0 0),y21.2)) <|
(f19 (L6Rd.mk a0.b y21.2)).bind fun y22 =>
some ((Quad.mk 9 0 y22.1 0 0),y22.2)
def f8u (a0 : L6Rd) (y1 : Int × Int) (s1 : (List Quad) × Int × Int) : Option (((List Quad) × Int × Int) ⊕ ((List Quad) × Int)):=
sel (decide ((w64 (s1.2.1 + 1)) < (w64 (1 + y1.1)))) ((f7w (L6Rd.mk a0.b s1.2.2) (w64 (1 + y1.1))).bind fun y5 =>
(app 40 s1.1 [y5.1]).bind fun r1 =>
some (.inl (r1,w64 (s1.2.1 + 1),y5.2))) <|
some (.inr (s1.1,s1.2.2))
noncomputable def f4a (a0 : L6Rd) : Option ((List Quad) × Int):=
(f01 (L6Rd.mk a0.b a0.p) 14).bind fun y1 =>
(iter (f8u a0 y1) ([],0,y1.2)).bind fun y2 =>
(f01 (L6Rd.mk a0.b y2.2) 3).bind fun y6 =>
sel (y6.1 == 0) ((f01 (L6Rd.mk a0.b y6.2) (w64 (1 + y1.1))).bind fun y7 =>
(app 40 y2.1 [(Quad.mk 4 0 0 0 y7.1)]).bind fun r2 =>
some (r2,y7.2)) <|
(app 40 y2.1 [(Quad.mk 10 0 0 0 0)]).bind fun r3 =>
some (r3,y6.2)
def f6c (a0 : List Stmt) (f2p : List Stmt → Option (Int)) (s1 : Int × Int) : Option ((Int × Int) ⊕ Int):=
sel (decide (s1.2 < (a0.length : Int))) ((nth a0 s1.2).bind fun x1 =>
(nth a0 s1.2).bind fun x2 =>
(f2p x1.Body).bind fun y4 =>
(f2p x2.Else).bind fun y5 =>
some (.inl (w64 ((w64 ((w64 (s1.1 + 1)) + y4)) + y5),w64 (s1.2 + 1)))) <|
some (.inr s1.1)
noncomputable def f2o (k : Nat) (f2p : List Stmt → Option (Int)) (a0 : List Stmt) : Option (Int):=
(iter (f6c a0 f2p) (0,0)).bind fun y1 =>
some y1
noncomputable def fao : Nat → (List Stmt → Option (Int))
 | 0=>((fun _=>none))
 | k + 1=>(f2o k (fao k))
noncomputable def f2c (k : Nat) : List Stmt → Option (Int):=(fao k)
def f02 (a0 : Int) (a1 : Int) (a2 : Int) : Option (Bool):=
some ((decide (a0 ≥ a1)) && (decide (a0 ≤ a2)))
def f36 (a0 : Stmt) (a1 : Bool) : Option (Bool):=
sel a1 ((f02 a0.Var 0 3).bind fun y1 =>
some y1) <|
some (a0.Var == 0)
def f34 (a0 : Stmt) (a1 : Bool) : Option (Bool):=
sel a1 ((f02 a0.Box 0 2).bind fun y1 =>
some y1) <|
some (a0.Box == 0)
def f3a (a0 : Int) : Option (Bool):=
(f02 a0 1 12).bind fun y1 =>
some y1
def f8y (k : Nat) (f91 : Expr → Int → Option (Bool)) (a0 : Expr) (a1 : Int) : Option (Bool):=
sel (decide (a1 < 1)) (some false) <|
sel (a0.Op == 0) ((f02 a0.N 0 99999).bind fun y1 =>
some (y1 && ((a0.Args.length : Int) == 0))) <|
sel (a0.Op == 13) ((f02 a0.N 0 3).bind fun y2 =>
some (y2 && ((a0.Args.length : Int) == 0))) <|
(f3a a0.Op).bind fun y3 =>
(sel ((y3 && (a0.N == 0)) && ((a0.Args.length : Int) == 2)) ((nth a0.Args 0).bind fun x1=>(f91 (Expr.mk x1.Op x1.N x1.Args) (w64 (a1 - 1))).bind fun y4=>some y4) (some false) : Option (Bool)).bind fun b1 =>
(sel b1 ((nth a0.Args 1).bind fun x2=>(f91 (Expr.mk x2.Op x2.N x2.Args) (w64 (a1 - 1))).bind fun y5=>some y5) (some false) : Option (Bool)).bind fun b2 =>
some b2
noncomputable def fbw : Nat → (Expr → Int → Option (Bool))
 | 0=>((fun _ _=>none))
 | k + 1=>(f8y k (fbw k))
noncomputable def fal (k : Nat) : Expr → Int → Option (Bool):=(fbw k)
noncomputable def f1s (k : Nat) (a0 : Expr) : Option (Bool):=
(fal k (Expr.mk a0.Op a0.N a0.Args) 5).bind fun y1 =>
some y1
def f4v (a0 : Expr) : Option (Bool):=
some (((a0.Op == 0) && (a0.N == 0)) && ((a0.Args.length : Int) == 0))
noncomputable def f4b (k : Nat) (a0 : Stmt) : Option (Bool):=
sel ((decide ((a0.Body.length : Int) > 0)) || (decide ((a0.Else.length : Int) > 0))) (some false) <|
sel (a0.Kind == 1) ((f36 (Stmt.mk a0.Kind a0.Var a0.Box (Expr.mk a0.Expr.Op a0.Expr.N a0.Expr.Args) a0.Body a0.Else) true).bind fun y1 =>
(sel y1 ((f34 (Stmt.mk a0.Kind a0.Var a0.Box (Expr.mk a0.Expr.Op a0.Expr.N a0.Expr.Args) a0.Body a0.Else) false).bind fun y2=>some y2) (some false) : Option (Bool)).bind fun b1 =>
(sel b1 ((f1s k (Expr.mk a0.Expr.Op a0.Expr.N a0.Expr.Args)).bind fun y3=>some y3) (some false) : Option (Bool)).bind fun b2 =>
some b2) <|
sel (a0.Kind == 4) ((f36 (Stmt.mk a0.Kind a0.Var a0.Box (Expr.mk a0.Expr.Op a0.Expr.N a0.Expr.Args) a0.Body a0.Else) false).bind fun y4 =>
(sel y4 ((f34 (Stmt.mk a0.Kind a0.Var a0.Box (Expr.mk a0.Expr.Op a0.Expr.N a0.Expr.Args) a0.Body a0.Else) true).bind fun y5=>some y5) (some false) : Option (Bool)).bind fun b3 =>
(sel b3 ((f1s k (Expr.mk a0.Expr.Op a0.Expr.N a0.Expr.Args)).bind fun y6=>some y6) (some false) : Option (Bool)).bind fun b4 =>
some b4) <|
sel (a0.Kind == 5) ((f36 (Stmt.mk a0.Kind a0.Var a0.Box (Expr.mk a0.Expr.Op a0.Expr.N a0.Expr.Args) a0.Body a0.Else) true).bind fun y7 =>
(sel y7 ((f34 (Stmt.mk a0.Kind a0.Var a0.Box (Expr.mk a0.Expr.Op a0.Expr.N a0.Expr.Args) a0.Body a0.Else) true).bind fun y8=>some y8) (some false) : Option (Bool)).bind fun b5 =>
(sel b5 ((f4v (Expr.mk a0.Expr.Op a0.Expr.N a0.Expr.Args)).bind fun y9=>some y9) (some false) : Option (Bool)).bind fun b6 =>
some b6) <|
sel (a0.Kind == 6) ((f36 (Stmt.mk a0.Kind a0.Var a0.Box (Expr.mk a0.Expr.Op a0.Expr.N a0.Expr.Args) a0.Body a0.Else) false).bind fun y10 =>
(sel y10 ((f34 (Stmt.mk a0.Kind a0.Var a0.Box (Expr.mk a0.Expr.Op a0.Expr.N a0.Expr.Args) a0.Body a0.Else) false).bind fun y11=>some y11) (some false) : Option (Bool)).bind fun b7 =>
(sel b7 ((f4v (Expr.mk a0.Expr.Op a0.Expr.N a0.Expr.Args)).bind fun y12=>some y12) (some false) : Option (Bool)).bind fun b8 =>
some b8) <|
sel (a0.Kind == 7) ((f36 (Stmt.mk a0.Kind a0.Var a0.Box (Expr.mk a0.Expr.Op a0.Expr.N a0.Expr.Args) a0.Body a0.Else) false).bind fun y13 =>
(sel y13 ((f34 (Stmt.mk a0.Kind a0.Var a0.Box (Expr.mk a0.Expr.Op a0.Expr.N a0.Expr.Args) a0.Body a0.Else) false).bind fun y14=>some y14) (some false) : Option (Bool)).bind fun b9 =>
(sel b9 ((f1s k (Expr.mk a0.Expr.Op a0.Expr.N a0.Expr.Args)).bind fun y15=>some y15) (some false) : Option (Bool)).bind fun b10 =>
some b10) <|
some false
def f8m (a0 : List Stmt) (a1 : Int) (f23 : Stmt → Int → Option (Bool)) (s1 : Int) : Option (Int ⊕ (Bool ⊕ Unit)):=
sel (decide (s1 < (a0.length : Int))) ((nth a0 s1).bind fun x1 =>
(f23 (Stmt.mk x1.Kind x1.Var x1.Box (Expr.mk x1.Expr.Op x1.Expr.N x1.Expr.Args) x1.Body x1.Else) a1).bind fun y4 =>
sel (!y4) (some (.inr (.inl false))) <|
some (.inl (w64 (s1 + 1)))) <|
some (.inr (.inr ()))
noncomputable def f4g (k : Nat) (f1f : List Stmt → Int → Option (Bool)) (f23 : Stmt → Int → Option (Bool)) (a0 : List Stmt) (a1 : Int) : Option (Bool):=
(iter (f8m a0 a1 f23) 0).bind fun y1 =>
both y1 (fun o3=>some o3) (fun o4 =>
some true)
noncomputable def f7x (k : Nat) (f1f : List Stmt → Int → Option (Bool)) (f23 : Stmt → Int → Option (Bool)) (a0 : Stmt) (a1 : Int) : Option (Bool):=
sel ((a0.Kind != 2) && (a0.Kind != 3)) ((f4b k (Stmt.mk a0.Kind a0.Var a0.Box (Expr.mk a0.Expr.Op a0.Expr.N a0.Expr.Args) a0.Body a0.Else)).bind fun y1 =>
some y1) <|
sel ((decide (a1 < 1)) || ((a0.Kind == 3) && (decide ((a0.Else.length : Int) > 0)))) (some false) <|
(f36 (Stmt.mk a0.Kind a0.Var a0.Box (Expr.mk a0.Expr.Op a0.Expr.N a0.Expr.Args) a0.Body a0.Else) false).bind fun y2 =>
(sel y2 ((f34 (Stmt.mk a0.Kind a0.Var a0.Box (Expr.mk a0.Expr.Op a0.Expr.N a0.Expr.Args) a0.Body a0.Else) false).bind fun y3=>some y3) (some false) : Option (Bool)).bind fun b1 =>
(sel b1 ((f1s k (Expr.mk a0.Expr.Op a0.Expr.N a0.Expr.Args)).bind fun y4=>some y4) (some false) : Option (Bool)).bind fun b2 =>
(sel b2 ((f1f a0.Body (w64 (a1 - 1))).bind fun y5=>some y5) (some false) : Option (Bool)).bind fun b3 =>
(sel b3 ((f1f a0.Else (w64 (a1 - 1))).bind fun y6=>some y6) (some false) : Option (Bool)).bind fun b4 =>
some b4
noncomputable def f2f : Nat → (List Stmt → Int → Option (Bool)) × (Stmt → Int → Option (Bool))
 | 0=>((fun _ _=>none),(fun _ _=>none))
 | k + 1=>(f4g k (f2f k).1 (f2f k).2,f7x k (f2f k).1 (f2f k).2)
noncomputable def f1l (k : Nat) : List Stmt → Int → Option (Bool):=(f2f k).1
noncomputable def fbp (k : Nat) : Stmt → Int → Option (Bool):=(f2f k).2
noncomputable def f58 (k : Nat) (a0 : List Stmt) : Option (Bool):=
(f1l k a0 3).bind fun y1 =>
(sel y1 ((f2c k a0).bind fun y2=>some (decide (y2 ≤ 16))) (some false) : Option (Bool)).bind fun b1 =>
some b1
def f63 (k : Nat) (f67 : Expr → Int → Option ((List Quad))) (a0 : Expr) (a1 : Int) : Option ((List Quad)):=
sel (a0.Op == 0) (some [(Quad.mk 1 a1 0 0 a0.N)]) <|
sel (a0.Op == 13) (some [(Quad.mk 2 a1 a0.N 0 0)]) <|
(nth a0.Args 0).bind fun x1 =>
(nth a0.Args 1).bind fun x2 =>
(f67 (Expr.mk x1.Op x1.N x1.Args) a1).bind fun y1 =>
(f67 (Expr.mk x2.Op x2.N x2.Args) (w64 (a1 + 1))).bind fun y2 =>
(app 40 y1 y2).bind fun r1 =>
(app 40 r1 [(Quad.mk 3 a1 a1 (w64 (a1 + 1)) a0.Op)]).bind fun r2 =>
some r2
noncomputable def faw : Nat → (Expr → Int → Option ((List Quad)))
 | 0=>((fun _ _=>none))
 | k + 1=>(f63 k (faw k))
noncomputable def f21 (k : Nat) : Expr → Int → Option ((List Quad)):=(faw k)
def f9z (a0 : List Stmt) (a1 : Int) (f0l : Stmt → Int → Option ((List Quad))) (s1 : (List Quad) × Int) : Option (((List Quad) × Int) ⊕ ((List Quad))):=
sel (decide (s1.2 < (a0.length : Int))) ((nth a0 s1.2).bind fun x1 =>
(f0l (Stmt.mk x1.Kind x1.Var x1.Box (Expr.mk x1.Expr.Op x1.Expr.N x1.Expr.Args) x1.Body x1.Else) (w64 (a1 + (s1.1.length : Int)))).bind fun y4 =>
(app 40 s1.1 y4).bind fun r1 =>
some (.inl (r1,w64 (s1.2 + 1)))) <|
some (.inr s1.1)
noncomputable def f5i (k : Nat) (f0j : List Stmt → Int → Option ((List Quad))) (f0l : Stmt → Int → Option ((List Quad))) (f0w : Stmt → Int → Option ((List Quad))) (f0m : Stmt → Int → Option ((List Quad))) (a0 : List Stmt) (a1 : Int) : Option ((List Quad)):=
(iter (f9z a0 a1 f0l) ([],0)).bind fun y1 =>
some y1
noncomputable def f5j (k : Nat) (f0j : List Stmt → Int → Option ((List Quad))) (f0l : Stmt → Int → Option ((List Quad))) (f0w : Stmt → Int → Option ((List Quad))) (f0m : Stmt → Int → Option ((List Quad))) (a0 : Stmt) (a1 : Int) : Option ((List Quad)):=
(f21 k (Expr.mk a0.Expr.Op a0.Expr.N a0.Expr.Args) 4).bind fun y1 =>
sel (a0.Kind == 2) ((f0w (Stmt.mk a0.Kind a0.Var a0.Box (Expr.mk a0.Expr.Op a0.Expr.N a0.Expr.Args) a0.Body a0.Else) a1).bind fun y2 =>
some y2) <|
sel (a0.Kind == 3) ((f0m (Stmt.mk a0.Kind a0.Var a0.Box (Expr.mk a0.Expr.Op a0.Expr.N a0.Expr.Args) a0.Body a0.Else) a1).bind fun y3 =>
some y3) <|
sel (a0.Kind == 1) ((app 40 y1 [(Quad.mk 2 a0.Var 4 0 0)]).bind fun r1 =>
some r1) <|
sel (a0.Kind == 4) ((app 40 y1 [(Quad.mk 6 0 4 0 a0.Box)]).bind fun r2 =>
some r2) <|
sel (a0.Kind == 7) ((app 40 y1 [(Quad.mk 9 0 4 0 0)]).bind fun r3 =>
some r3) <|
sel (a0.Kind == 5) (some [(Quad.mk 7 a0.Var 0 0 a0.Box)]) <|
some [(Quad.mk 8 0 0 0 0)]
noncomputable def f81 (k : Nat) (f0j : List Stmt → Int → Option ((List Quad))) (f0l : Stmt → Int → Option ((List Quad))) (f0w : Stmt → Int → Option ((List Quad))) (f0m : Stmt → Int → Option ((List Quad))) (a0 : Stmt) (a1 : Int) : Option ((List Quad)):=
(f21 k (Expr.mk a0.Expr.Op a0.Expr.N a0.Expr.Args) 4).bind fun y1 =>
(f0j a0.Body (w64 ((w64 (a1 + (y1.length : Int))) + 1))).bind fun y2 =>
sel ((a0.Else.length : Int) == 0) ((app 40 y1 [(Quad.mk 5 0 4 0 (w64 ((w64 ((w64 (a1 + (y1.length : Int))) + 1)) + (y2.length : Int))))]).bind fun r1 =>
(app 40 r1 y2).bind fun r2 =>
some r2) <|
(f0j a0.Else (w64 ((w64 ((w64 ((w64 (a1 + (y1.length : Int))) + 1)) + (y2.length : Int))) + 1))).bind fun y3 =>
(app 40 y1 [(Quad.mk 5 0 4 0 (w64 ((w64 ((w64 ((w64 (a1 + (y1.length : Int))) + 1)) + (y2.length : Int))) + 1)))]).bind fun r3 =>
(app 40 r3 y2).bind fun r4 =>
(app 40 r4 [(Quad.mk 4 0 0 0 (w64 ((w64 ((w64 ((w64 ((w64 (a1 + (y1.length : Int))) + 1)) + (y2.length : Int))) + 1)) + (y3.length : Int))))]).bind fun r5 =>
(app 40 r5 y3).bind fun r6 =>
some r6
noncomputable def f52 (k : Nat) (f0j : List Stmt → Int → Option ((List Quad))) (f0l : Stmt → Int → Option ((List Quad))) (f0w : Stmt → Int → Option ((List Quad))) (f0m : Stmt → Int → Option ((List Quad))) (a0 : Stmt) (a1 : Int) : Option ((List Quad)):=
(f21 k (Expr.mk a0.Expr.Op a0.Expr.N a0.Expr.Args) 4).bind fun y1 =>
(f0j a0.Body (w64 ((w64 (a1 + (y1.length : Int))) + 1))).bind fun y2 =>
(app 40 y1 [(Quad.mk 5 0 4 0 (w64 ((w64 ((w64 ((w64 (a1 + (y1.length : Int))) + 1)) + (y2.length : Int))) + 1)))]).bind fun r1 =>
(app 40 r1 y2).bind fun r2 =>
(app 40 r2 [(Quad.mk 4 0 0 0 a1)]).bind fun r3 =>
some r3
noncomputable def f0d : Nat → (List Stmt → Int → Option ((List Quad))) × (Stmt → Int → Option ((List Quad))) × (Stmt → Int → Option ((List Quad))) × (Stmt → Int → Option ((List Quad)))
 | 0=>((fun _ _=>none),(fun _ _=>none),(fun _ _=>none),(fun _ _=>none))
 | k + 1=>(f5i k (f0d k).1 (f0d k).2.1 (f0d k).2.2.1 (f0d k).2.2.2,f5j k (f0d k).1 (f0d k).2.1 (f0d k).2.2.1 (f0d k).2.2.2,f81 k (f0d k).1 (f0d k).2.1 (f0d k).2.2.1 (f0d k).2.2.2,f52 k (f0d k).1 (f0d k).2.1 (f0d k).2.2.1 (f0d k).2.2.2)
noncomputable def f3b (k : Nat) : List Stmt → Int → Option ((List Quad)):=(f0d k).1
noncomputable def f5u (k : Nat) : Stmt → Int → Option ((List Quad)):=(f0d k).2.1
noncomputable def f9w (k : Nat) : Stmt → Int → Option ((List Quad)):=(f0d k).2.2.1
noncomputable def f7b (k : Nat) : Stmt → Int → Option ((List Quad)):=(f0d k).2.2.2
noncomputable def f4h (k : Nat) (a0 : List Stmt) : Option ((List Quad) × Bool):=
(f58 k a0).bind fun y1 =>
sel (!y1) (some ([],false)) <|
(f3b k a0 0).bind fun y2 =>
(app 40 y2 [(Quad.mk 10 0 0 0 0)]).bind fun r1 =>
some (r1,true)
def f7e (a0 : Int) (a1 : Expr) (a2 : Expr) : Option (Expr):=
some (Expr.mk a0 0 [(Expr.mk a1.Op a1.N a1.Args),(Expr.mk a2.Op a2.N a2.Args)])
def f24 (a0 : Int) (a1 : Int) : Option (Expr):=
some (Expr.mk a0 a1 [])
def f5k (a0 : L6Rd) : Option (Expr × Int):=
(f01 (L6Rd.mk a0.b a0.p) 4).bind fun y1 =>
sel (y1.1 == 0) ((f01 (L6Rd.mk a0.b y1.2) 4).bind fun y2 =>
(f24 0 y2.1).bind fun y3 =>
some ((Expr.mk y3.Op y3.N y3.Args),y2.2)) <|
sel (y1.1 == 1) ((f01 (L6Rd.mk a0.b y1.2) 8).bind fun y4 =>
(nth [5,31,32,100,2047,2048,65536,99999] y4.1).bind fun x1 =>
(f24 0 x1).bind fun y5 =>
some ((Expr.mk y5.Op y5.N y5.Args),y4.2)) <|
(f01 (L6Rd.mk a0.b y1.2) 4).bind fun y6 =>
(f24 13 y6.1).bind fun y7 =>
some ((Expr.mk y7.Op y7.N y7.Args),y6.2)
def f5w (k : Nat) (f5r : L6Rd → Int → Option (Expr × Int)) (a0 : L6Rd) (a1 : Int) : Option (Expr × Int):=
(sel (decide (a1 < 2)) (some (true,a0.p)) ((f01 (L6Rd.mk a0.b a0.p) 3).bind fun y1=>some (y1.1 == 0,y1.2)) : Option (Bool × Int)).bind fun b1 =>
sel b1.1 ((f5k (L6Rd.mk a0.b b1.2)).bind fun y2 =>
some ((Expr.mk y2.1.Op y2.1.N y2.1.Args),y2.2)) <|
(f8i (L6Rd.mk a0.b b1.2)).bind fun y3 =>
(f5r (L6Rd.mk a0.b y3.2) (w64 (a1 - 1))).bind fun y4 =>
(f5r (L6Rd.mk a0.b y4.2) (w64 (a1 - 1))).bind fun y5 =>
(f7e y3.1 (Expr.mk y4.1.Op y4.1.N y4.1.Args) (Expr.mk y5.1.Op y5.1.N y5.1.Args)).bind fun y6 =>
some ((Expr.mk y6.Op y6.N y6.Args),y5.2)
noncomputable def fb3 : Nat → (L6Rd → Int → Option (Expr × Int))
 | 0=>((fun _ _=>none))
 | k + 1=>(f5w k (fb3 k))
noncomputable def f2j (k : Nat) : L6Rd → Int → Option (Expr × Int):=(fb3 k)
noncomputable def f7d (k : Nat) (a0 : L6Rd) : Option (Stmt × Int):=
(f01 (L6Rd.mk a0.b a0.p) 3).bind fun y1 =>
(f01 (L6Rd.mk a0.b y1.2) 3).bind fun y2 =>
(f2j k (L6Rd.mk a0.b y2.2) (w64 (1 + y2.1))).bind fun y3 =>
some ((Stmt.mk 1 y1.1 0 (Expr.mk y3.1.Op y3.1.N y3.1.Args) [] []),y3.2)
noncomputable def f82 (k : Nat) (a0 : L6Rd) (a1 : Int) : Option (Stmt × Int):=
sel (decide (a1 < 1)) ((f7d k (L6Rd.mk a0.b a0.p)).bind fun y1 =>
some ((Stmt.mk y1.1.Kind y1.1.Var y1.1.Box (Expr.mk y1.1.Expr.Op y1.1.Expr.N y1.1.Expr.Args) y1.1.Body y1.1.Else),y1.2)) <|
(f01 (L6Rd.mk a0.b a0.p) a1).bind fun y2 =>
(f01 (L6Rd.mk a0.b y2.2) 2).bind fun y3 =>
sel (y3.1 == 0) ((f01 (L6Rd.mk a0.b y3.2) 3).bind fun y4 =>
(f2j k (L6Rd.mk a0.b y4.2) (w64 (1 + y4.1))).bind fun y5 =>
some ((Stmt.mk 4 0 y2.1 (Expr.mk y5.1.Op y5.1.N y5.1.Args) [] []),y5.2)) <|
(f01 (L6Rd.mk a0.b y3.2) 3).bind fun y6 =>
some ((Stmt.mk 5 y6.1 y2.1 (Expr.mk 0 0 []) [] []),y6.2)
def f97 (a0 : L6Rd) (a1 : Int) (a2 : Int) (a3 : Int) (a4 : Bool) (f0k : L6Rd → Int → Int → Bool → Option ((List Stmt) × Int)) (s1 : (List Stmt) × Int × Int) : Option (((List Stmt) × Int × Int) ⊕ ((List Stmt) × Int)):=
sel (decide (s1.2.1 < a3)) ((f0k (L6Rd.mk a0.b s1.2.2) a1 a2 a4).bind fun y4 =>
(app 112 s1.1 y4.1).bind fun r1 =>
some (.inl (r1,w64 (s1.2.1 + 1),y4.2))) <|
some (.inr (s1.1,s1.2.2))
noncomputable def f5a (k : Nat) (f0i : L6Rd → Int → Int → Int → Bool → Option ((List Stmt) × Int)) (f0k : L6Rd → Int → Int → Bool → Option ((List Stmt) × Int)) (f0x : L6Rd → Int → Int → Bool → Option (Stmt × Int)) (f0s : L6Rd → Int → Int → Option ((List Stmt) × Int)) (a0 : L6Rd) (a1 : Int) (a2 : Int) (a3 : Int) (a4 : Bool) : Option ((List Stmt) × Int):=
(iter (f97 a0 a1 a2 a3 a4 f0k) ([],0,a0.p)).bind fun y1 =>
some (y1.1,y1.2)
noncomputable def f60 (k : Nat) (f0i : L6Rd → Int → Int → Int → Bool → Option ((List Stmt) × Int)) (f0k : L6Rd → Int → Int → Bool → Option ((List Stmt) × Int)) (f0x : L6Rd → Int → Int → Bool → Option (Stmt × Int)) (f0s : L6Rd → Int → Int → Option ((List Stmt) × Int)) (a0 : L6Rd) (a1 : Int) (a2 : Int) (a3 : Bool) : Option ((List Stmt) × Int):=
((f01 (L6Rd.mk a0.b a0.p) 10).bind fun y2 =>
(sel (y2.1 == 0) (some (y2.1 == 0)) <|
some (y2.1 == 1) : Option (Bool)).bind fun y3 =>
sel y3 ((f7d k (L6Rd.mk a0.b y2.2)).bind fun y4 =>
some (.inr ([(Stmt.mk y4.1.Kind y4.1.Var y4.1.Box (Expr.mk y4.1.Expr.Op y4.1.Expr.N y4.1.Expr.Args) y4.1.Body y4.1.Else)],y4.2))) <|
sel (y2.1 == 2) (sel (decide (a2 > 0)) ((f0x (L6Rd.mk a0.b y2.2) a1 a2 a3).bind fun y5 =>
some (.inr ([(Stmt.mk y5.1.Kind y5.1.Var y5.1.Box (Expr.mk y5.1.Expr.Op y5.1.Expr.N y5.1.Expr.Args) y5.1.Body y5.1.Else)],y5.2))) <|
some (.inl y2.2)) <|
sel (y2.1 == 3) (sel ((decide (a2 > 0)) && a3) ((f0s (L6Rd.mk a0.b y2.2) a1 a2).bind fun y6 =>
some (.inr (y6.1,y6.2))) <|
some (.inl y2.2)) <|
(sel (y2.1 == 4) (some (y2.1 == 4)) <|
sel (y2.1 == 5) (some (y2.1 == 5)) <|
some (y2.1 == 6) : Option (Bool)).bind fun y7 =>
sel y7 ((f82 k (L6Rd.mk a0.b y2.2) a1).bind fun y8 =>
some (.inr ([(Stmt.mk y8.1.Kind y8.1.Var y8.1.Box (Expr.mk y8.1.Expr.Op y8.1.Expr.N y8.1.Expr.Args) y8.1.Body y8.1.Else)],y8.2))) <|
sel (y2.1 == 7) (some (.inr ([(Stmt.mk 6 0 0 (Expr.mk 0 0 []) [] [])],y2.2))) <|
some (.inl y2.2) : Option (Int ⊕ ((List Stmt) × Int))).bind fun y1 =>
both y1 (fun o3=>(f01 (L6Rd.mk a0.b o3) 3).bind fun y9 =>
(f2j k (L6Rd.mk a0.b y9.2) (w64 (1 + y9.1))).bind fun y10 =>
some ([(Stmt.mk 7 0 0 (Expr.mk y10.1.Op y10.1.N y10.1.Args) [] [])],y10.2)) (fun o4 =>
some o4)
noncomputable def f7s (k : Nat) (f0i : L6Rd → Int → Int → Int → Bool → Option ((List Stmt) × Int)) (f0k : L6Rd → Int → Int → Bool → Option ((List Stmt) × Int)) (f0x : L6Rd → Int → Int → Bool → Option (Stmt × Int)) (f0s : L6Rd → Int → Int → Option ((List Stmt) × Int)) (a0 : L6Rd) (a1 : Int) (a2 : Int) (a3 : Bool) : Option (Stmt × Int):=
(f01 (L6Rd.mk a0.b a0.p) 2).bind fun y1 =>
(f2j k (L6Rd.mk a0.b y1.2) (w64 (1 + y1.1))).bind fun y2 =>
(f01 (L6Rd.mk a0.b y2.2) 3).bind fun y3 =>
(f0i (L6Rd.mk a0.b y3.2) a1 (w64 (a2 - 1)) y3.1 a3).bind fun y4 =>
(f01 (L6Rd.mk a0.b y4.2) 3).bind fun y5 =>
(f0i (L6Rd.mk a0.b y5.2) a1 (w64 (a2 - 1)) y5.1 a3).bind fun y6 =>
some ((Stmt.mk 2 0 0 (Expr.mk y2.1.Op y2.1.N y2.1.Args) y4.1 y6.1),y6.2)
def f5m (k : Nat) (f0i : L6Rd → Int → Int → Int → Bool → Option ((List Stmt) × Int)) (f0k : L6Rd → Int → Int → Bool → Option ((List Stmt) × Int)) (f0x : L6Rd → Int → Int → Bool → Option (Stmt × Int)) (f0s : L6Rd → Int → Int → Option ((List Stmt) × Int)) (a0 : L6Rd) (a1 : Int) (a2 : Int) : Option ((List Stmt) × Int):=
(f01 (L6Rd.mk a0.b a0.p) 3).bind fun y1 =>
(f0i (L6Rd.mk a0.b y1.2) a1 (w64 (a2 - 1)) y1.1 false).bind fun y2 =>
(f24 13 3).bind fun y3 =>
(f24 0 1).bind fun y4 =>
(f7e 8 (Expr.mk y3.Op y3.N y3.Args) (Expr.mk y4.Op y4.N y4.Args)).bind fun y5 =>
(f24 13 3).bind fun y6 =>
(f01 (L6Rd.mk a0.b y2.2) 3).bind fun y7 =>
(f24 0 (w64 (1 + y7.1))).bind fun y8 =>
(f7e 5 (Expr.mk y6.Op y6.N y6.Args) (Expr.mk y8.Op y8.N y8.Args)).bind fun y9 =>
(app 112 y2.1 [(Stmt.mk 1 3 0 (Expr.mk y5.Op y5.N y5.Args) [] [])]).bind fun r1 =>
(f24 0 0).bind fun y10 =>
some ([(Stmt.mk 1 3 0 (Expr.mk y10.Op y10.N y10.Args) [] []),(Stmt.mk 3 0 0 (Expr.mk y9.Op y9.N y9.Args) r1 [])],y7.2)
noncomputable def f0a : Nat → (L6Rd → Int → Int → Int → Bool → Option ((List Stmt) × Int)) × (L6Rd → Int → Int → Bool → Option ((List Stmt) × Int)) × (L6Rd → Int → Int → Bool → Option (Stmt × Int)) × (L6Rd → Int → Int → Option ((List Stmt) × Int))
 | 0=>((fun _ _ _ _ _=>none),(fun _ _ _ _=>none),(fun _ _ _ _=>none),(fun _ _ _=>none))
 | k + 1=>(f5a k (f0a k).1 (f0a k).2.1 (f0a k).2.2.1 (f0a k).2.2.2,f60 k (f0a k).1 (f0a k).2.1 (f0a k).2.2.1 (f0a k).2.2.2,f7s k (f0a k).1 (f0a k).2.1 (f0a k).2.2.1 (f0a k).2.2.2,f5m k (f0a k).1 (f0a k).2.1 (f0a k).2.2.1 (f0a k).2.2.2)
noncomputable def f2b (k : Nat) : L6Rd → Int → Int → Int → Bool → Option ((List Stmt) × Int):=(f0a k).1
noncomputable def f5s (k : Nat) : L6Rd → Int → Int → Bool → Option ((List Stmt) × Int):=(f0a k).2.1
noncomputable def fa4 (k : Nat) : L6Rd → Int → Int → Bool → Option (Stmt × Int):=(f0a k).2.2.1
noncomputable def f7v (k : Nat) : L6Rd → Int → Int → Option ((List Stmt) × Int):=(f0a k).2.2.2
noncomputable def f9g (k : Nat) (s1 : (List Stmt)) : Option (((List Stmt)) ⊕ ((List Stmt))):=
(f2c k s1).bind fun y6 =>
sel (decide (y6 > 16)) ((cut s1 0 (w64 ((s1.length : Int) - 1))).bind fun r1 =>
some (.inl r1)) <|
some (.inr s1)
noncomputable def f6q (k : Nat) (a0 : L6Rd) (a1 : Int) : Option ((List Stmt) × Int):=
(f01 (L6Rd.mk a0.b a0.p) 6).bind fun y1 =>
(f2b k (L6Rd.mk a0.b y1.2) a1 3 (w64 (1 + y1.1)) true).bind fun y2 =>
(iter (f9g k) y2.1).bind fun y3 =>
some (y3,y2.2)
def f0v (a0 : Int) : Option (Bool):=
(f02 a0 (-2147483648) 2147483647).bind fun y1 =>
some y1
def f5c (a0 : Int) (a1 : Bool) : Option (Bool):=
sel a1 ((f02 a0 0 11).bind fun y1 =>
some y1) <|
some (a0 == 0)
def f17 (a0 : Quad) (a1 : Bool) (a2 : Bool) (a3 : Bool) : Option (Bool):=
(f5c a0.Dst a1).bind fun y1 =>
(sel y1 ((f5c a0.A a2).bind fun y2=>some y2) (some false) : Option (Bool)).bind fun b1 =>
(sel b1 ((f5c a0.B a3).bind fun y3=>some y3) (some false) : Option (Bool)).bind fun b2 =>
some b2
def f2y (a0 : Quad) (a1 : Int) : Option (Bool):=
sel (a0.Op == 1) ((f17 a0 true false false).bind fun y1 =>
(sel y1 ((f0v a0.N).bind fun y2=>some y2) (some false) : Option (Bool)).bind fun b1 =>
some b1) <|
sel (a0.Op == 2) ((f17 a0 true true false).bind fun y3 =>
some (y3 && (a0.N == 0))) <|
sel (a0.Op == 3) ((f17 a0 true true true).bind fun y4 =>
(sel y4 ((f3a a0.N).bind fun y5=>some y5) (some false) : Option (Bool)).bind fun b2 =>
some b2) <|
sel (a0.Op == 4) ((f17 a0 false false false).bind fun y6 =>
some ((y6 && (decide (a0.N ≥ 0))) && (decide (a0.N < a1)))) <|
sel (a0.Op == 5) ((f17 a0 false true false).bind fun y7 =>
some ((y7 && (decide (a0.N ≥ 0))) && (decide (a0.N < a1)))) <|
sel (a0.Op == 6) ((f17 a0 false true false).bind fun y8 =>
(sel y8 ((f02 a0.N 0 2).bind fun y9=>some y9) (some false) : Option (Bool)).bind fun b3 =>
some b3) <|
sel (a0.Op == 7) ((f17 a0 true false false).bind fun y10 =>
(sel y10 ((f02 a0.N 0 2).bind fun y11=>some y11) (some false) : Option (Bool)).bind fun b4 =>
some b4) <|
sel (a0.Op == 9) ((f17 a0 false true false).bind fun y12 =>
some (y12 && (a0.N == 0))) <|
(sel (a0.Op == 8) (some (a0.Op == 8)) <|
some (a0.Op == 10) : Option (Bool)).bind fun y13 =>
sel y13 ((f17 a0 false false false).bind fun y14 =>
some (y14 && (a0.N == 0))) <|
some false
def f8s (a0 : List Quad) (s1 : Int) : Option (Int ⊕ (Bool ⊕ Unit)):=
sel (decide (s1 < (a0.length : Int))) ((nth a0 s1).bind fun x1 =>
(f2y x1 (a0.length : Int)).bind fun y5 =>
sel (!y5) (some (.inr (.inl false))) <|
some (.inl (w64 (s1 + 1)))) <|
some (.inr (.inr ()))
noncomputable def f0t (a0 : List Quad) : Option (Bool):=
(f02 (a0.length : Int) 1 600).bind fun y1 =>
sel (!y1) (some false) <|
(iter (f8s a0) 0).bind fun y2 =>
both y2 (fun o3=>some o3) (fun o4 =>
(nth a0 (w64 ((a0.length : Int) - 1))).bind fun x2 =>
(sel (x2.Op == 10) (some true) ((nth a0 (w64 ((a0.length : Int) - 1))).bind fun x3=>some (x3.Op == 4)) : Option (Bool)).bind fun b1 =>
some b1)
def f27 (a0 : List Quad) (a1 : Int) : Option ((List Int)):=
(nth a0 a1).bind fun x1 =>
sel (x1.Op == 10) (some []) <|
sel (x1.Op == 4) (some [x1.N]) <|
sel ((x1.Op == 5) && (decide (x1.N < (w64 (a1 + 1))))) (some [x1.N,w64 (a1 + 1)]) <|
sel ((x1.Op == 5) && (decide (x1.N > (w64 (a1 + 1))))) (some [w64 (a1 + 1),x1.N]) <|
some [w64 (a1 + 1)]
def f75 (a0 : List Quad) (a1 : List Fact) (a2 : Int) : Option ((List Int)):=
(nth a0 a2).bind fun x1 =>
(sel (x1.Op != 5) (some true) ((nth a1 x1.A).bind fun x2=>some (x2.Kind != 1)) : Option (Bool)).bind fun b1 =>
sel b1 ((f27 a0 a2).bind fun y1 =>
some y1) <|
(nth a1 x1.A).bind fun x3 =>
sel (x3.N == 0) (some [x1.N]) <|
some [w64 (a2 + 1)]
def f44 (a0 : Bool) : Option (Int):=
sel a0 (some 1) <|
some 0
def f3c (a0 : Int) (a1 : Int) (a2 : Bool) : Option (Int):=
sel a2 ((shO .shr .i64 a0 (bitsI .and .i64 a1 31)).bind fun d1 =>
some d1) <|
(shO .shl .i64 a0 (bitsI .and .i64 a1 31)).bind fun d2 =>
(f0n d2).bind fun y1 =>
some y1
def f4x (a0 : Int) (a1 : Int) : Option (Int):=
sel (a1 == 0) (some (-1)) <|
(quoO .i64 a0 a1).bind fun d1 =>
(f0n d1).bind fun y1 =>
some y1
def f4y (a0 : Int) (a1 : Int) : Option (Int):=
sel (a1 == 0) (some a0) <|
(remO a0 a1).bind fun d1 =>
some d1
def f53 (a0 : Int) (a1 : Int) (a2 : Int) : Option (Int × Bool):=
(f3a a0).bind fun y1 =>
(sel (!y1) (some true) ((f0v a1).bind fun y2=>some (!y2)) : Option (Bool)).bind fun b1 =>
(sel b1 (some true) ((f0v a2).bind fun y3=>some (!y3)) : Option (Bool)).bind fun b2 =>
sel b2 (some (0,false)) <|
sel (a0 == 1) (some (bitsI .or .i64 a1 a2,true)) <|
sel (a0 == 2) (some (bitsI .xor .i64 a1 a2,true)) <|
sel (a0 == 3) (some (bitsI .and .i64 a1 a2,true)) <|
sel (a0 == 4) ((f44 (a1 == a2)).bind fun y4 =>
some (y4,true)) <|
sel (a0 == 5) ((f44 (decide (a1 < a2))).bind fun y5 =>
some (y5,true)) <|
sel (a0 == 6) ((f3c a1 a2 false).bind fun y6 =>
some (y6,true)) <|
sel (a0 == 7) ((f3c a1 a2 true).bind fun y7 =>
some (y7,true)) <|
sel (a0 == 8) ((f0n (w64 (a1 + a2))).bind fun y8 =>
some (y8,true)) <|
sel (a0 == 9) ((f0n (w64 (a1 - a2))).bind fun y9 =>
some (y9,true)) <|
sel (a0 == 10) ((f0n (w64 (a1 * a2))).bind fun y10 =>
some (y10,true)) <|
sel (a0 == 11) ((f4x a1 a2).bind fun y11 =>
some (y11,true)) <|
(f4y a1 a2).bind fun y12 =>
some (y12,true)
def f4c (a0 : Quad) (a1 : Fact) (a2 : Fact) : Option (Fact):=
sel ((a1.Kind != 1) || (a2.Kind != 1)) (some (Fact.mk 2 0)) <|
(f53 a0.N a1.N a2.N).bind fun y1 =>
some (Fact.mk 1 y1.1)
def f6p (a0 : Quad) (a1 : List Fact) : Option ((List Fact)):=
(app 16 [] a1).bind fun r1 =>
sel (a0.Op == 1) ((nth r1 a0.Dst).bind fun x1 =>
(upd r1 a0.Dst (Fact.mk 1 a0.N)).bind fun r2 =>
some r2) <|
sel (a0.Op == 2) ((nth a1 a0.A).bind fun x2 =>
(nth r1 a0.Dst).bind fun x3 =>
(upd r1 a0.Dst x2).bind fun r3 =>
some r3) <|
sel (a0.Op == 7) ((nth r1 a0.Dst).bind fun x4 =>
(upd r1 a0.Dst (Fact.mk 2 0)).bind fun r4 =>
some r4) <|
sel (a0.Op == 3) ((nth a1 a0.A).bind fun x5 =>
(nth a1 a0.B).bind fun x6 =>
(f4c a0 x5 x6).bind fun y1 =>
(nth r1 a0.Dst).bind fun x7 =>
(upd r1 a0.Dst y1).bind fun r5 =>
some r5) <|
some r1
def f88 (a0 : Fact) (a1 : Fact) : Option (Fact):=
sel (a0.Kind == 0) (some a1) <|
sel ((a1.Kind == 0) || ((a0.Kind == a1.Kind) && ((a0.N == a1.N) && true))) (some a0) <|
some (Fact.mk 2 0)
def f9a (a1 : Int) (a2 : List Fact) (s1 : Bool × Int × (List (List Fact))) : Option ((Bool × Int × (List (List Fact))) ⊕ (Bool × (List (List Fact)))):=
sel (decide (s1.2.1 < 12)) (((nth s1.2.2 a1).bind fun x1 =>
(nth x1 s1.2.1).bind fun x4 =>
(nth a2 s1.2.1).bind fun x5 =>
(f88 x4 x5).bind fun y6 =>
(nth s1.2.2 a1).bind fun x6 =>
(nth x6 s1.2.1).bind fun x8 =>
sel (!((y6.Kind == x8.Kind) && ((y6.N == x8.N) && true))) ((nth x6 s1.2.1).bind fun x9 =>
(upd x6 s1.2.1 y6).bind fun r1 =>
some (true,(s1.2.2.set (Int.toNat a1) r1))) <|
some (s1.1,s1.2.2) : Option (Bool × (List (List Fact)))).bind fun y4 =>
some (.inl (y4.1,w64 (s1.2.1 + 1),y4.2))) <|
some (.inr (s1.1,s1.2.2))
noncomputable def f6r (a0 : List (List Fact)) (a1 : Int) (a2 : List Fact) : Option (Bool × (List (List Fact))):=
(iter (f9a a1 a2) (false,0,a0)).bind fun y1 =>
some (y1.1,y1.2)
noncomputable def f9q (y5 : (List Int)) (y6 : (List Fact)) (s2 : Bool × Int × (List (List Fact))) : Option ((Bool × Int × (List (List Fact))) ⊕ (Bool × (List (List Fact)))):=
sel (decide (s2.2.1 < (y5.length : Int))) (((nth y5 s2.2.1).bind fun x4 =>
(f6r s2.2.2 x4 y6).bind fun y11 =>
sel y11.1 (some (true,y11.2)) <|
some (s2.1,y11.2) : Option (Bool × (List (List Fact)))).bind fun y10 =>
some (.inl (y10.1,w64 (s2.2.1 + 1),y10.2))) <|
some (.inr (s2.1,s2.2.2))
noncomputable def f98 (a0 : List Quad) (s1 : Bool × Int × (List (List Fact))) : Option ((Bool × Int × (List (List Fact))) ⊕ (Bool × (List (List Fact)))):=
sel (decide (s1.2.1 < (a0.length : Int))) (((nth s1.2.2 s1.2.1).bind fun x1 =>
(nth x1 0).bind fun x2 =>
sel (x2.Kind == 0) (some (s1.1,s1.2.2)) <|
(f75 a0 x1 s1.2.1).bind fun y5 =>
(nth a0 s1.2.1).bind fun x3 =>
(f6p x3 x1).bind fun y6 =>
(iter (f9q y5 y6) (s1.1,0,s1.2.2)).bind fun y7 =>
some (y7.1,y7.2) : Option (Bool × (List (List Fact)))).bind fun y4 =>
some (.inl (y4.1,w64 (s1.2.1 + 1),y4.2))) <|
some (.inr (s1.1,s1.2.2))
noncomputable def f70 (a0 : List Quad) (a1 : List (List Fact)) : Option (Bool × (List (List Fact))):=
(iter (f98 a0) (false,0,a1)).bind fun y1 =>
some (y1.1,y1.2)
def fa5 (a0 : List Quad) (s1 : (List (List Fact)) × Int) : Option (((List (List Fact)) × Int) ⊕ ((List (List Fact)))):=
sel (decide (s1.2 < (a0.length : Int))) ((mk 16 12 (Fact.mk 0 0)).bind fun r1 =>
(app 24 s1.1 [r1]).bind fun r2 =>
some (.inl (r2,w64 (s1.2 + 1)))) <|
some (.inr s1.1)
def fa6 (s2 : Int × (List (List Fact))) : Option ((Int × (List (List Fact))) ⊕ ((List (List Fact)))):=
sel (decide (s2.1 < 12)) ((nth s2.2 0).bind fun x1 =>
(nth x1 s2.1).bind fun x2 =>
(upd x1 s2.1 (Fact.mk 1 0)).bind fun r3 =>
some (.inl (w64 (s2.1 + 1),(s2.2.set (Int.toNat 0) r3)))) <|
some (.inr s2.2)
noncomputable def fa3 (a0 : List Quad) (s3 : (List (List Fact))) : Option (((List (List Fact))) ⊕ ((List (List Fact)))):=
(f70 a0 s3).bind fun y11 =>
sel y11.1 (some (.inl y11.2)) <|
some (.inr y11.2)
noncomputable def f87 (a0 : List Quad) : Option ((List (List Fact))):=
(f0t a0).bind fun y1 =>
sel (!y1) (some []) <|
(iter (fa5 a0) ([],0)).bind fun y2 =>
(iter (fa6) (0,y2)).bind fun y5 =>
(iter (fa3 a0) y5).bind fun y8 =>
some y8
def f35 (a0 : Fact) (a1 : Int) : Option (Bool):=
some ((a0.Kind == 1) && (a0.N == a1))
def fae (a0 : List Int) (a1 : Int) (s1 : Int) : Option (Int ⊕ (Bool ⊕ Unit)):=
sel (decide (s1 < (a0.length : Int))) ((nth a0 s1).bind fun x1 =>
sel (x1 == a1) (some (.inr (.inl true))) <|
some (.inl (w64 (s1 + 1)))) <|
some (.inr (.inr ()))
noncomputable def f8z (a0 : List Int) (a1 : Int) : Option (Bool):=
(iter (fae a0 a1) 0).bind fun y1 =>
both y1 (fun o3=>some o3) (fun o4 =>
some false)
noncomputable def f42 (a0 : Int) (a1 : List Int) : Option (Bool):=
(f8z a1 a0).bind fun y1 =>
some y1
noncomputable def f90 (a0 : Quad) (a1 : Fact) (a2 : Fact) : Option (Quad):=
(f4c a0 a1 a2).bind fun y1 =>
sel (y1.Kind == 1) (some (Quad.mk 1 a0.Dst 0 0 y1.N)) <|
(f35 a2 0).bind fun y2 =>
(sel y2 ((f42 a0.N [1,2,6,7,8,9]).bind fun y3=>some y3) (some false) : Option (Bool)).bind fun b1 =>
sel b1 (some (Quad.mk 2 a0.Dst a0.A 0 0)) <|
(f35 a2 1).bind fun y4 =>
(sel y4 ((f42 a0.N [10,11]).bind fun y5=>some y5) (some false) : Option (Bool)).bind fun b2 =>
sel b2 (some (Quad.mk 2 a0.Dst a0.A 0 0)) <|
(f35 a1 0).bind fun y6 =>
(sel y6 ((f42 a0.N [1,2,8]).bind fun y7=>some y7) (some false) : Option (Bool)).bind fun b3 =>
sel b3 (some (Quad.mk 2 a0.Dst a0.B 0 0)) <|
(f35 a1 1).bind fun y8 =>
sel (y8 && (a0.N == 10)) (some (Quad.mk 2 a0.Dst a0.B 0 0)) <|
(f35 a1 0).bind fun y9 =>
(sel y9 (some true) ((f35 a2 0).bind fun y10=>some y10) : Option (Bool)).bind fun b4 =>
(sel b4 ((f42 a0.N [3,10]).bind fun y11=>some y11) (some false) : Option (Bool)).bind fun b5 =>
sel b5 (some (Quad.mk 1 a0.Dst 0 0 0)) <|
some a0
noncomputable def f7z (a0 : Quad) (a1 : List Fact) (a2 : Int) : Option (Quad):=
(nth a1 0).bind fun x1 =>
sel (x1.Kind == 0) (some a0) <|
sel (a0.Op == 2) ((nth a1 a0.A).bind fun x2 =>
sel (x2.Kind == 1) ((nth a1 a0.A).bind fun x3 =>
some (Quad.mk 1 a0.Dst 0 0 x3.N)) <|
some a0) <|
sel (a0.Op == 3) ((nth a1 a0.A).bind fun x4 =>
(nth a1 a0.B).bind fun x5 =>
(f90 a0 x4 x5).bind fun y1 =>
some y1) <|
sel (a0.Op == 5) ((nth a1 a0.A).bind fun x6 =>
(f35 x6 0).bind fun y2 =>
sel y2 (some (Quad.mk 4 0 0 0 a0.N)) <|
(nth a1 a0.A).bind fun x7 =>
sel (x7.Kind == 1) (some (Quad.mk 4 0 0 0 (w64 (a2 + 1)))) <|
some a0) <|
some a0
noncomputable def f69 (a0 : List Quad) (y2 : (List (List Fact))) (s1 : (List Quad) × Int) : Option (((List Quad) × Int) ⊕ ((List Quad))):=
sel (decide (s1.2 < (a0.length : Int))) ((nth y2 s1.2).bind fun x1 =>
(nth a0 s1.2).bind fun x3 =>
(f7z x3 x1 s1.2).bind fun y7 =>
(app 40 s1.1 [y7]).bind fun r2 =>
some (.inl (r2,w64 (s1.2 + 1)))) <|
some (.inr s1.1)
noncomputable def f7c (a0 : List Quad) : Option ((List Quad) × Bool):=
(f0t a0).bind fun y1 =>
sel (!y1) (some ([],false)) <|
(f87 a0).bind fun y2 =>
(iter (f69 a0 y2) ([],0)).bind fun y3 =>
some (y3,true)
def fa1 (s1 : (List Int) × Int) : Option (((List Int) × Int) ⊕ ((List Int))):=
sel (decide (s1.2 < 12)) ((app 8 s1.1 [s1.2]).bind fun r1 =>
some (.inl (r1,w64 (s1.2 + 1)))) <|
some (.inr s1.1)
noncomputable def f5v : Option ((List Int)):=
(iter (fa1) ([],0)).bind fun y1 =>
some y1
def f2a (a0 : Quad) : Option (Int):=
(f2y a0 600).bind fun y1 =>
sel (!y1) (some (-1)) <|
(sel (a0.Op == 1) (some (a0.Op == 1)) <|
sel (a0.Op == 2) (some (a0.Op == 2)) <|
sel (a0.Op == 3) (some (a0.Op == 3)) <|
some (a0.Op == 7) : Option (Bool)).bind fun y2 =>
sel y2 (some a0.Dst) <|
some (-1)
def f9u (y1 : Int) (s1 : Int × (List Int)) : Option ((Int × (List Int)) ⊕ ((List Int))):=
sel (decide (s1.1 < 12)) (((nth s1.2 s1.1).bind fun x1 =>
sel (x1 == y1) ((nth s1.2 s1.1).bind fun x2 =>
(upd s1.2 s1.1 s1.1).bind fun r2 =>
some r2) <|
some s1.2 : Option ((List Int))).bind fun y5 =>
some (.inl (w64 (s1.1 + 1),y5))) <|
some (.inr s1.2)
noncomputable def f6z (a0 : Quad) (a1 : List Int) : Option ((List Int)):=
(app 8 [] a1).bind fun r1 =>
(f2a a0).bind fun y1 =>
sel (decide (y1 < 0)) (some r1) <|
(iter (f9u y1) (0,r1)).bind fun y2 =>
(nth y2 y1).bind fun x3 =>
(upd y2 y1 y1).bind fun r3 =>
sel (a0.Op == 2) ((nth r3 y1).bind fun x4 =>
(upd r3 y1 a0.A).bind fun r4 =>
some r4) <|
some r3
def f96 (a1 : Int) (a2 : List Int) (s1 : Bool × Int × (List (List Int))) : Option ((Bool × Int × (List (List Int))) ⊕ (Bool × (List (List Int)))):=
sel (decide (s1.2.1 < 12)) (((nth s1.2.2 a1).bind fun x2 =>
(nth x2 s1.2.1).bind fun x6 =>
(sel (x6 != s1.2.1) ((nth x2 s1.2.1).bind fun b_1=>(nth a2 s1.2.1).bind fun b_2=>some (b_1 != b_2)) (some false)).bind fun b2 =>
sel b2 ((nth s1.2.2 a1).bind fun x9 =>
(nth x9 s1.2.1).bind fun x10 =>
(upd x9 s1.2.1 s1.2.1).bind fun r2 =>
some (true,(s1.2.2.set (Int.toNat a1) r2))) <|
some (s1.1,s1.2.2) : Option (Bool × (List (List Int)))).bind fun y4 =>
some (.inl (y4.1,w64 (s1.2.1 + 1),y4.2))) <|
some (.inr (s1.1,s1.2.2))
noncomputable def f7a (a0 : List (List Int)) (a1 : Int) (a2 : List Int) : Option (Bool × (List (List Int))):=
(nth a0 a1).bind fun x1 =>
sel ((x1.length : Int) == 0) ((app 8 [] a2).bind fun r1 =>
some (true,(a0.set (Int.toNat a1) r1))) <|
(iter (f96 a1 a2) (false,0,a0)).bind fun y1 =>
some (y1.1,y1.2)
noncomputable def f9r (y5 : (List Int)) (y6 : (List Int)) (s2 : Bool × Int × (List (List Int))) : Option ((Bool × Int × (List (List Int))) ⊕ (Bool × (List (List Int)))):=
sel (decide (s2.2.1 < (y5.length : Int))) (((nth y5 s2.2.1).bind fun x3 =>
(f7a s2.2.2 x3 y6).bind fun y11 =>
sel y11.1 (some (true,y11.2)) <|
some (s2.1,y11.2) : Option (Bool × (List (List Int)))).bind fun y10 =>
some (.inl (y10.1,w64 (s2.2.1 + 1),y10.2))) <|
some (.inr (s2.1,s2.2.2))
noncomputable def f9k (a0 : List Quad) (s1 : Bool × Int × (List (List Int))) : Option ((Bool × Int × (List (List Int))) ⊕ (Bool × (List (List Int)))):=
sel (decide (s1.2.1 < (a0.length : Int))) (((nth s1.2.2 s1.2.1).bind fun x1 =>
sel ((x1.length : Int) == 0) (some (s1.1,s1.2.2)) <|
(f27 a0 s1.2.1).bind fun y5 =>
(nth a0 s1.2.1).bind fun x2 =>
(f6z x2 x1).bind fun y6 =>
(iter (f9r y5 y6) (s1.1,0,s1.2.2)).bind fun y7 =>
some (y7.1,y7.2) : Option (Bool × (List (List Int)))).bind fun y4 =>
some (.inl (y4.1,w64 (s1.2.1 + 1),y4.2))) <|
some (.inr (s1.1,s1.2.2))
noncomputable def f6u (a0 : List Quad) (a1 : List (List Int)) : Option (Bool × (List (List Int))):=
(iter (f9k a0) (false,0,a1)).bind fun y1 =>
some (y1.1,y1.2)
def f9h (a0 : List Quad) (s1 : (List (List Int)) × Int) : Option (((List (List Int)) × Int) ⊕ ((List (List Int)))):=
sel (decide (s1.2 < (a0.length : Int))) ((app 24 s1.1 [[]]).bind fun r1 =>
some (.inl (r1,w64 (s1.2 + 1)))) <|
some (.inr s1.1)
noncomputable def f9l (a0 : List Quad) (s2 : (List (List Int))) : Option (((List (List Int))) ⊕ ((List (List Int)))):=
(f6u a0 s2).bind fun y9 =>
sel y9.1 (some (.inl y9.2)) <|
some (.inr y9.2)
noncomputable def f9d (a0 : List Quad) (s3 : Int × (List (List Int))) : Option ((Int × (List (List Int))) ⊕ ((List (List Int)))):=
sel (decide (s3.1 < (a0.length : Int))) (((nth s3.2 s3.1).bind fun x2 =>
sel ((x2.length : Int) == 0) ((f5v).bind fun y14 =>
some (s3.2.set (Int.toNat s3.1) y14)) <|
some s3.2 : Option ((List (List Int)))).bind fun y13 =>
some (.inl (w64 (s3.1 + 1),y13))) <|
some (.inr s3.2)
noncomputable def f6t (a0 : List Quad) : Option ((List (List Int))):=
(f0t a0).bind fun y1 =>
sel (!y1) (some []) <|
(iter (f9h a0) ([],0)).bind fun y2 =>
(f5v).bind fun y5 =>
(nth y2 0).bind fun x1 =>
(iter (f9l a0) (y2.set (Int.toNat 0) y5)).bind fun y6 =>
(iter (f9d a0) (0,y6)).bind fun y10 =>
some y10
def f8a (a0 : Quad) (a1 : List Int) : Option (Quad):=
(sel (a0.Op == 2) (some (a0.Op == 2)) <|
sel (a0.Op == 5) (some (a0.Op == 5)) <|
sel (a0.Op == 6) (some (a0.Op == 6)) <|
some (a0.Op == 9) : Option (Bool)).bind fun y1 =>
sel y1 ((nth a1 a0.A).bind fun x1 =>
some (Quad.mk a0.Op a0.Dst x1 a0.B a0.N)) <|
sel (a0.Op == 3) ((nth a1 a0.A).bind fun x2 =>
(nth a1 a0.B).bind fun x3 =>
some (Quad.mk a0.Op a0.Dst x2 x3 a0.N)) <|
some a0
def f6f (a0 : List Quad) (y2 : (List (List Int))) (s1 : (List Quad) × Int) : Option (((List Quad) × Int) ⊕ ((List Quad))):=
sel (decide (s1.2 < (a0.length : Int))) ((nth y2 s1.2).bind fun x1 =>
(nth a0 s1.2).bind fun x3 =>
(f8a x3 x1).bind fun y7 =>
(app 40 s1.1 [y7]).bind fun r2 =>
some (.inl (r2,w64 (s1.2 + 1)))) <|
some (.inr s1.1)
noncomputable def f73 (a0 : List Quad) : Option ((List Quad) × Bool):=
(f0t a0).bind fun y1 =>
sel (!y1) (some ([],false)) <|
(f6t a0).bind fun y2 =>
(iter (f6f a0 y2) ([],0)).bind fun y3 =>
some (y3,true)
def f8t (a0 : List Quad) (s1 : Int × Int) : Option ((Int × Int) ⊕ (Int ⊕ Unit)):=
sel (decide (s1.2 < (a0.length : Int))) ((nth a0 s1.1).bind fun x1 =>
sel (x1.Op != 4) (some (.inr (.inl s1.1))) <|
(nth a0 s1.1).bind fun x2 =>
some (.inl (x2.N,w64 (s1.2 + 1)))) <|
some (.inr (.inr ()))
noncomputable def f68 (a0 : List Quad) (a1 : Int) : Option (Int):=
(iter (f8t a0) (a1,0)).bind fun y1 =>
both y1 (fun o3=>some o3) (fun o4 =>
some a1)
noncomputable def f6d (a0 : List Quad) (s1 : (List Quad) × Int) : Option (((List Quad) × Int) ⊕ ((List Quad))):=
sel (decide (s1.2 < (a0.length : Int))) ((nth a0 s1.2).bind fun x1 =>
(sel ((x1.Op == 4) || (x1.Op == 5)) ((f68 a0 x1.N).bind fun y6 =>
some (Quad.mk x1.Op x1.Dst x1.A x1.B y6)) <|
some x1 : Option (Quad)).bind fun y5 =>
(app 40 s1.1 [y5]).bind fun r1 =>
some (.inl (r1,w64 (s1.2 + 1)))) <|
some (.inr s1.1)
noncomputable def f6y (a0 : List Quad) : Option ((List Quad) × Bool):=
(f0t a0).bind fun y1 =>
sel (!y1) (some ([],false)) <|
(iter (f6d a0) ([],0)).bind fun y2 =>
some (y2,true)
def f9s (a1 : List (List Bool)) (y1 : (List Int)) (s1 : Int × (List Bool)) (s2 : Int × (List Bool)) : Option ((Int × (List Bool)) ⊕ ((List Bool))):=
sel (decide (s2.1 < 12)) ((nth s2.2 s2.1).bind fun x1 =>
(sel x1 (some true) ((nth y1 s1.1).bind fun x2=>(nth a1 x2).bind fun x3=>(nth x3 s2.1).bind fun x4=>some x4) : Option (Bool)).bind fun b1 =>
(nth s2.2 s2.1).bind fun x5 =>
(upd s2.2 s2.1 b1).bind fun r2 =>
some (.inl (w64 (s2.1 + 1),r2))) <|
some (.inr s2.2)
noncomputable def f9p (a1 : List (List Bool)) (y1 : (List Int)) (s1 : Int × (List Bool)) : Option ((Int × (List Bool)) ⊕ ((List Bool))):=
sel (decide (s1.1 < (y1.length : Int))) ((iter (f9s a1 y1 s1) (0,s1.2)).bind fun y5 =>
some (.inl (w64 (s1.1 + 1),y5))) <|
some (.inr s1.2)
noncomputable def f4t (a0 : List Quad) (a1 : List (List Bool)) (a2 : Int) : Option ((List Bool)):=
(mk 1 12 false).bind fun r1 =>
(f27 a0 a2).bind fun y1 =>
(iter (f9p a1 y1) (0,r1)).bind fun y2 =>
some y2
def f77 (a0 : Quad) : Option ((List Int)):=
(f2y a0 600).bind fun y1 =>
sel (!y1) (some []) <|
(sel (a0.Op == 2) (some (a0.Op == 2)) <|
sel (a0.Op == 5) (some (a0.Op == 5)) <|
sel (a0.Op == 6) (some (a0.Op == 6)) <|
some (a0.Op == 9) : Option (Bool)).bind fun y2 =>
sel y2 (some [a0.A]) <|
sel (a0.Op == 3) (sel (a0.A == a0.B) (some [a0.A]) <|
some [min a0.A a0.B,max a0.A a0.B]) <|
some []
def f8o (y4 : (List Int)) (s1 : Int × (List Bool)) : Option ((Int × (List Bool)) ⊕ ((List Bool))):=
sel (decide (s1.1 < (y4.length : Int))) ((nth y4 s1.1).bind fun x2 =>
(nth s1.2 x2).bind fun x3 =>
(upd s1.2 x2 true).bind fun r3 =>
some (.inl (w64 (s1.1 + 1),r3))) <|
some (.inr s1.2)
noncomputable def f5x (a0 : Quad) (a1 : List Bool) : Option ((List Bool)):=
(app 1 [] a1).bind fun r1 =>
((f2a a0).bind fun y2 =>
sel (decide (y2 ≥ 0)) ((f2a a0).bind fun y3 =>
(nth r1 y3).bind fun x1 =>
(upd r1 y3 false).bind fun r2 =>
some r2) <|
some r1 : Option ((List Bool))).bind fun y1 =>
(f77 a0).bind fun y4 =>
(iter (f8o y4) (0,y1)).bind fun y5 =>
some y5
def f9x (a0 : List Bool) (a1 : List Bool) (s1 : Int) : Option (Int ⊕ (Bool ⊕ Unit)):=
sel (decide (s1 < (a0.length : Int))) ((nth a0 s1).bind fun x1 =>
(nth a1 s1).bind fun x2 =>
sel (x1 != x2) (some (.inr (.inl false))) <|
some (.inl (w64 (s1 + 1)))) <|
some (.inr (.inr ()))
noncomputable def f86 (a0 : List Bool) (a1 : List Bool) : Option (Bool):=
(iter (f9x a0 a1) 0).bind fun y1 =>
both y1 (fun o3=>some o3) (fun o4 =>
some ((a0.length : Int) == (a1.length : Int)))
noncomputable def f9i (a0 : List Quad) (s1 : Bool × Int × (List (List Bool))) : Option ((Bool × Int × (List (List Bool))) ⊕ (Bool × (List (List Bool)))):=
sel (decide (s1.2.1 ≥ 0)) (((nth a0 s1.2.1).bind fun x1 =>
(f4t a0 s1.2.2 s1.2.1).bind fun y5 =>
(f5x x1 y5).bind fun y6 =>
(nth s1.2.2 s1.2.1).bind fun x2 =>
(f86 y6 x2).bind fun y7 =>
sel (!y7) (some (true,(s1.2.2.set (Int.toNat s1.2.1) y6))) <|
some (s1.1,s1.2.2) : Option (Bool × (List (List Bool)))).bind fun y4 =>
some (.inl (y4.1,w64 (s1.2.1 - 1),y4.2))) <|
some (.inr (s1.1,s1.2.2))
noncomputable def f6w (a0 : List Quad) (a1 : List (List Bool)) : Option (Bool × (List (List Bool))):=
(iter (f9i a0) (false,w64 ((a0.length : Int) - 1),a1)).bind fun y1 =>
some (y1.1,y1.2)
def fah (a0 : List Quad) (s1 : (List (List Bool)) × Int) : Option (((List (List Bool)) × Int) ⊕ ((List (List Bool)))):=
sel (decide (s1.2 < (a0.length : Int))) ((mk 1 12 false).bind fun r1 =>
(app 24 s1.1 [r1]).bind fun r2 =>
some (.inl (r2,w64 (s1.2 + 1)))) <|
some (.inr s1.1)
noncomputable def fad (a0 : List Quad) (s2 : (List (List Bool))) : Option (((List (List Bool))) ⊕ ((List (List Bool)))):=
(f6w a0 s2).bind fun y8 =>
sel y8.1 (some (.inl y8.2)) <|
some (.inr y8.2)
noncomputable def f92 (a0 : List Quad) : Option ((List (List Bool))):=
(f0t a0).bind fun y1 =>
sel (!y1) (some []) <|
(iter (fah a0) ([],0)).bind fun y2 =>
(iter (fad a0) y2).bind fun y5 =>
some y5
def f8c (a0 : Quad) (a1 : List Bool) : Option (Bool):=
(sel (a0.Op == 1) (some (a0.Op == 1)) <|
sel (a0.Op == 2) (some (a0.Op == 2)) <|
some (a0.Op == 3) : Option (Bool)).bind fun y1 =>
sel y1 ((nth a1 a0.Dst).bind fun x1 =>
some (!x1)) <|
some false
noncomputable def f6i (a0 : List Quad) (y2 : (List (List Bool))) (s1 : (List Quad) × Int) : Option (((List Quad) × Int) ⊕ ((List Quad))):=
sel (decide (s1.2 < (a0.length : Int))) ((nth a0 s1.2).bind fun x1 =>
((f4t a0 y2 s1.2).bind fun y7 =>
(f8c x1 y7).bind fun y8 =>
sel y8 (some (Quad.mk 4 0 0 0 (w64 (s1.2 + 1)))) <|
some x1 : Option (Quad)).bind fun y6 =>
(app 40 s1.1 [y6]).bind fun r1 =>
some (.inl (r1,w64 (s1.2 + 1)))) <|
some (.inr s1.1)
noncomputable def f6n (a0 : List Quad) : Option ((List Quad) × Bool):=
(f0t a0).bind fun y1 =>
sel (!y1) (some ([],false)) <|
(f92 a0).bind fun y2 =>
(iter (f6i a0 y2) ([],0)).bind fun y3 =>
some (y3,true)
def f8q (y5 : (List Int)) (s2 : Bool × Int × (List Bool)) : Option ((Bool × Int × (List Bool)) ⊕ (Bool × (List Bool))):=
sel (decide (s2.2.1 < (y5.length : Int))) (((nth y5 s2.2.1).bind fun x2 =>
(nth s2.2.2 x2).bind fun x3 =>
sel (!x3) ((nth y5 s2.2.1).bind fun x4 =>
(nth s2.2.2 x4).bind fun x5 =>
(upd s2.2.2 x4 true).bind fun r1 =>
some (true,r1)) <|
some (s2.1,s2.2.2) : Option (Bool × (List Bool))).bind fun y9 =>
some (.inl (y9.1,w64 (s2.2.1 + 1),y9.2))) <|
some (.inr (s2.1,s2.2.2))
noncomputable def f8n (a0 : List Quad) (s1 : Bool × Int × (List Bool)) : Option ((Bool × Int × (List Bool)) ⊕ (Bool × (List Bool))):=
sel (decide (s1.2.1 < (a0.length : Int))) (((nth s1.2.2 s1.2.1).bind fun x1 =>
sel (!x1) (some (s1.1,s1.2.2)) <|
(f27 a0 s1.2.1).bind fun y5 =>
(iter (f8q y5) (s1.1,0,s1.2.2)).bind fun y6 =>
some (y6.1,y6.2) : Option (Bool × (List Bool))).bind fun y4 =>
some (.inl (y4.1,w64 (s1.2.1 + 1),y4.2))) <|
some (.inr (s1.1,s1.2.2))
noncomputable def f61 (a0 : List Quad) (a1 : List Bool) : Option (Bool × (List Bool)):=
(iter (f8n a0) (false,0,a1)).bind fun y1 =>
some (y1.1,y1.2)
noncomputable def f8p (a0 : List Quad) (s1 : (List Bool)) : Option (((List Bool)) ⊕ ((List Bool))):=
(f61 a0 s1).bind fun y5 =>
sel y5.1 (some (.inl y5.2)) <|
some (.inr y5.2)
noncomputable def f5q (a0 : List Quad) : Option ((List Bool)):=
(f0t a0).bind fun y1 =>
sel (!y1) (some []) <|
(mk 1 (a0.length : Int) false).bind fun r1 =>
(nth r1 0).bind fun x1 =>
(upd r1 0 true).bind fun r2 =>
(iter (f8p a0) r2).bind fun y2 =>
some y2
def f83 (a0 : Quad) (a1 : Int) : Option (Bool):=
(sel (a0.Op == 4) (some (a0.Op == 4)) <|
some (a0.Op == 5) : Option (Bool)).bind fun y1 =>
sel y1 (some (a0.N == (w64 (a1 + 1)))) <|
sel (a0.Op == 2) (some (a0.Dst == a0.A)) <|
some false
def f9e (a0 : List Bool) (a1 : Int) (s1 : Int × Int) : Option ((Int × Int) ⊕ Int):=
sel (decide (s1.2 < a1)) (((nth a0 s1.2).bind fun x1 =>
sel x1 (some (w64 (s1.1 + 1))) <|
some s1.1 : Option (Int)).bind fun y4 =>
some (.inl (y4,w64 (s1.2 + 1)))) <|
some (.inr s1.1)
noncomputable def f72 (a0 : List Bool) (a1 : Int) : Option (Int):=
(iter (f9e a0 a1) (0,0)).bind fun y1 =>
some y1
def f7i (a0 : List Quad) (s1 : Int × (List Bool)) : Option ((Int × (List Bool)) ⊕ ((List Bool))):=
sel (decide (s1.1 < (a0.length : Int))) ((nth s1.2 s1.1).bind fun x1 =>
(sel x1 ((nth a0 s1.1).bind fun x2=>(f83 x2 s1.1).bind fun y6=>some (!y6)) (some false) : Option (Bool)).bind fun b1 =>
(nth s1.2 s1.1).bind fun x3 =>
(upd s1.2 s1.1 b1).bind fun r1 =>
some (.inl (w64 (s1.1 + 1),r1))) <|
some (.inr s1.2)
noncomputable def f7g (a0 : List Quad) (y3 : (List Bool)) (s2 : (List Quad) × Int) : Option (((List Quad) × Int) ⊕ ((List Quad))):=
sel (decide (s2.2 < (a0.length : Int))) (((nth a0 s2.2).bind fun x4 =>
(nth y3 s2.2).bind fun x5 =>
sel (!x5) (some s2.1) <|
(sel ((x4.Op == 4) || (x4.Op == 5)) ((f72 y3 x4.N).bind fun y12 =>
some (Quad.mk x4.Op x4.Dst x4.A x4.B y12)) <|
some x4 : Option (Quad)).bind fun y11 =>
(app 40 s2.1 [y11]).bind fun r2 =>
some r2 : Option ((List Quad))).bind fun y10 =>
some (.inl (y10,w64 (s2.2 + 1)))) <|
some (.inr s2.1)
noncomputable def f4f (a0 : List Quad) : Option ((List Quad) × Bool):=
(f0t a0).bind fun y1 =>
sel (!y1) (some ([],false)) <|
(f5q a0).bind fun y2 =>
(iter (f7i a0) (0,y2)).bind fun y3 =>
(iter (f7g a0 y3) ([],0)).bind fun y7 =>
some (y7,true)
noncomputable def f7r (a0 : List Quad) : Option ((List Quad)):=
(f7c a0).bind fun y1 =>
(f73 y1.1).bind fun y2 =>
(f6y y2.1).bind fun y3 =>
(f6n y3.1).bind fun y4 =>
(f4f y4.1).bind fun y5 =>
some y5.1
noncomputable def f6g (a1 : Int) (s1 : (List Quad) × Int) : Option (((List Quad) × Int) ⊕ ((List Quad))):=
sel (decide (s1.2 < a1)) ((f7r s1.1).bind fun y6 =>
some (.inl (y6,w64 (s1.2 + 1)))) <|
some (.inr s1.1)
noncomputable def f3r (a0 : List Quad) (a1 : Int) : Option ((List Quad) × Bool):=
(f0t a0).bind fun y1 =>
(sel (!y1) (some true) ((f02 a1 0 4).bind fun y2=>some (!y2)) : Option (Bool)).bind fun b1 =>
sel b1 (some ([],false)) <|
(app 40 [] a0).bind fun r1 =>
(iter (f6g a1) (r1,0)).bind fun y3 =>
some (y3,true)
noncomputable def f84 (k : Nat) (a0 : L6Rd) : Option ((List Quad) × Int):=
(f01 (L6Rd.mk a0.b a0.p) 2).bind fun y1 =>
sel (y1.1 == 0) ((f4a (L6Rd.mk a0.b y1.2)).bind fun y2 =>
some (y2.1,y2.2)) <|
(f6q k (L6Rd.mk a0.b y1.2) 2).bind fun y3 =>
(f4h k y3.1).bind fun y4 =>
sel (decide ((y4.1.length : Int) > 40)) ((f4a (L6Rd.mk a0.b y3.2)).bind fun y5 =>
some (y5.1,y5.2)) <|
(f01 (L6Rd.mk a0.b y3.2) 3).bind fun y6 =>
(f3r y4.1 (w64 (Int.tdiv y6.1 2))).bind fun y7 =>
some (y7.1,y6.2)
noncomputable def f9o (a0 : L6Rd) (k : Nat) (y1 : Int × Int) (s1 : (List (List Quad)) × Int × Int) : Option (((List (List Quad)) × Int × Int) ⊕ ((List (List Quad)) × Int)):=
sel (decide (s1.2.1 < (w64 (1 + y1.1)))) ((f84 k (L6Rd.mk a0.b s1.2.2)).bind fun y5 =>
(app 24 s1.1 [y5.1]).bind fun r1 =>
some (.inl (r1,w64 (s1.2.1 + 1),y5.2))) <|
some (.inr (s1.1,s1.2.2))
noncomputable def f6l (k : Nat) (a0 : L6Rd) : Option ((List (List Quad)) × Int):=
(f01 (L6Rd.mk a0.b a0.p) 3).bind fun y1 =>
(iter (f9o a0 k y1) ([],0,y1.2)).bind fun y2 =>
some (y2.1,y2.2)
def f29 (a0 : Int) (a1 : Int) (a2 : Int) : Option (Int):=
sel (decide (a0 ≥ a1)) (some a2) <|
(nth [8,9,18,19,20,21,22,23] a0).bind fun x1 =>
some x1
def f2u (a0 : List Instr) (a1 : Int) (a2 : Int) : Option ((List Instr)):=
sel (decide (a1 < a2)) (some a0) <|
(app 40 a0 [(Instr.mk 16 0 2 7 (w64 (4 * (w64 (a1 - a2)))))]).bind fun r1 =>
some r1
def f1g (a0 : Int) : Option (Int):=
(f0v a0).bind fun y1 =>
sel (!y1) (some (-1)) <|
sel (decide (a0 < 0)) (some (w64 (a0 + 4294967296))) <|
some a0
def f3m (a0 : Int) (s1 : Int × Int) : Option ((Int × Int) ⊕ Int):=
sel (decide (s1.2 < a0)) (some (.inl (w64 (s1.1 * 2),w64 (s1.2 + 1)))) <|
some (.inr s1.1)
noncomputable def f0z (a0 : Int) : Option (Int):=
(iter (f3m a0) (1,0)).bind fun y1 =>
some y1
noncomputable def f14 (a0 : Int) (a1 : Int) : Option (Int):=
(f02 a1 1 32).bind fun y1 =>
(sel (!y1) (some true) ((f0z a1).bind fun y2=>(f02 a0 0 (w64 (y2 - 1))).bind fun y3=>some (!y3)) : Option (Bool)).bind fun b1 =>
sel b1 (some 0) <|
(f0z (w64 (a1 - 1))).bind fun y4 =>
sel (decide (a0 ≥ y4)) ((f0z a1).bind fun y5 =>
some (w64 (a0 - y5))) <|
some a0
noncomputable def f08 (a0 : Int) (a1 : Int) (a2 : Int) : Option (Int):=
(f02 a0 0 4294967295).bind fun y1 =>
(sel (!y1) (some true) ((f02 a1 0 31).bind fun y2=>some (!y2)) : Option (Bool)).bind fun b1 =>
(sel b1 (some true) ((f02 a2 1 (w64 (32 - a1))).bind fun y3=>some (!y3)) : Option (Bool)).bind fun b2 =>
sel b2 (some 0) <|
(f0z a1).bind fun y4 =>
(quoO .i64 a0 y4).bind fun d1 =>
(f0z a2).bind fun y5 =>
(remO d1 y5).bind fun d2 =>
some d2
noncomputable def f71 (a0 : Int) (a1 : Int) : Option ((List Instr)):=
(f02 a1 (-2048) 2047).bind fun y1 =>
sel y1 (some [(Instr.mk 12 a0 0 0 a1)]) <|
(f1g a1).bind fun y2 =>
(f08 y2 0 12).bind fun y3 =>
(f14 y3 12).bind fun y4 =>
(f0n (w64 (a1 - y4))).bind fun y5 =>
(f1g y5).bind fun y6 =>
(f08 y6 12 20).bind fun y7 =>
(app 40 [(Instr.mk 19 a0 0 0 y7)] [(Instr.mk 12 a0 a0 0 y4)]).bind fun r1 =>
some r1
def f2l (a0 : Int) (a1 : Int) (a2 : Int) : Option ((List Instr)):=
sel (decide (a0 < a1)) (some []) <|
some [(Instr.mk 14 a2 2 0 (w64 (4 * (w64 (a0 - a1)))))]
def f3d (a0 : Int) (a1 : Int) : Option (Instr):=
some (Instr.mk 12 a0 a1 0 0)
def fa7 (a0 : Int) : Option (Int):=
(nth [7,8,6,8,11,9,10,1,2,3,4,5] (w64 (a0 - 1))).bind fun x1 =>
some x1
def fak (a0 : Quad) (a1 : Int) : Option ((List Instr)):=
(f2l a0.A a1 5).bind fun y1 =>
(f2l a0.B a1 6).bind fun y2 =>
(app 40 y1 y2).bind fun r1 =>
(f29 a0.Dst a1 7).bind fun y3 =>
(fa7 a0.N).bind fun y4 =>
(f29 a0.A a1 5).bind fun y5 =>
(f29 a0.B a1 6).bind fun y6 =>
(app 40 r1 [(Instr.mk y4 y3 y5 y6 0)]).bind fun r2 =>
(sel (a0.N == 4) ((app 40 r2 [(Instr.mk 13 y3 y3 0 1)]).bind fun r3 =>
some r3) <|
some r2 : Option ((List Instr))).bind fun y7 =>
(f2u y7 a0.Dst a1).bind fun y8 =>
some y8
def fa0 (a0 : Quad) (a1 : Int) (a2 : Int) : Option ((List Instr)):=
(f2l a0.A a1 5).bind fun y1 =>
(f29 a0.A a1 5).bind fun y2 =>
(app 40 y1 [(Instr.mk 18 0 y2 0 8)]).bind fun r1 =>
(app 40 r1 [(Instr.mk 20 0 0 0 (w64 (a2 - (w64 (4 * (r1.length : Int))))))]).bind fun r2 =>
some r2
def f2n (a0 : List Instr) (a1 : Int) : Option ((List Instr)):=
(app 40 a0 [(Instr.mk 12 17 0 0 a1)]).bind fun r1 =>
(app 40 r1 [(Instr.mk 15 1 0 0 0)]).bind fun r2 =>
some r2
def f5y (a0 : Int) (a1 : Int) : Option ((List Instr)):=
(f2l a0 a1 5).bind fun y1 =>
(f29 a0 a1 5).bind fun y2 =>
(f3d 10 y2).bind fun y3 =>
(app 40 y1 [y3]).bind fun r1 =>
some r1
def f7f (a0 : Int) : Option (Instr):=
some (Instr.mk 12 11 0 0 a0)
noncomputable def f65 (a0 : Quad) (a1 : Int) (a2 : Int) : Option ((List Instr)):=
(f29 a0.Dst a1 7).bind fun y1 =>
sel (a0.Op == 1) ((f71 y1 a0.N).bind fun y2 =>
(f2u y2 a0.Dst a1).bind fun y3 =>
some y3) <|
sel (a0.Op == 2) ((f2l a0.A a1 5).bind fun y4 =>
(f29 a0.A a1 5).bind fun y5 =>
(f3d y1 y5).bind fun y6 =>
(app 40 y4 [y6]).bind fun r1 =>
(f2u r1 a0.Dst a1).bind fun y7 =>
some y7) <|
sel (a0.Op == 3) ((fak a0 a1).bind fun y8 =>
some y8) <|
sel (a0.Op == 4) (some [(Instr.mk 20 0 0 0 a2)]) <|
sel (a0.Op == 5) ((fa0 a0 a1 a2).bind fun y9 =>
some y9) <|
sel (a0.Op == 6) ((f5y a0.A a1).bind fun y10 =>
(f7f a0.N).bind fun y11 =>
(app 40 y10 [y11]).bind fun r2 =>
(f2n r2 1).bind fun y12 =>
some y12) <|
sel (a0.Op == 7) ((f7f a0.N).bind fun y13 =>
(f2n [y13] 2).bind fun y14 =>
(f3d y1 10).bind fun y15 =>
(app 40 y14 [y15]).bind fun r3 =>
(f2u r3 a0.Dst a1).bind fun y16 =>
some y16) <|
sel (a0.Op == 8) ((f2n [] 3).bind fun y17 =>
some y17) <|
sel (a0.Op == 9) ((f5y a0.A a1).bind fun y18 =>
(f2n y18 4).bind fun y19 =>
some y19) <|
(f2n [] 5).bind fun y20 =>
some y20
noncomputable def f8r (a0 : List Quad) (a1 : Int) (s1 : (List Int) × Int × Int) : Option (((List Int) × Int × Int) ⊕ ((List Int))):=
sel (decide (s1.2.2 < (a0.length : Int))) ((app 8 s1.1 [s1.2.1]).bind fun r1 =>
(nth a0 s1.2.2).bind fun x1 =>
(f65 x1 a1 0).bind fun y4 =>
some (.inl (r1,w64 (s1.2.1 + (y4.length : Int)),w64 (s1.2.2 + 1)))) <|
some (.inr s1.1)
noncomputable def f5o (a0 : List Quad) (a1 : Int) : Option ((List Int)):=
(iter (f8r a0 a1) ([],0,0)).bind fun y1 =>
some y1
noncomputable def faa (a0 : List Quad) (a1 : Int) (y1 : (List Int)) (s1 : (List Instr) × Int) : Option (((List Instr) × Int) ⊕ ((List Instr))):=
sel (decide (s1.2 < (a0.length : Int))) (((nth a0 s1.2).bind fun x1 =>
(sel (x1.Op == 4) (some true) ((nth a0 s1.2).bind fun x2=>some (x2.Op == 5)) : Option (Bool)).bind fun b1 =>
sel b1 ((nth a0 s1.2).bind fun x3 =>
(nth y1 x3.N).bind fun x4 =>
(nth y1 s1.2).bind fun x5 =>
some (w64 (4 * (w64 (x4 - x5))))) <|
some 0 : Option (Int)).bind fun y5 =>
(nth a0 s1.2).bind fun x6 =>
(f65 x6 a1 y5).bind fun y6 =>
(app 40 s1.1 y6).bind fun r1 =>
some (.inl (r1,w64 (s1.2 + 1)))) <|
some (.inr s1.1)
noncomputable def f8b (a0 : List Quad) (a1 : Int) : Option ((List Instr)):=
(f5o a0 a1).bind fun y1 =>
(iter (faa a0 a1 y1) ([],0)).bind fun y2 =>
some y2
noncomputable def f9c (y1 : (List (List Quad)) × Int) (y2 : Int × Int) (s1 : (List (List Instr)) × Int) : Option (((List (List Instr)) × Int) ⊕ ((List (List Instr)))):=
sel (decide (s1.2 < (y1.1.length : Int))) ((nth y1.1 s1.2).bind fun x1 =>
(f8b x1 (w64 (1 + y2.1))).bind fun y6 =>
(app 24 s1.1 [y6]).bind fun r1 =>
some (.inl (r1,w64 (s1.2 + 1)))) <|
some (.inr s1.1)
noncomputable def f6o (k : Nat) (a0 : L6Rd) : Option ((List (List Instr)) × Int):=
(f6l k (L6Rd.mk a0.b a0.p)).bind fun y1 =>
(f01 (L6Rd.mk a0.b y1.2) 8).bind fun y2 =>
(iter (f9c y1 y2) ([],0)).bind fun y3 =>
some (y3,y2.2)
def f1c (a0 : List Int) (s1 : Int) : Option (Int ⊕ (Bool ⊕ Unit)):=
sel (decide (s1 < (a0.length : Int))) ((nth a0 s1).bind fun x1 =>
(f02 x1 1 4).bind fun y4 =>
sel (!y4) (some (.inr (.inl false))) <|
some (.inl (w64 (s1 + 1)))) <|
some (.inr (.inr ()))
noncomputable def f3n (a0 : List Int) : Option (Bool):=
(iter (f1c a0) 0).bind fun y1 =>
both y1 (fun o3=>some o3) (fun o4 =>
some (decide ((a0.length : Int) ≤ 3)))
def f6j (a0 : List Int) (s1 : (List Box) × Int) : Option (((List Box) × Int) ⊕ ((List Box))):=
sel (decide (s1.2 < (a0.length : Int))) ((nth a0 s1.2).bind fun x1 =>
(app 32 s1.1 [(Box.mk x1 [])]).bind fun r1 =>
some (.inl (r1,w64 (s1.2 + 1)))) <|
some (.inr s1.1)
noncomputable def f78 (a0 : List Int) : Option ((List Box)):=
(iter (f6j a0) ([],0)).bind fun y1 =>
some y1
def f1n (a0 : Instr) (a1 : Int) (a2 : Int) (a3 : Int) : Option (Bool):=
(f02 a0.Rd 0 (w64 (a1 * 31))).bind fun y1 =>
(sel y1 ((f02 a0.Rs 0 (w64 (a2 * 31))).bind fun y2=>some y2) (some false) : Option (Bool)).bind fun b1 =>
(sel b1 ((f02 a0.Rt 0 (w64 (a3 * 31))).bind fun y3=>some y3) (some false) : Option (Bool)).bind fun b2 =>
some b2
def f5l (a0 : Int) (a1 : Int) (a2 : Int) : Option (Bool):=
(f02 a0 a1 a2).bind fun y1 =>
some (y1 && ((Int.tmod a0 2) == 0))
def f2m (a0 : Instr) : Option (Bool):=
(f02 a0.Op 1 11).bind fun y1 =>
sel y1 ((f1n a0 1 1 1).bind fun y2 =>
some (y2 && (a0.Imm == 0))) <|
(f02 a0.Op 12 15).bind fun y3 =>
sel y3 ((f1n a0 1 1 0).bind fun y4 =>
(sel y4 ((f02 a0.Imm (-2048) 2047).bind fun y5=>some y5) (some false) : Option (Bool)).bind fun b1 =>
some b1) <|
sel (a0.Op == 16) ((f1n a0 0 1 1).bind fun y6 =>
(sel y6 ((f02 a0.Imm (-2048) 2047).bind fun y7=>some y7) (some false) : Option (Bool)).bind fun b2 =>
some b2) <|
sel ((a0.Op == 17) || (a0.Op == 18)) ((f1n a0 0 1 1).bind fun y8 =>
(sel y8 ((f5l a0.Imm (-4096) 4094).bind fun y9=>some y9) (some false) : Option (Bool)).bind fun b3 =>
some b3) <|
sel (a0.Op == 19) ((f1n a0 1 0 0).bind fun y10 =>
(sel y10 ((f02 a0.Imm 0 1048575).bind fun y11=>some y11) (some false) : Option (Bool)).bind fun b4 =>
some b4) <|
sel (a0.Op == 20) ((f1n a0 1 0 0).bind fun y12 =>
(sel y12 ((f5l a0.Imm (-1048576) 1048574).bind fun y13=>some y13) (some false) : Option (Bool)).bind fun b5 =>
some b5) <|
(sel (a0.Op == 21) ((f1n a0 0 0 0).bind fun y14=>some y14) (some false) : Option (Bool)).bind fun b6 =>
some (b6 && (a0.Imm == 0))
def f43 (a0 : Int) (a1 : Int) : Option (Int):=
sel (decide (a0 < 0)) (some (w64 (a0 + a1))) <|
some a0
noncomputable def f0h (a0 : Int) (a1 : Int) : Option (Int):=
(f0z a1).bind fun y1 =>
some (w64 (a0 * y1))
def f4u (a0 : Int) : Option (Int):=
(nth [0,0,0,4,6,7,6,4,1,5,2,0,3,2,0,2,0,1,0,0,0] (w64 (a0 - 1))).bind fun x1 =>
some x1
noncomputable def f41 (a0 : Instr) (a1 : Int) : Option (Int):=
(f0h a0.Rs 15).bind fun y1 =>
(f4u a0.Op).bind fun y2 =>
(f0h y2 12).bind fun y3 =>
some (w64 ((w64 (y1 + y3)) + a1))
noncomputable def f5d (a0 : Instr) (a1 : Int) : Option (Int):=
(f43 a0.Imm 4096).bind fun y1 =>
(f0h y1 20).bind fun y2 =>
(f41 a0 a1).bind fun y3 =>
(f0h a0.Rd 7).bind fun y4 =>
some (w64 ((w64 (y2 + y3)) + y4))
noncomputable def f62 (a0 : Instr) : Option (Int):=
(f43 a0.Imm 8192).bind fun y1 =>
(f08 y1 12 1).bind fun y2 =>
(f0h y2 31).bind fun y3 =>
(f08 y1 5 6).bind fun y4 =>
(f0h y4 25).bind fun y5 =>
(f0h a0.Rt 20).bind fun y6 =>
(f41 a0 99).bind fun y7 =>
(f08 y1 1 4).bind fun y8 =>
(f0h y8 8).bind fun y9 =>
(f08 y1 11 1).bind fun y10 =>
(f0h y10 7).bind fun y11 =>
some (w64 ((w64 ((w64 ((w64 ((w64 (y3 + y5)) + y6)) + y7)) + y9)) + y11))
noncomputable def f8d (a0 : Instr) : Option (Int):=
(f43 a0.Imm 2097152).bind fun y1 =>
(f08 y1 20 1).bind fun y2 =>
(f0h y2 31).bind fun y3 =>
(f08 y1 1 10).bind fun y4 =>
(f0h y4 21).bind fun y5 =>
(f08 y1 11 1).bind fun y6 =>
(f0h y6 20).bind fun y7 =>
(f08 y1 12 8).bind fun y8 =>
(f0h y8 12).bind fun y9 =>
(f0h a0.Rd 7).bind fun y10 =>
some (w64 ((w64 ((w64 ((w64 ((w64 (y3 + y5)) + y7)) + y9)) + y10)) + 111))
def f4s (a0 : Int) : Option (Int):=
(nth [0,32,1,1,1,0,0,0,0,32,0] (w64 (a0 - 1))).bind fun x1 =>
some x1
noncomputable def f0r (a0 : Instr) : Option (Int):=
(sel (a0.Op == 12) (some (a0.Op == 12)) <|
some (a0.Op == 13) : Option (Bool)).bind fun y1 =>
sel y1 ((f5d a0 19).bind fun y2 =>
some y2) <|
sel (a0.Op == 14) ((f5d a0 3).bind fun y3 =>
some y3) <|
sel (a0.Op == 15) ((f5d a0 103).bind fun y4 =>
some y4) <|
sel (a0.Op == 16) ((f43 a0.Imm 4096).bind fun y5 =>
(f08 y5 5 7).bind fun y6 =>
(f0h y6 25).bind fun y7 =>
(f0h a0.Rt 20).bind fun y8 =>
(f41 a0 35).bind fun y9 =>
(f08 y5 0 5).bind fun y10 =>
(f0h y10 7).bind fun y11 =>
some (w64 ((w64 ((w64 (y7 + y8)) + y9)) + y11))) <|
(sel (a0.Op == 17) (some (a0.Op == 17)) <|
some (a0.Op == 18) : Option (Bool)).bind fun y12 =>
sel y12 ((f62 a0).bind fun y13 =>
some y13) <|
sel (a0.Op == 19) ((f0h a0.Imm 12).bind fun y14 =>
(f0h a0.Rd 7).bind fun y15 =>
some (w64 ((w64 (y14 + y15)) + 55))) <|
sel (a0.Op == 20) ((f8d a0).bind fun y16 =>
some y16) <|
sel (a0.Op == 21) (some 115) <|
(f4s a0.Op).bind fun y17 =>
(f0h y17 25).bind fun y18 =>
(f0h a0.Rt 20).bind fun y19 =>
(f41 a0 51).bind fun y20 =>
(f0h a0.Rd 7).bind fun y21 =>
some (w64 ((w64 ((w64 (y18 + y19)) + y20)) + y21))
noncomputable def f1q (a0 : Instr) : Option (Int × Bool):=
(f2m a0).bind fun y1 =>
sel (!y1) (some (0,false)) <|
(f0r a0).bind fun y2 =>
some (y2,true)
noncomputable def f3l (a1 : List Instr) (s1 : (List Int) × Int) : Option (((List Int) × Int) ⊕ (((List Int) × Bool) ⊕ ((List Int)))):=
sel (decide (s1.2 < (a1.length : Int))) ((nth a1 s1.2).bind fun x1 =>
(f1q x1).bind fun y4 =>
sel (!y4.2) (some (.inr (.inl (s1.1,false)))) <|
(f0n y4.1).bind fun y5 =>
(app 8 s1.1 [y5]).bind fun r1 =>
some (.inl (r1,w64 (s1.2 + 1)))) <|
some (.inr (.inr s1.1))
noncomputable def f7y (a0 : List Int) (a1 : List Instr) : Option ((List Int) × Bool):=
(iter (f3l a1) (a0,0)).bind fun y1 =>
both y1 (fun o3=>some o3) (fun o4 =>
some (o4,true))
noncomputable def f2t (a0 : List Instr) : Option (Machine × Bool):=
sel (decide ((a0.length : Int) > 9987)) (some ((Machine.mk [] 0 []),false)) <|
(f7y [0] a0).bind fun y1 =>
sel (!y1.2) (some ((Machine.mk [] 0 []),false)) <|
(mk 8 32 0).bind fun r1 =>
(nth r1 2).bind fun x1 =>
(upd r1 2 (w64 (4 * (y1.1.length : Int)))).bind fun r2 =>
(appz 8 y1.1 12 0).bind fun r3 =>
some ((Machine.mk r2 4 r3),true)
noncomputable def f4p (a1 : List (List Instr)) (s1 : Int × (List Machine)) : Option ((Int × (List Machine)) ⊕ ((Squad × Bool) ⊕ ((List Machine)))):=
sel (decide (s1.1 < (a1.length : Int))) ((nth a1 s1.1).bind fun x1 =>
(f2t x1).bind fun y7 =>
sel (!y7.2) (some (.inr (.inl ((Squad.mk [] [] 0 0 []),false)))) <|
(app 56 s1.2 [(Machine.mk y7.1.Regs y7.1.Pc y7.1.Mem)]).bind fun r1 =>
some (.inl (w64 (s1.1 + 1),r1))) <|
some (.inr (.inr s1.2))
noncomputable def f6m (a0 : List Int) (a1 : List (List Instr)) : Option (Squad × Bool):=
(f3n a0).bind fun y1 =>
(sel (!y1) (some true) ((f02 (a1.length : Int) 1 3).bind fun y2=>some (!y2)) : Option (Bool)).bind fun b1 =>
sel b1 (some ((Squad.mk [] [] 0 0 []),false)) <|
(f78 a0).bind fun y3 =>
(iter (f4p a1) (0,[])).bind fun y4 =>
both y4 (fun o3=>some o3) (fun o4 =>
some ((Squad.mk o4 y3 0 0 []),true))
def f59 (a0 : List Int) (s1 : Int) : Option (Int ⊕ (Bool ⊕ Unit)):=
sel (decide (s1 < (a0.length : Int))) ((nth a0 s1).bind fun x1 =>
(f0v x1).bind fun y4 =>
sel (!y4) (some (.inr (.inl false))) <|
some (.inl (w64 (s1 + 1)))) <|
some (.inr (.inr ()))
noncomputable def f1p (a0 : List Int) (a1 : Int) : Option (Bool):=
sel ((a0.length : Int) != a1) (some false) <|
(iter (f59 a0) 0).bind fun y1 =>
both y1 (fun o3=>some o3) (fun o4 =>
some true)
noncomputable def f3q (a0 : Box) : Option (Bool):=
(f02 a0.Room 1 4).bind fun y1 =>
(sel (y1 && (decide ((a0.Items.length : Int) ≤ a0.Room))) ((f1p a0.Items (a0.Items.length : Int)).bind fun y2=>some y2) (some false) : Option (Bool)).bind fun b1 =>
some b1
noncomputable def f4k (a0 : List Box) (s1 : Int) : Option (Int ⊕ (Bool ⊕ Unit)):=
sel (decide (s1 < (a0.length : Int))) ((nth a0 s1).bind fun x1 =>
(f3q (Box.mk x1.Room x1.Items)).bind fun y4 =>
sel (!y4) (some (.inr (.inl false))) <|
some (.inl (w64 (s1 + 1)))) <|
some (.inr (.inr ()))
noncomputable def f6v (a0 : List Box) : Option (Bool):=
(iter (f4k a0) 0).bind fun y1 =>
both y1 (fun o3=>some o3) (fun o4 =>
some (decide ((a0.length : Int) ≤ 3)))
noncomputable def f3v (a0 : Machine) : Option (Bool):=
(f1p a0.Regs 32).bind fun y1 =>
(sel y1 ((nth a0.Regs 0).bind fun x1=>some (x1 == 0)) (some false) : Option (Bool)).bind fun b1 =>
(sel b1 ((f0v a0.Pc).bind fun y2=>some y2) (some false) : Option (Bool)).bind fun b2 =>
(sel (b2 && (decide ((a0.Mem.length : Int) ≤ 10000))) ((f1p a0.Mem (a0.Mem.length : Int)).bind fun y3=>some y3) (some false) : Option (Bool)).bind fun b3 =>
some b3
noncomputable def f4l (a0 : Squad) (s1 : Int) : Option (Int ⊕ (Bool ⊕ Unit)):=
sel (decide (s1 < (a0.Harts.length : Int))) ((nth a0.Harts s1).bind fun x1 =>
(f3v (Machine.mk x1.Regs x1.Pc x1.Mem)).bind fun y8 =>
sel (!y8) (some (.inr (.inl false))) <|
some (.inl (w64 (s1 + 1)))) <|
some (.inr (.inr ()))
noncomputable def f4r (a0 : Squad) : Option (Bool):=
(f02 (a0.Harts.length : Int) 1 3).bind fun y1 =>
(sel (!y1) (some true) ((f6v a0.Boxes).bind fun y2=>some (!y2)) : Option (Bool)).bind fun b1 =>
(sel b1 (some true) ((f02 a0.Turn 0 (w64 ((a0.Harts.length : Int) - 1))).bind fun y3=>some (!y3)) : Option (Bool)).bind fun b2 =>
(sel b2 (some true) ((f02 a0.Idle 0 (a0.Harts.length : Int)).bind fun y4=>some (!y4)) : Option (Bool)).bind fun b3 =>
sel b3 (some false) <|
(iter (f4l a0) 0).bind fun y5 =>
both y5 (fun o3=>some o3) (fun o4 =>
(f1p a0.Out (a0.Out.length : Int)).bind fun y9 =>
some y9)
def f2i (a0 : List Box) (s1 : (List Box) × Int) : Option (((List Box) × Int) ⊕ ((List Box))):=
sel (decide (s1.2 < (a0.length : Int))) ((nth a0 s1.2).bind fun x1 =>
(nth a0 s1.2).bind fun x2 =>
(app 8 [] x2.Items).bind fun r1 =>
(app 32 s1.1 [(Box.mk x1.Room r1)]).bind fun r2 =>
some (.inl (r2,w64 (s1.2 + 1)))) <|
some (.inr s1.1)
noncomputable def f3x (a0 : List Box) : Option ((List Box)):=
(iter (f2i a0) ([],0)).bind fun y1 =>
some y1
def f85 (a0 : Machine) : Option (Machine):=
(app 8 [] a0.Regs).bind fun r1 =>
(app 8 [] a0.Mem).bind fun r2 =>
some (Machine.mk r1 a0.Pc r2)
def f4z (a0 : Squad) (s1 : Int × (List Machine)) : Option ((Int × (List Machine)) ⊕ ((List Machine))):=
sel (decide (s1.1 < (a0.Harts.length : Int))) ((nth a0.Harts s1.1).bind fun x1 =>
(f85 (Machine.mk x1.Regs x1.Pc x1.Mem)).bind fun y5 =>
(app 56 s1.2 [(Machine.mk y5.Regs y5.Pc y5.Mem)]).bind fun r2 =>
some (.inl (w64 (s1.1 + 1),r2))) <|
some (.inr s1.2)
noncomputable def f7t (a0 : Squad) : Option (Squad):=
(f3x a0.Boxes).bind fun y1 =>
(app 8 [] a0.Out).bind fun r1 =>
(iter (f4z a0) (0,[])).bind fun y2 =>
some (Squad.mk y2 y1 a0.Turn a0.Idle r1)
def f5t (a0 : Machine) (a1 : Int) : Option (Bool):=
(nth a0.Regs 17).bind fun x1 =>
(sel (a0.Pc != 0) (some true) ((f02 x1 1 5).bind fun y1=>some (!y1)) : Option (Bool)).bind fun b1 =>
sel b1 (some false) <|
(sel ((x1 != 1) && (x1 != 2)) (some true) ((nth a0.Regs 11).bind fun x2=>(f02 x2 0 (w64 (a1 - 1))).bind fun y2=>some y2) : Option (Bool)).bind fun b2 =>
some b2
noncomputable def f5e (a0 : Box) (a1 : Int) : Option (Box × Bool):=
(f3q (Box.mk a0.Room a0.Items)).bind fun y1 =>
(sel (!y1) (some true) ((f0v a1).bind fun y2=>some (!y2)) : Option (Bool)).bind fun b1 =>
sel (b1 || (decide ((a0.Items.length : Int) ≥ a0.Room))) (some ((Box.mk 0 []),false)) <|
(app 8 [] a0.Items).bind fun r1 =>
(app 8 r1 [a1]).bind fun r2 =>
some ((Box.mk a0.Room r2),true)
noncomputable def f4m (a0 : Box) : Option (Box × Int × Bool):=
(f3q (Box.mk a0.Room a0.Items)).bind fun y1 =>
sel ((!y1) || ((a0.Items.length : Int) == 0)) (some ((Box.mk 0 []),0,false)) <|
(cut a0.Items 1 (a0.Items.length : Int)).bind fun r1 =>
(nth a0.Items 0).bind fun x1 =>
(app 8 [] r1).bind fun r2 =>
some ((Box.mk a0.Room r2),x1,true)
noncomputable def f4n (a0 : Machine) (a1 : List Box) : Option (Int × (List Int) × Int × (List Box)):=
(nth a0.Regs 11).bind fun x1 =>
(nth a0.Regs 17).bind fun x2 =>
sel (x2 == 1) ((nth a1 x1).bind fun x3 =>
(nth a0.Regs 10).bind fun x5 =>
(f5e (Box.mk x3.Room x3.Items) x5).bind fun y2 =>
sel (!y2.2) (some (3,a0.Regs,a0.Pc,a1)) <|
(nth a1 x1).bind fun x6 =>
(nth a0.Regs 1).bind fun x7 =>
some (1,a0.Regs,x7,(a1.set (Int.toNat x1) (Box.mk y2.1.Room y2.1.Items)))) <|
(nth a1 x1).bind fun x8 =>
(f4m (Box.mk x8.Room x8.Items)).bind fun y3 =>
sel (!y3.2.2) (some (3,a0.Regs,a0.Pc,a1)) <|
(nth a0.Regs 10).bind fun x9 =>
(upd a0.Regs 10 y3.2.1).bind fun r1 =>
(nth r1 1).bind fun x10 =>
some (1,r1,x10,(a1.set (Int.toNat x1) (Box.mk y3.1.Room y3.1.Items)))
noncomputable def f1o (a0 : Machine) (a1 : List Box) : Option ((List Int) × Int × (List Int) × Int × (List Box)):=
(nth a0.Regs 17).bind fun x1 =>
(sel (x1 == 1) (some (x1 == 1)) <|
some (x1 == 2) : Option (Bool)).bind fun y1 =>
sel y1 ((f4n (Machine.mk a0.Regs a0.Pc a0.Mem) a1).bind fun y2 =>
some ([],y2.1,y2.2.1,y2.2.2.1,y2.2.2.2)) <|
sel (x1 == 5) (some ([],4,a0.Regs,a0.Pc,a1)) <|
(nth a0.Regs 1).bind fun x2 =>
(nth a0.Regs 17).bind fun x3 =>
sel (x3 == 4) ((nth a0.Regs 10).bind fun x4 =>
some ([x4],1,a0.Regs,x2,a1)) <|
some ([],2,a0.Regs,x2,a1)
def f2r (a0 : List Int) (a1 : Int) : Option (Bool):=
some (((decide (a1 ≥ 0)) && ((Int.tmod a1 4) == 0)) && (decide ((w64 (Int.tdiv a1 4)) < (a0.length : Int))))
noncomputable def f6s (a0 : Int) (s1 : Int) : Option (Int ⊕ (Int ⊕ Unit)):=
sel (decide (s1 ≤ 11)) ((f08 a0 12 3).bind fun y5 =>
(f4u s1).bind fun y6 =>
(sel (y5 == y6) ((f08 a0 25 7).bind fun y7=>(f4s s1).bind fun y8=>some (y7 == y8)) (some false) : Option (Bool)).bind fun b1 =>
sel b1 (some (.inr (.inl s1))) <|
some (.inl (w64 (s1 + 1)))) <|
some (.inr (.inr ()))
noncomputable def f50 (a0 : Int) : Option (Int):=
(f08 a0 0 7).bind fun y1 =>
sel (y1 == 51) ((iter (f6s a0) 1).bind fun y2 =>
both y2 (fun o3=>some o3) (fun o4 =>
some 0)) <|
sel (y1 == 19) ((f08 a0 12 3).bind fun y9 =>
sel (y9 == 0) (some 12) <|
some 13) <|
sel (y1 == 3) (some 14) <|
sel (y1 == 103) (some 15) <|
sel (y1 == 35) (some 16) <|
sel (y1 == 99) ((f08 a0 12 3).bind fun y10 =>
sel (y10 == 0) (some 17) <|
some 18) <|
sel (y1 == 55) (some 19) <|
sel (y1 == 111) (some 20) <|
sel (y1 == 115) (some 21) <|
some 0
noncomputable def f0b (a0 : Int) (a1 : Int) : Option (Instr):=
(f08 a1 7 5).bind fun y1 =>
(f08 a1 15 5).bind fun y2 =>
(f08 a1 20 5).bind fun y3 =>
sel (decide (a0 ≤ 11)) (some (Instr.mk a0 y1 y2 y3 0)) <|
sel (decide (a0 ≤ 15)) ((f08 a1 20 12).bind fun y4 =>
(f14 y4 12).bind fun y5 =>
some (Instr.mk a0 y1 y2 0 y5)) <|
sel (a0 == 16) ((f08 a1 25 7).bind fun y6 =>
(f14 (w64 ((w64 (y6 * 32)) + y1)) 12).bind fun y7 =>
some (Instr.mk a0 0 y2 y3 y7)) <|
sel ((a0 == 17) || (a0 == 18)) ((f08 a1 31 1).bind fun y8 =>
(f08 a1 7 1).bind fun y9 =>
(f08 a1 25 6).bind fun y10 =>
(f08 a1 8 4).bind fun y11 =>
(f14 (w64 ((w64 ((w64 ((w64 (y8 * 4096)) + (w64 (y9 * 2048)))) + (w64 (y10 * 32)))) + (w64 (y11 * 2)))) 13).bind fun y12 =>
some (Instr.mk a0 0 y2 y3 y12)) <|
sel (a0 == 19) ((f08 a1 12 20).bind fun y13 =>
some (Instr.mk a0 y1 0 0 y13)) <|
sel (a0 == 20) ((f08 a1 31 1).bind fun y14 =>
(f08 a1 12 8).bind fun y15 =>
(f08 a1 20 1).bind fun y16 =>
(f08 a1 21 10).bind fun y17 =>
(f14 (w64 ((w64 ((w64 ((w64 (y14 * 1048576)) + (w64 (y15 * 4096)))) + (w64 (y16 * 2048)))) + (w64 (y17 * 2)))) 21).bind fun y18 =>
some (Instr.mk a0 y1 0 0 y18)) <|
some (Instr.mk a0 0 0 0 0)
noncomputable def f1d (a0 : Int) : Option (Instr × Bool):=
(f02 a0 0 4294967295).bind fun y1 =>
(sel (!y1) (some true) ((f50 a0).bind fun y2=>some (y2 == 0)) : Option (Bool)).bind fun b1 =>
sel b1 (some ((Instr.mk 0 0 0 0 0),false)) <|
(f50 a0).bind fun y3 =>
(f0b y3 a0).bind fun y4 =>
(f0r y4).bind fun y5 =>
sel (y5 != a0) (some ((Instr.mk 0 0 0 0 0),false)) <|
some (y4,true)
def f25 (a0 : Machine) (a1 : Int) (a2 : Int) : Option ((List Int)):=
sel (a1 != 0) ((nth a0.Regs a1).bind fun x1 =>
(upd a0.Regs a1 a2).bind fun r1 =>
some r1) <|
some a0.Regs
def fb2 (a0 : Machine) (a1 : Instr) : Option (Bool × (List Int) × Int × (List Int)):=
(nth a0.Regs a1.Rs).bind fun x1 =>
(f0n (w64 (x1 + a1.Imm))).bind fun y1 =>
(f2r a0.Mem y1).bind fun y2 =>
sel (!y2) (some (false,a0.Regs,a0.Pc,a0.Mem)) <|
(sel (a1.Op == 14) ((nth a0.Mem (w64 (Int.tdiv y1 4))).bind fun x2 =>
(f25 (Machine.mk a0.Regs a0.Pc a0.Mem) a1.Rd x2).bind fun y4 =>
some (y4,a0.Mem)) <|
(nth a0.Regs a1.Rt).bind fun x3 =>
(nth a0.Mem (w64 (Int.tdiv y1 4))).bind fun x4 =>
(upd a0.Mem (w64 (Int.tdiv y1 4)) x3).bind fun r1 =>
some (a0.Regs,r1) : Option ((List Int) × (List Int))).bind fun y3 =>
some (true,y3.1,w64 (a0.Pc + 4),y3.2)
def fav (a0 : Machine) (a1 : Instr) : Option ((List Int) × Int):=
(f0n (w64 (a0.Pc + 4))).bind fun y1 =>
(nth a0.Regs a1.Rs).bind fun x1 =>
(nth a0.Regs a1.Rt).bind fun x2 =>
sel (a1.Op == 15) ((nth a0.Regs a1.Rs).bind fun x3 =>
(f0n (w64 (x3 + a1.Imm))).bind fun y2 =>
(f25 (Machine.mk a0.Regs a0.Pc a0.Mem) a1.Rd y1).bind fun y3 =>
some (y3,w64 (y2 - (bitsI .and .i64 y2 1)))) <|
sel (a1.Op == 20) ((f25 (Machine.mk a0.Regs a0.Pc a0.Mem) a1.Rd y1).bind fun y4 =>
(f0n (w64 (a0.Pc + a1.Imm))).bind fun y5 =>
some (y4,y5)) <|
sel ((x1 == x2) == (a1.Op == 17)) ((f0n (w64 (a0.Pc + a1.Imm))).bind fun y6 =>
some (a0.Regs,y6)) <|
some (a0.Regs,y1)
def fai (a0 : Int) (a1 : Int) (a2 : Int) : Option (Int):=
(nth [8,9,10,11,12,3,1,2,6,7,5] (w64 (a0 - 1))).bind fun x1 =>
(f53 x1 a1 a2).bind fun y1 =>
some y1.1
def f1e (a0 : Machine) (a1 : Instr) : Option (Bool × (List Int) × Int × (List Int)):=
(nth a0.Regs a1.Rs).bind fun x1 =>
((sel (a1.Op == 14) (some (a1.Op == 14)) <|
some (a1.Op == 16) : Option (Bool)).bind fun y2 =>
sel y2 ((fb2 (Machine.mk a0.Regs a0.Pc a0.Mem) a1).bind fun y3 =>
some (.inr (y3.1,y3.2.1,y3.2.2.1,y3.2.2.2))) <|
(sel (a1.Op == 15) (some (a1.Op == 15)) <|
sel (a1.Op == 20) (some (a1.Op == 20)) <|
sel (a1.Op == 17) (some (a1.Op == 17)) <|
some (a1.Op == 18) : Option (Bool)).bind fun y4 =>
sel y4 ((fav (Machine.mk a0.Regs a0.Pc a0.Mem) a1).bind fun y5 =>
some (.inr (true,y5.1,y5.2,a0.Mem))) <|
sel (a1.Op == 12) ((f0n (w64 (x1 + a1.Imm))).bind fun y6 =>
(f25 (Machine.mk a0.Regs a0.Pc a0.Mem) a1.Rd y6).bind fun y7 =>
some (.inl y7)) <|
sel (a1.Op == 13) ((f1g x1).bind fun y8 =>
(f1g a1.Imm).bind fun y9 =>
(f44 (decide (y8 < y9))).bind fun y10 =>
(f25 (Machine.mk a0.Regs a0.Pc a0.Mem) a1.Rd y10).bind fun y11 =>
some (.inl y11)) <|
sel (a1.Op == 19) ((f0n (w64 (a1.Imm * 4096))).bind fun y12 =>
(f25 (Machine.mk a0.Regs a0.Pc a0.Mem) a1.Rd y12).bind fun y13 =>
some (.inl y13)) <|
(nth a0.Regs a1.Rt).bind fun x2 =>
(fai a1.Op x1 x2).bind fun y14 =>
(f25 (Machine.mk a0.Regs a0.Pc a0.Mem) a1.Rd y14).bind fun y15 =>
some (.inl y15) : Option (((List Int)) ⊕ (Bool × (List Int) × Int × (List Int)))).bind fun y1 =>
both y1 (fun o3=>some (true,o3,w64 (a0.Pc + 4),a0.Mem)) (fun o4 =>
some o4)
noncomputable def f3g (a0 : Machine) : Option (Int × (List Int) × Int × (List Int)):=
(f2r a0.Mem a0.Pc).bind fun y1 =>
sel (!y1) (some (3,a0.Regs,a0.Pc,a0.Mem)) <|
(nth a0.Mem (w64 (Int.tdiv a0.Pc 4))).bind fun x1 =>
(f1g x1).bind fun y2 =>
(f1d y2).bind fun y3 =>
sel (!y3.2) (some (3,a0.Regs,a0.Pc,a0.Mem)) <|
sel (y3.1.Op == 21) (some (2,a0.Regs,a0.Pc,a0.Mem)) <|
(f1e (Machine.mk a0.Regs a0.Pc a0.Mem) y3.1).bind fun y4 =>
sel (!y4.1) (some (3,y4.2.1,y4.2.2.1,y4.2.2.2)) <|
some (1,y4.2.1,y4.2.2.1,y4.2.2.2)
def f4w (a0 : Int) (a1 : Int) (a2 : Int) (a3 : Int) : Option (Int × Int × Bool):=
(f02 a0 1 3).bind fun y1 =>
(sel (!y1) (some true) ((f02 a1 0 (w64 (a0 - 1))).bind fun y2=>some (!y2)) : Option (Bool)).bind fun b1 =>
(sel b1 (some true) ((f02 a2 0 (w64 (a0 - 1))).bind fun y3=>some (!y3)) : Option (Bool)).bind fun b2 =>
sel b2 (some (0,0,false)) <|
sel (a3 == 1) (some (a1,0,true)) <|
sel (a3 == 2) ((remO (w64 (a1 + 1)) a0).bind fun d1 =>
some (d1,0,true)) <|
(sel (a3 == 3) (some (a3 == 3)) <|
some (a3 == 4) : Option (Bool)).bind fun y4 =>
sel y4 ((remO (w64 (a1 + 1)) a0).bind fun d2 =>
some (d2,w64 (a2 + 1),true)) <|
some (0,0,false)
noncomputable def f5n (a0 : Squad) : Option (Bool × (List Machine) × (List Box) × Int × Int × (List Int)):=
(nth a0.Harts a0.Turn).bind fun x1 =>
(sel (x1.Pc == 0) ((f5t (Machine.mk x1.Regs x1.Pc x1.Mem) (a0.Boxes.length : Int)).bind fun y2 =>
sel (!y2) (some (.inr (false,a0.Harts,a0.Boxes,a0.Turn,a0.Idle,a0.Out))) <|
(f1o (Machine.mk x1.Regs x1.Pc x1.Mem) a0.Boxes).bind fun y3 =>
(app 8 a0.Out y3.1).bind fun r1 =>
some (.inl (y3.2.1,r1,(a0.Harts.set (Int.toNat a0.Turn) (Machine.mk y3.2.2.1 y3.2.2.2.1 x1.Mem)),y3.2.2.2.2))) <|
(f3g (Machine.mk x1.Regs x1.Pc x1.Mem)).bind fun y4 =>
sel (y4.1 != 1) (some (.inr (false,(a0.Harts.set (Int.toNat a0.Turn) (Machine.mk y4.2.1 y4.2.2.1 y4.2.2.2)),a0.Boxes,a0.Turn,a0.Idle,a0.Out))) <|
some (.inl (1,a0.Out,(a0.Harts.set (Int.toNat a0.Turn) (Machine.mk y4.2.1 y4.2.2.1 y4.2.2.2)),a0.Boxes)) : Option ((Int × (List Int) × (List Machine) × (List Box)) ⊕ (Bool × (List Machine) × (List Box) × Int × Int × (List Int)))).bind fun y1 =>
both y1 (fun o3=>(f4w (o3.2.2.1.length : Int) a0.Turn a0.Idle o3.1).bind fun y5 =>
some (true,o3.2.2.1,o3.2.2.2,y5.1,y5.2.1,o3.2.1)) (fun o4 =>
some o4)
noncomputable def f9m (a1 : Int) (s1 : Int × (List Machine) × (List Box) × Int × Int × (List Int)) : Option ((Int × (List Machine) × (List Box) × Int × Int × (List Int)) ⊕ ((Squad × Bool) ⊕ ((List Machine) × (List Box) × Int × Int × (List Int)))):=
sel ((decide (s1.1 < a1)) && (decide (s1.2.2.2.2.1 < (s1.2.1.length : Int)))) ((f5n (Squad.mk s1.2.1 s1.2.2.1 s1.2.2.2.1 s1.2.2.2.2.1 s1.2.2.2.2.2)).bind fun y7 =>
sel (!y7.1) (some (.inr (.inl ((Squad.mk [] [] 0 0 []),false)))) <|
some (.inl (w64 (s1.1 + 1),y7.2.1,y7.2.2.1,y7.2.2.2.1,y7.2.2.2.2.1,y7.2.2.2.2.2))) <|
some (.inr (.inr (s1.2.1,s1.2.2.1,s1.2.2.2.1,s1.2.2.2.2.1,s1.2.2.2.2.2)))
noncomputable def f79 (a0 : Squad) (a1 : Int) : Option (Squad × Bool):=
(f4r (Squad.mk a0.Harts a0.Boxes a0.Turn a0.Idle a0.Out)).bind fun y1 =>
(sel (!y1) (some true) ((f02 a1 0 1000000).bind fun y2=>some (!y2)) : Option (Bool)).bind fun b1 =>
sel b1 (some ((Squad.mk [] [] 0 0 []),false)) <|
(f7t (Squad.mk a0.Harts a0.Boxes a0.Turn a0.Idle a0.Out)).bind fun y3 =>
(iter (f9m a1) (0,y3.Harts,y3.Boxes,y3.Turn,y3.Idle,y3.Out)).bind fun y4 =>
both y4 (fun o3=>some o3) (fun o4 =>
some ((Squad.mk o4.1 o4.2.1 o4.2.2.1 o4.2.2.2.1 o4.2.2.2.2),true))
noncomputable def f6k (k : Nat) (a0 : L6Rd) : Option (Squad × Int):=
(f6o k (L6Rd.mk a0.b a0.p)).bind fun y1 =>
(f01 (L6Rd.mk a0.b y1.2) 2).bind fun y2 =>
(f01 (L6Rd.mk a0.b y2.2) 4).bind fun y3 =>
(f6m [w64 (1 + y2.1),w64 (1 + y3.1)] y1.1).bind fun y4 =>
(f01 (L6Rd.mk a0.b y3.2) 100).bind fun y5 =>
(f79 (Squad.mk y4.1.Harts y4.1.Boxes y4.1.Turn y4.1.Idle y4.1.Out) y5.1).bind fun y6 =>
(f01 (L6Rd.mk a0.b y5.2) 30).bind fun y7 =>
sel (y7.1 == 0) (some ((Squad.mk y6.1.Harts y6.1.Boxes 3 y6.1.Idle y6.1.Out),y7.2)) <|
sel (y7.1 == 1) ((nth y6.1.Harts 0).bind fun x1 =>
some ((Squad.mk (y6.1.Harts.set (Int.toNat 0) (Machine.mk x1.Regs 2 x1.Mem)) y6.1.Boxes y6.1.Turn y6.1.Idle y6.1.Out),y7.2)) <|
sel (y7.1 == 2) ((app 8 y6.1.Out [(-2147483649)]).bind fun r1 =>
some ((Squad.mk y6.1.Harts y6.1.Boxes y6.1.Turn y6.1.Idle r1),y7.2)) <|
some ((Squad.mk y6.1.Harts y6.1.Boxes y6.1.Turn y6.1.Idle y6.1.Out),y7.2)
def f8x (a0 : List Int) : Option (L6Rd):=
(sel (decide ((a0.length : Int) > 2000)) ((cut a0 0 2000).bind fun r1 =>
some r1) <|
some a0 : Option ((List Int))).bind fun y1 =>
some (L6Rd.mk y1 0)
noncomputable def f2g (k : Nat) (a0 : List Int) : Option (Squad):=
(f8x a0).bind fun y1 =>
(f6k k (L6Rd.mk y1.b y1.p)).bind fun y2 =>
some (Squad.mk y2.1.Harts y2.1.Boxes y2.1.Turn y2.1.Idle y2.1.Out)
def f1j (a0 : Int) : Option (Bool):=
some ((decide (a0 ≥ (-2147483648))) && (decide (a0 ≤ 2147483647)))
def f4o (a0 : List Int) (s1 : Int) : Option (Int ⊕ (Bool ⊕ Unit)):=
sel (decide (s1 < (a0.length : Int))) ((nth a0 s1).bind fun x1 =>
(f1j x1).bind fun y4 =>
sel (!y4) (some (.inr (.inl false))) <|
some (.inl (w64 (s1 + 1)))) <|
some (.inr (.inr ()))
noncomputable def f1i (a0 : List Int) : Option (Bool):=
(iter (f4o a0) 0).bind fun y1 =>
both y1 (fun o3=>some o3) (fun o4 =>
some true)
noncomputable def f7o (a0 : Int) (a1 : Int) (a2 : Int) (a3 : List Int) : Option (Bool):=
(sel ((((((decide (a0 ≥ 1)) && (decide (a0 ≤ 3))) && (decide (a1 ≥ 0))) && (decide (a1 < a0))) && (decide (a2 ≥ 0))) && (decide (a2 ≤ a0))) ((f1i a3).bind fun y1=>some y1) (some false) : Option (Bool)).bind fun b1 =>
some b1
noncomputable def f6x (a0 : Box) : Option (Bool):=
(sel (((decide (a0.Room ≥ 1)) && (decide (a0.Room ≤ 4))) && (decide ((a0.Items.length : Int) ≤ a0.Room))) ((f1i a0.Items).bind fun y1=>some y1) (some false) : Option (Bool)).bind fun b1 =>
some b1
noncomputable def f3e (a0 : List Box) (s1 : Int) : Option (Int ⊕ (Bool ⊕ Unit)):=
sel (decide (s1 < (a0.length : Int))) ((nth a0 s1).bind fun x1 =>
(f6x (Box.mk x1.Room x1.Items)).bind fun y4 =>
sel (!y4) (some (.inr (.inl false))) <|
some (.inl (w64 (s1 + 1)))) <|
some (.inr (.inr ()))
noncomputable def f5b (a0 : List Box) : Option (Bool):=
(iter (f3e a0) 0).bind fun y1 =>
both y1 (fun o3=>some o3) (fun o4 =>
some (decide ((a0.length : Int) ≤ 3)))
noncomputable def f1x (a0 : Machine) : Option (Bool):=
(sel ((a0.Regs.length : Int) == 32) ((f1i a0.Regs).bind fun y1=>some y1) (some false) : Option (Bool)).bind fun b1 =>
(sel b1 ((nth a0.Regs 0).bind fun x1=>some (x1 == 0)) (some false) : Option (Bool)).bind fun b2 =>
(sel b2 ((f1j a0.Pc).bind fun y2=>some y2) (some false) : Option (Bool)).bind fun b3 =>
(sel (b3 && (decide ((a0.Mem.length : Int) ≤ 10000))) ((f1i a0.Mem).bind fun y3=>some y3) (some false) : Option (Bool)).bind fun b4 =>
some b4
noncomputable def f5f (a0 : Machine) : Option (Bool):=
(f1x (Machine.mk a0.Regs a0.Pc a0.Mem)).bind fun y1 =>
some (!y1)
noncomputable def f09 (a0 : List Machine) (s1 : Int) : Option (Int ⊕ (Int ⊕ Unit)):=
sel (decide (s1 < (a0.length : Int))) ((nth a0 s1).bind fun x1 =>
(f5f (Machine.mk x1.Regs x1.Pc x1.Mem)).bind fun y4 =>
sel y4 (some (.inr (.inl s1))) <|
some (.inl (w64 (s1 + 1)))) <|
some (.inr (.inr ()))
noncomputable def f0q (a0 : List Machine) : Option (Int):=
(iter (f09 a0) 0).bind fun y1 =>
both y1 (fun o3=>some o3) (fun o4 =>
some (-1))
noncomputable def f0g (a0 : List Machine) : Option (Bool):=
(f0q a0).bind fun y1 =>
some (decide (y1 ≥ 0))
noncomputable def f51 (a0 : Squad) : Option (Bool):=
(f7o (a0.Harts.length : Int) a0.Turn a0.Idle a0.Out).bind fun y1 =>
(sel y1 ((f5b a0.Boxes).bind fun y2=>some y2) (some false) : Option (Bool)).bind fun b1 =>
(sel b1 ((f0g a0.Harts).bind fun y3=>some (!y3)) (some false) : Option (Bool)).bind fun b2 =>
some b2
def f1b (a0 : List Int) : Option ((List Int)):=
(app 8 [] a0).bind fun r1 =>
some r1
def f3t (a1 : List Box) (s1 : Int × (List (List Int))) : Option ((Int × (List (List Int))) ⊕ ((List (List Int)))):=
sel (decide (s1.1 < (a1.length : Int))) ((nth a1 s1.1).bind fun x1 =>
(f1b x1.Items).bind fun y5 =>
(app 24 s1.2 [y5]).bind fun r1 =>
some (.inl (w64 (s1.1 + 1),r1))) <|
some (.inr s1.2)
noncomputable def f8l (a0 : List Int) (a1 : List Box) (a2 : Bool) : Option (Outcome):=
(f1b a0).bind fun y1 =>
(iter (f3t a1) (0,[])).bind fun y2 =>
some (Outcome.mk y1 y2 [] a2)
def f2s (a0 : Squad) (s1 : Int × (List Bool)) : Option ((Int × (List Bool)) ⊕ ((List Bool))):=
sel (decide (s1.1 < (a0.Harts.length : Int))) ((nth a0.Harts s1.1).bind fun x1 =>
(sel (x1.Pc == 0) ((nth x1.Regs 17).bind fun b_1=>some (b_1 == 5)) (some false)).bind fun b1 =>
(app 1 s1.2 [b1]).bind fun r1 =>
some (.inl (w64 (s1.1 + 1),r1))) <|
some (.inr s1.2)
noncomputable def f1y (a0 : Squad) : Option (Outcome):=
(f51 (Squad.mk a0.Harts a0.Boxes a0.Turn a0.Idle a0.Out)).bind fun y1 =>
sel (!y1) (some (Outcome.mk [] [] [] false)) <|
(f8l a0.Out a0.Boxes (a0.Idle == (a0.Harts.length : Int))).bind fun y2 =>
(iter (f2s a0) (0,y2.Ended)).bind fun y3 =>
some (Outcome.mk y2.Out y2.Items y3 y2.Rest)
def f4j (a0 : List Box) (s1 : (List (List Int)) × Int) : Option (((List (List Int)) × Int) ⊕ ((List (List Int)))):=
sel (decide (s1.2 < (a0.length : Int))) ((nth a0 s1.2).bind fun x1 =>
(app 8 [] x1.Items).bind fun r1 =>
(app 24 s1.1 [r1]).bind fun r2 =>
some (.inl (r2,w64 (s1.2 + 1)))) <|
some (.inr s1.1)
noncomputable def f95 (a0 : List Box) : Option ((List (List Int))):=
(iter (f4j a0) ([],0)).bind fun y1 =>
some y1
def f2q (a0 : Squad) (s1 : Int × (List Bool)) : Option ((Int × (List Bool)) ⊕ ((List Bool))):=
sel (decide (s1.1 < (a0.Harts.length : Int))) ((nth a0.Harts s1.1).bind fun x1 =>
(sel (x1.Pc == 0) ((nth a0.Harts s1.1).bind fun b_1=>(nth b_1.Regs 17).bind fun b_2=>some (b_2 == 5)) (some false)).bind fun b1 =>
(app 1 s1.2 [b1]).bind fun r2 =>
some (.inl (w64 (s1.1 + 1),r2))) <|
some (.inr s1.2)
noncomputable def f1v (a0 : Squad) : Option (Outcome):=
(f4r (Squad.mk a0.Harts a0.Boxes a0.Turn a0.Idle a0.Out)).bind fun y1 =>
sel (!y1) (some (Outcome.mk [] [] [] false)) <|
(app 8 [] a0.Out).bind fun r1 =>
(f95 a0.Boxes).bind fun y2 =>
(iter (f2q a0) (0,[])).bind fun y3 =>
some (Outcome.mk r1 y2 y3 (a0.Idle == (a0.Harts.length : Int)))
def f4e (a0 : List Int) (a1 : List Int) (s1 : Int) : Option (Int ⊕ (Bool ⊕ Unit)):=
sel (decide (s1 < (a0.length : Int))) ((nth a0 s1).bind fun x1 =>
(nth a1 s1).bind fun x2 =>
sel (x1 != x2) (some (.inr (.inl false))) <|
some (.inl (w64 (s1 + 1)))) <|
some (.inr (.inr ()))
noncomputable def f3p (a0 : List Int) (a1 : List Int) : Option (Bool):=
sel ((a0.length : Int) != (a1.length : Int)) (some false) <|
(iter (f4e a0 a1) 0).bind fun y1 =>
both y1 (fun o3=>some o3) (fun o4 =>
some true)
noncomputable def f3u (a0 : List (List Int)) (a1 : List (List Int)) (s1 : Int) : Option (Int ⊕ (Bool ⊕ Unit)):=
sel (decide (s1 < (a0.length : Int))) ((nth a0 s1).bind fun x1 =>
(nth a1 s1).bind fun x2 =>
(f3p x1 x2).bind fun y4 =>
sel (!y4) (some (.inr (.inl false))) <|
some (.inl (w64 (s1 + 1)))) <|
some (.inr (.inr ()))
noncomputable def f5h (a0 : List (List Int)) (a1 : List (List Int)) : Option (Bool):=
sel ((a0.length : Int) != (a1.length : Int)) (some false) <|
(iter (f3u a0 a1) 0).bind fun y1 =>
both y1 (fun o3=>some o3) (fun o4 =>
some true)
def f3w (a0 : List Bool) (a1 : List Bool) (s1 : Int) : Option (Int ⊕ (Bool ⊕ Unit)):=
sel (decide (s1 < (a0.length : Int))) ((nth a0 s1).bind fun x1 =>
(nth a1 s1).bind fun x2 =>
sel (x1 != x2) (some (.inr (.inl false))) <|
some (.inl (w64 (s1 + 1)))) <|
some (.inr (.inr ()))
noncomputable def f5z (a0 : List Bool) (a1 : List Bool) : Option (Bool):=
sel ((a0.length : Int) != (a1.length : Int)) (some false) <|
(iter (f3w a0 a1) 0).bind fun y1 =>
both y1 (fun o3=>some o3) (fun o4 =>
some true)
noncomputable def f2w (a0 : Outcome) (a1 : Outcome) : Option (Bool):=
(f3p a0.Out a1.Out).bind fun y1 =>
(sel y1 ((f5h a0.Items a1.Items).bind fun y2=>some y2) (some false) : Option (Bool)).bind fun b1 =>
(sel b1 ((f5z a0.Ended a1.Ended).bind fun y3=>some y3) (some false) : Option (Bool)).bind fun b2 =>
some (b2 && (a0.Rest == a1.Rest))
def f26 (y1 : Squad) (y2 : Outcome) (s1 : Int) : Option (Int ⊕ (Bool ⊕ Unit)):=
sel (decide (s1 < (y1.Harts.length : Int))) ((nth y1.Harts s1).bind fun x1 =>
(nth y2.Ended s1).bind fun x4 =>
(sel (x1.Pc == 0) ((nth x1.Regs 17).bind fun b_1=>some (b_1 == 5)) (some false)).bind fun b2 =>
sel (x4 != b2) (some (.inr (.inl false))) <|
some (.inl (w64 (s1 + 1)))) <|
some (.inr (.inr ()))
noncomputable def f4q (k : Nat) (a0 : List Int) : Option (Bool):=
sel (decide ((a0.length : Int) > 1048576)) (some true) <|
(f2g k a0).bind fun y1 =>
(f1y (Squad.mk y1.Harts y1.Boxes y1.Turn y1.Idle y1.Out)).bind fun y2 =>
(f1v (Squad.mk y1.Harts y1.Boxes y1.Turn y1.Idle y1.Out)).bind fun y3 =>
(f2w (Outcome.mk y2.Out y2.Items y2.Ended y2.Rest) (Outcome.mk y3.Out y3.Items y3.Ended y3.Rest)).bind fun y4 =>
sel ((!y4) || ((y2.Ended.length : Int) == 0)) ((f2w (Outcome.mk y2.Out y2.Items y2.Ended y2.Rest) (Outcome.mk y3.Out y3.Items y3.Ended y3.Rest)).bind fun y5 =>
some y5) <|
(iter (f26 y1 y2) 0).bind fun y6 =>
both y6 (fun o3=>some o3) (fun o4 =>
(f3p y2.Out y1.Out).bind fun y9 =>
some ((y9 && ((y2.Items.length : Int) == (y1.Boxes.length : Int))) && (y2.Rest == (y1.Idle == (y1.Harts.length : Int)))))
end Go.Proofs.YtcljimkjmklkmaaGreat.N
namespace Go.Proofs.YtcljimkjmklkmaaGreat.N
open Go.Proofs.YtcljimkjmklkmaaGreat.X
structure InstrRow where
 name : ByteArray
 opcode : Int
 funct3 : Int
 funct7 : Int
def instrTable : List InstrRow:=[⟨⟨#[97,100,100]⟩,51,0,0⟩,⟨⟨#[115,117,98]⟩,51,0,32⟩,⟨⟨#[109,117,108]⟩,51,0,1⟩,⟨⟨#[100,105,118]⟩,51,4,1⟩,⟨⟨#[114,101,109]⟩,51,6,1⟩,⟨⟨#[97,110,100]⟩,51,7,0⟩,⟨⟨#[111,114]⟩,51,6,0⟩,⟨⟨#[120,111,114]⟩,51,4,0⟩,⟨⟨#[115,108,108]⟩,51,1,0⟩,⟨⟨#[115,114,97]⟩,51,5,32⟩,⟨⟨#[115,108,116]⟩,51,2,0⟩,⟨⟨#[97,100,100,105]⟩,19,0,0⟩,⟨⟨#[115,108,116,105,117]⟩,19,3,0⟩,⟨⟨#[108,119]⟩,3,2,0⟩,⟨⟨#[106,97,108,114]⟩,103,0,0⟩,⟨⟨#[115,119]⟩,35,2,0⟩,⟨⟨#[98,101,113]⟩,99,0,0⟩,⟨⟨#[98,110,101]⟩,99,1,0⟩,⟨⟨#[108,117,105]⟩,55,0,0⟩,⟨⟨#[106,97,108]⟩,111,0,0⟩,⟨⟨#[101,99,97,108,108]⟩,115,0,0⟩]
def machineOps : List Int:=[8,9,10,11,12,3,1,2,6,7,5]
def f1h (a0 : Int) : Option (Int):=
(f1j a0).bind fun y1 =>
sel (!y1) (some (-1)) <|
some (w64 (kwrap .u32 (a0)))
def f0u (a0 : Int) : Option (Int):=
sel ((decide (a0 ≥ 1)) && (decide (a0 ≤ 11))) (some 82) <|
sel ((decide (a0 ≥ 12)) && (decide (a0 ≤ 15))) (some 73) <|
sel (a0 == 16) (some 83) <|
sel ((a0 == 17) || (a0 == 18)) (some 66) <|
sel (a0 == 19) (some 85) <|
sel (a0 == 20) (some 74) <|
sel (a0 == 21) (some 69) <|
some 32
def f1w (a0 : Int) : Option (Bool):=
some ((decide (a0 ≥ 0)) && (decide (a0 < 32)))
def f0p (a0 : Instr) : Option (Bool):=
(f1w a0.Rd).bind fun y1 =>
(f1w a0.Rs).bind fun y2 =>
(f1w a0.Rt).bind fun y3 =>
(f0u a0.Op).bind fun y4 =>
sel (y4 == 82) (some (((y1 && y2) && y3) && (a0.Imm == 0))) <|
sel (y4 == 73) (some (((y1 && y2) && (a0.Rt == 0)) && ((decide (a0.Imm ≥ (-2048))) && (decide (a0.Imm ≤ 2047))))) <|
sel (y4 == 83) (some ((((a0.Rd == 0) && y2) && y3) && ((decide (a0.Imm ≥ (-2048))) && (decide (a0.Imm ≤ 2047))))) <|
sel (y4 == 66) (some ((((((a0.Rd == 0) && y2) && y3) && (decide (a0.Imm ≥ (-4096)))) && (decide (a0.Imm ≤ 4094))) && ((Int.tmod a0.Imm 2) == 0))) <|
sel (y4 == 85) (some ((((y1 && (a0.Rs == 0)) && (a0.Rt == 0)) && (decide (a0.Imm ≥ 0))) && (decide (a0.Imm ≤ 1048575)))) <|
sel (y4 == 74) (some (((((y1 && (a0.Rs == 0)) && (a0.Rt == 0)) && (decide (a0.Imm ≥ (-1048576)))) && (decide (a0.Imm ≤ 1048574))) && ((Int.tmod a0.Imm 2) == 0))) <|
sel (y4 == 69) (some ((a0.Op == 21) && ((a0.Rd == 0) && ((a0.Rs == 0) && ((a0.Rt == 0) && ((a0.Imm == 0) && true)))))) <|
some false
def f55 (a0 : Int) : Option (Bool):=
some ((decide (a0 ≥ 0)) && (decide (a0 < 4294967296)))
def f0o (a0 : Int) (a1 : Int) (a2 : Int) : Option (Int):=
(f55 a0).bind fun y1 =>
sel (((((!y1) || (decide (a1 < 0))) || (decide (a1 > 31))) || (decide (a2 < 1))) || (decide (a2 > (w64 (32 - a1))))) (some 0) <|
(shO .shr .i64 a0 a1).bind fun d1 =>
(shO .shl .i64 1 a2).bind fun d2 =>
some (bitsI .and .i64 d1 (w64 (d2 - 1)))
def f03 (a0 : Int) (a1 : Int) (a2 : Int) (a3 : Int) : Option (Int):=
(f0o a3 a0 a1).bind fun y1 =>
(shO .shl .i64 y1 a2).bind fun d1 =>
some d1
def f0y (a0 : Instr) : Option (Int × Bool):=
(f0p a0).bind fun y1 =>
sel (!y1) (some (0,false)) <|
(nth instrTable (w64 (a0.Op - 1))).bind fun x1 =>
(f1h a0.Imm).bind fun y2 =>
(f0u a0.Op).bind fun y3 =>
sel (y3 == 82) (some (bitsI .or .i64 (bitsI .or .i64 (w64 (x1.funct7 * 2 ^ (min 25 (IntKind.bits .i64)))) (bitsI .or .i64 (bitsI .or .i64 (bitsI .or .i64 (w64 (a0.Rt * 2 ^ (min 20 (IntKind.bits .i64)))) (w64 (a0.Rs * 2 ^ (min 15 (IntKind.bits .i64))))) (w64 (x1.funct3 * 2 ^ (min 12 (IntKind.bits .i64))))) x1.opcode)) (w64 (a0.Rd * 2 ^ (min 7 (IntKind.bits .i64)))),true)) <|
sel (y3 == 73) ((f03 0 12 20 y2).bind fun y4 =>
some (bitsI .or .i64 (bitsI .or .i64 y4 (bitsI .or .i64 (bitsI .or .i64 (bitsI .or .i64 (w64 (a0.Rt * 2 ^ (min 20 (IntKind.bits .i64)))) (w64 (a0.Rs * 2 ^ (min 15 (IntKind.bits .i64))))) (w64 (x1.funct3 * 2 ^ (min 12 (IntKind.bits .i64))))) x1.opcode)) (w64 (a0.Rd * 2 ^ (min 7 (IntKind.bits .i64)))),true)) <|
sel (y3 == 83) ((f03 5 7 25 y2).bind fun y5 =>
(f03 0 5 7 y2).bind fun y6 =>
some (bitsI .or .i64 (bitsI .or .i64 y5 (bitsI .or .i64 (bitsI .or .i64 (bitsI .or .i64 (w64 (a0.Rt * 2 ^ (min 20 (IntKind.bits .i64)))) (w64 (a0.Rs * 2 ^ (min 15 (IntKind.bits .i64))))) (w64 (x1.funct3 * 2 ^ (min 12 (IntKind.bits .i64))))) x1.opcode)) y6,true)) <|
sel (y3 == 66) ((f03 12 1 31 y2).bind fun y7 =>
(f03 5 6 25 y2).bind fun y8 =>
(f03 1 4 8 y2).bind fun y9 =>
(f03 11 1 7 y2).bind fun y10 =>
some (bitsI .or .i64 (bitsI .or .i64 (bitsI .or .i64 (bitsI .or .i64 y7 y8) (bitsI .or .i64 (bitsI .or .i64 (bitsI .or .i64 (w64 (a0.Rt * 2 ^ (min 20 (IntKind.bits .i64)))) (w64 (a0.Rs * 2 ^ (min 15 (IntKind.bits .i64))))) (w64 (x1.funct3 * 2 ^ (min 12 (IntKind.bits .i64))))) x1.opcode)) y9) y10,true)) <|
sel (y3 == 85) ((f03 0 20 12 y2).bind fun y11 =>
some (bitsI .or .i64 (bitsI .or .i64 y11 (w64 (a0.Rd * 2 ^ (min 7 (IntKind.bits .i64))))) x1.opcode,true)) <|
sel (y3 == 74) ((f03 20 1 31 y2).bind fun y12 =>
(f03 1 10 21 y2).bind fun y13 =>
(f03 11 1 20 y2).bind fun y14 =>
(f03 12 8 12 y2).bind fun y15 =>
some (bitsI .or .i64 (bitsI .or .i64 (bitsI .or .i64 (bitsI .or .i64 (bitsI .or .i64 y12 y13) y14) y15) (w64 (a0.Rd * 2 ^ (min 7 (IntKind.bits .i64))))) x1.opcode,true)) <|
some (x1.opcode,true)
def f1a (a0 : Int) : Option (Int):=
some (w64 (kwrap .i32 (a0)))
def f56 (a0 : List Instr) (s1 : (List Int) × Int) : Option (((List Int) × Int) ⊕ (((List Int) × Bool) ⊕ ((List Int)))):=
sel (decide (s1.2 < (a0.length : Int))) ((nth a0 s1.2).bind fun x1 =>
(f0y x1).bind fun y4 =>
sel (!y4.2) (some (.inr (.inl ([],false)))) <|
(f1a y4.1).bind fun y5 =>
(app 8 s1.1 [y5]).bind fun r1 =>
some (.inl (r1,w64 (s1.2 + 1)))) <|
some (.inr (.inr s1.1))
noncomputable def fb4 (a0 : List Instr) : Option ((List Int) × Bool):=
(iter (f56 a0) ([],0)).bind fun y1 =>
both y1 (fun o3=>some o3) (fun o4 =>
some (o4,true))
noncomputable def f64 (a0 : List Instr) : Option (Machine × Bool):=
(fb4 a0).bind fun y1 =>
sel ((!y1.2) || (decide ((w64 ((w64 ((y1.1.length : Int) + 1)) + 12)) > 10000))) (some ((Machine.mk [] 0 []),false)) <|
(mk 8 32 0).bind fun r1 =>
(app 8 [0] y1.1).bind fun r2 =>
(nth r1 2).bind fun x1 =>
(upd r1 2 (w64 (4 * (r2.length : Int)))).bind fun r3 =>
(appz 8 r2 12 0).bind fun r4 =>
some ((Machine.mk r3 4 r4),true)
def f11 (a0 : InstrRow) (a1 : Int) (a2 : Int) : Option (Bool):=
sel (a0.opcode != (bitsI .and .i64 a2 127)) (some false) <|
(f0u a1).bind fun y1 =>
sel (y1 == 82) ((f0o a2 12 3).bind fun y2 =>
(sel (a0.funct3 == y2) ((f0o a2 25 7).bind fun b_1=>some (a0.funct7 == b_1)) (some false)).bind fun b1 =>
some b1) <|
(sel (y1 == 73) (some (y1 == 73)) <|
sel (y1 == 83) (some (y1 == 83)) <|
some (y1 == 66) : Option (Bool)).bind fun y4 =>
sel y4 ((f0o a2 12 3).bind fun y5 =>
some (a0.funct3 == y5)) <|
some true
def f1z (a0 : Int) (a1 : Int) : Option (Int):=
(sel (((decide (a1 < 1)) || (decide (a1 > 32))) || (decide (a0 < 0))) (some true) ((shO .shl .i64 1 a1).bind fun d1=>some (decide (a0 ≥ d1))) : Option (Bool)).bind fun b1 =>
sel b1 (some 0) <|
(shO .shl .i64 1 (w64 (a1 - 1))).bind fun d2 =>
sel (decide (a0 ≥ d2)) ((shO .shl .i64 1 a1).bind fun d3 =>
some (w64 (a0 - d3))) <|
some a0
def f1r (a0 : Int) (a1 : Int) : Option (Instr):=
(f0o a1 7 5).bind fun y1 =>
(f0o a1 15 5).bind fun y2 =>
(f0o a1 20 5).bind fun y3 =>
(f0u a0).bind fun y4 =>
sel (y4 == 82) (some (Instr.mk a0 y1 y2 y3 0)) <|
sel (y4 == 73) ((f0o a1 20 12).bind fun y5 =>
(f1z y5 12).bind fun y6 =>
some (Instr.mk a0 y1 y2 0 y6)) <|
sel (y4 == 83) ((f0o a1 25 7).bind fun y7 =>
(f1z (bitsI .or .i64 (w64 (y7 * 2 ^ (min 5 (IntKind.bits .i64)))) y1) 12).bind fun y8 =>
some (Instr.mk a0 0 y2 y3 y8)) <|
sel (y4 == 66) ((f0o a1 31 1).bind fun y9 =>
(f0o a1 7 1).bind fun y10 =>
(f0o a1 25 6).bind fun y11 =>
(f0o a1 8 4).bind fun y12 =>
(f1z (bitsI .or .i64 (bitsI .or .i64 (bitsI .or .i64 (w64 (y9 * 2 ^ (min 12 (IntKind.bits .i64)))) (w64 (y10 * 2 ^ (min 11 (IntKind.bits .i64))))) (w64 (y11 * 2 ^ (min 5 (IntKind.bits .i64))))) (w64 (y12 * 2 ^ (min 1 (IntKind.bits .i64))))) 13).bind fun y13 =>
some (Instr.mk a0 0 y2 y3 y13)) <|
sel (y4 == 85) ((f0o a1 12 20).bind fun y14 =>
some (Instr.mk a0 y1 0 0 y14)) <|
sel (y4 == 74) ((f0o a1 31 1).bind fun y15 =>
(f0o a1 12 8).bind fun y16 =>
(f0o a1 20 1).bind fun y17 =>
(f0o a1 21 10).bind fun y18 =>
(f1z (bitsI .or .i64 (bitsI .or .i64 (bitsI .or .i64 (w64 (y15 * 2 ^ (min 20 (IntKind.bits .i64)))) (w64 (y16 * 2 ^ (min 12 (IntKind.bits .i64))))) (w64 (y17 * 2 ^ (min 11 (IntKind.bits .i64))))) (w64 (y18 * 2 ^ (min 1 (IntKind.bits .i64))))) 21).bind fun y19 =>
some (Instr.mk a0 y1 0 0 y19)) <|
some (Instr.mk a0 0 0 0 0)
def f2v (a0 : Int) (s1 : Int) : Option (Int ⊕ ((Instr × Bool) ⊕ Unit)):=
sel (decide (s1 ≤ 21)) (((nth instrTable (w64 (s1 - 1))).bind fun x1 =>
(f11 x1 s1 a0).bind fun y6 =>
sel (!y6) (some (.inl ())) <|
(f1r s1 a0).bind fun y7 =>
(f0y y7).bind fun y8 =>
sel (y8.2 && (y8.1 == a0)) (some (.inr (y7,true))) <|
some (.inl ()) : Option (Unit ⊕ (Instr × Bool))).bind fun y5 =>
both y5 (fun o5=>some (.inl (w64 (s1 + 1)))) (fun o6 =>
some (.inr (.inl o6)))) <|
some (.inr (.inr ()))
noncomputable def f2e (a0 : Int) : Option (Instr × Bool):=
(f55 a0).bind fun y1 =>
sel (!y1) (some ((Instr.mk 0 0 0 0 0),false)) <|
(iter (f2v a0) 1).bind fun y2 =>
both y2 (fun o7=>some o7) (fun o8 =>
some ((Instr.mk 0 0 0 0 0),false))
def f3f (a0 : List Int) (s1 : Int) : Option (Int ⊕ (Bool ⊕ Unit)):=
sel (decide (s1 < (a0.length : Int))) ((nth a0 s1).bind fun x1 =>
sel ((decide (x1 < 1)) || (decide (x1 > 4))) (some (.inr (.inl false))) <|
some (.inl (w64 (s1 + 1)))) <|
some (.inr (.inr ()))
noncomputable def fa8 (a0 : List Int) : Option (Bool):=
(iter (f3f a0) 0).bind fun y1 =>
both y1 (fun o3=>some o3) (fun o4 =>
some (decide ((a0.length : Int) ≤ 3)))
def f9f (a0 : List Int) (s1 : (List Box) × Int) : Option (((List Box) × Int) ⊕ ((List Box))):=
sel (decide (s1.2 < (a0.length : Int))) ((nth a0 s1.2).bind fun x1 =>
(app 32 s1.1 [(Box.mk x1 [])]).bind fun r1 =>
some (.inl (r1,w64 (s1.2 + 1)))) <|
some (.inr s1.1)
noncomputable def fam (a0 : List Int) : Option ((List Box)):=
(iter (f9f a0) ([],0)).bind fun y1 =>
some y1
noncomputable def f6a (a1 : List (List Instr)) (s1 : Int × (List Machine)) : Option ((Int × (List Machine)) ⊕ ((Squad × Bool) ⊕ ((List Machine)))):=
sel (decide (s1.1 < (a1.length : Int))) ((nth a1 s1.1).bind fun x1 =>
(f64 x1).bind fun y6 =>
sel (!y6.2) (some (.inr (.inl ((Squad.mk [] [] 0 0 []),false)))) <|
(app 56 s1.2 [(Machine.mk y6.1.Regs y6.1.Pc y6.1.Mem)]).bind fun r1 =>
some (.inl (w64 (s1.1 + 1),r1))) <|
some (.inr (.inr s1.2))
noncomputable def fby (a0 : List Int) (a1 : List (List Instr)) : Option (Squad × Bool):=
(fa8 a0).bind fun y1 =>
sel (((!y1) || (decide ((a1.length : Int) < 1))) || (decide ((a1.length : Int) > 3))) (some ((Squad.mk [] [] 0 0 []),false)) <|
(fam a0).bind fun y2 =>
(iter (f6a a1) (0,[])).bind fun y3 =>
both y3 (fun o3=>some o3) (fun o4 =>
some ((Squad.mk o4 y2 0 0 []),true))
def f3s (a0 : Machine) (a1 : Int) : Option (Int):=
sel (((decide (a1 < 0)) || ((Int.tmod a1 4) != 0)) || (decide ((w64 (Int.tdiv a1 4)) ≥ (a0.Mem.length : Int)))) (some (-1)) <|
(nth a0.Mem (w64 (Int.tdiv a1 4))).bind fun x1 =>
some (w64 (Int.tdiv a1 4))
def f2d (a0 : Machine) (a1 : Int) (a2 : Int) : Option ((List Int)):=
sel (a1 != 0) ((nth a0.Regs a1).bind fun x1 =>
(upd a0.Regs a1 a2).bind fun r1 =>
some r1) <|
some a0.Regs
def fas (a0 : Bool) : Option (Int):=
sel a0 (some 1) <|
some 0
def fe0 (a0 : Int) (a1 : Int) (a2 : Int) : Option (Int):=
sel (a0 == 1) (some (bitsI .or .i64 a1 a2)) <|
sel (a0 == 2) (some (bitsI .xor .i64 a1 a2)) <|
sel (a0 == 3) (some (bitsI .and .i64 a1 a2)) <|
sel (a0 == 4) ((fas (a1 == a2)).bind fun y1 =>
some y1) <|
sel (a0 == 5) ((fas (decide (a1 < a2))).bind fun y2 =>
some y2) <|
sel (a0 == 6) ((shO .shl .i64 a1 (bitsI .and .i64 a2 31)).bind fun d1 =>
(f1a d1).bind fun y3 =>
some y3) <|
sel (a0 == 7) ((shO .shr .i64 a1 (bitsI .and .i64 a2 31)).bind fun d2 =>
some d2) <|
sel (a0 == 8) ((f1a (w64 (a1 + a2))).bind fun y4 =>
some y4) <|
sel (a0 == 9) ((f1a (w64 (a1 - a2))).bind fun y5 =>
some y5) <|
sel (a0 == 10) ((f1a (w64 (a1 * a2))).bind fun y6 =>
some y6) <|
sel (a0 == 11) (sel (a2 == 0) (some (-1)) <|
(quoO .i64 a1 a2).bind fun d3 =>
(f1a d3).bind fun y7 =>
some y7) <|
sel (a2 == 0) (some a1) <|
(remO a1 a2).bind fun d4 =>
some d4
noncomputable def fcs (a0 : Machine) : Option (Int × (List Int) × Int × (List Int)):=
(f3s (Machine.mk a0.Regs a0.Pc a0.Mem) a0.Pc).bind fun y1 =>
sel (decide (y1 < 0)) (some (3,a0.Regs,a0.Pc,a0.Mem)) <|
(nth a0.Mem y1).bind fun x1 =>
(f1h x1).bind fun y2 =>
(f2e y2).bind fun y3 =>
sel (!y3.2) (some (3,a0.Regs,a0.Pc,a0.Mem)) <|
(nth a0.Regs y3.1.Rs).bind fun x2 =>
(nth a0.Regs y3.1.Rt).bind fun x3 =>
(f1a (w64 (a0.Pc + 4))).bind fun y4 =>
(sel (y3.1.Op == 21) (some (.inr (2,a0.Regs,a0.Pc,a0.Mem))) <|
sel (y3.1.Op == 12) ((f1a (w64 (x2 + y3.1.Imm))).bind fun y6 =>
(f2d (Machine.mk a0.Regs a0.Pc a0.Mem) y3.1.Rd y6).bind fun y7 =>
some (.inl (y4,y7,a0.Mem))) <|
sel (y3.1.Op == 13) ((f1h x2).bind fun y8 =>
(f1h y3.1.Imm).bind fun y9 =>
(fas (decide (y8 < y9))).bind fun y10 =>
(f2d (Machine.mk a0.Regs a0.Pc a0.Mem) y3.1.Rd y10).bind fun y11 =>
some (.inl (y4,y11,a0.Mem))) <|
(sel (y3.1.Op == 14) (some (y3.1.Op == 14)) <|
some (y3.1.Op == 16) : Option (Bool)).bind fun y12 =>
sel y12 ((f1a (w64 (x2 + y3.1.Imm))).bind fun y13 =>
(f3s (Machine.mk a0.Regs a0.Pc a0.Mem) y13).bind fun y14 =>
sel (decide (y14 < 0)) (some (.inr (3,a0.Regs,a0.Pc,a0.Mem))) <|
sel (y3.1.Op == 16) ((nth a0.Mem y14).bind fun x4 =>
(upd a0.Mem y14 x3).bind fun r1 =>
some (.inl (y4,a0.Regs,r1))) <|
(nth a0.Mem y14).bind fun x5 =>
(f2d (Machine.mk a0.Regs a0.Pc a0.Mem) y3.1.Rd x5).bind fun y15 =>
some (.inl (y4,y15,a0.Mem))) <|
sel (y3.1.Op == 15) ((f2d (Machine.mk a0.Regs a0.Pc a0.Mem) y3.1.Rd y4).bind fun y16 =>
(f1a (w64 (x2 + y3.1.Imm))).bind fun y17 =>
some (.inl (bitsI .andNot .i64 y17 1,y16,a0.Mem))) <|
(sel (y3.1.Op == 17) (some (y3.1.Op == 17)) <|
some (y3.1.Op == 18) : Option (Bool)).bind fun y18 =>
sel y18 (sel ((x2 == x3) == (y3.1.Op == 17)) ((f1a (w64 (a0.Pc + y3.1.Imm))).bind fun y19 =>
some (.inl (y19,a0.Regs,a0.Mem))) <|
some (.inl (y4,a0.Regs,a0.Mem))) <|
sel (y3.1.Op == 19) ((f1a (w64 (y3.1.Imm * 4096))).bind fun y20 =>
(f2d (Machine.mk a0.Regs a0.Pc a0.Mem) y3.1.Rd y20).bind fun y21 =>
some (.inl (y4,y21,a0.Mem))) <|
sel (y3.1.Op == 20) ((f2d (Machine.mk a0.Regs a0.Pc a0.Mem) y3.1.Rd y4).bind fun y22 =>
(f1a (w64 (a0.Pc + y3.1.Imm))).bind fun y23 =>
some (.inl (y23,y22,a0.Mem))) <|
(nth machineOps (w64 (y3.1.Op - 1))).bind fun x6 =>
(fe0 x6 x2 x3).bind fun y24 =>
(f2d (Machine.mk a0.Regs a0.Pc a0.Mem) y3.1.Rd y24).bind fun y25 =>
some (.inl (y4,y25,a0.Mem)) : Option ((Int × (List Int) × (List Int)) ⊕ (Int × (List Int) × Int × (List Int)))).bind fun y5 =>
both y5 (fun o3=>some (1,o3.2.1,o3.1,o3.2.2)) (fun o4 =>
some o4)
end Go.Proofs.YtcljimkjmklkmaaGreat.N
namespace Go.Proofs.YtcljimkjmklkmaaGreat.X
variable {σ τ ρ ρ' α : Type}
theorem w64_eq (x : Int) : w64 x = if 9223372036854775808 ≤ x % 18446744073709551616 then x % 18446744073709551616 - 18446744073709551616 else x % 18446744073709551616:=by
 show IntKind.wrap .i64 x = _
 simp [IntKind.wrap,IntKind.signed,IntKind.bits]
theorem w64_id {x : Int} (h1 : -9223372036854775808 ≤ x) (h2 : x ≤ 9223372036854775807) : w64 x = x:=by
 rw [w64_eq]
 split <;> omega
theorem iter_st {f : σ → Option (σ ⊕ ρ)} (st : Nat → σ) (n : Nat) {r : ρ} (h : ∀ i,i < n → f (st i) = some (.inl (st (i + 1)))) (he : f (st n) = some (.inr r)) : iter f (st 0) = some r:=by
 have key : ∀ m,m ≤ n → iter f (st (n - m)) = some r:=by
  intro m
  induction m with
  | zero=>intro _; rw [iter_eq]; simp [he]
  | succ m ih =>
   intro hm
   rw [iter_eq,h (n - (m + 1)) (by omega)]
   have:=ih (by omega)
   rw [show n - m = n - (m + 1) + 1 by omega] at this
   exact this
 have:=key n (Nat.le_refl n)
 rwa [Nat.sub_self] at this
theorem iter_inv {f : σ → Option (σ ⊕ ρ)} (I : σ → Prop) (μ : σ → Nat) (Q : ρ → Prop) (h : ∀ s,I s → (∃ s',f s = some (.inl s') ∧ I s' ∧ μ s' < μ s) ∨ (∃ r,f s = some (.inr r) ∧ Q r)) : ∀ {s : σ},I s → ∃ r,iter f s = some r ∧ Q r:=by
 have key : ∀ n s,μ s ≤ n → I s → ∃ r,iter f s = some r ∧ Q r:=by
  intro n
  induction n with
  | zero =>
   intro s hs hI
   rcases h s hI with ⟨s',_,_,h3⟩ | ⟨r,h1,h2⟩
   ·omega
   ·exact ⟨r,by rw [iter_eq,h1],h2⟩
  | succ n ih =>
   intro s hs hI
   rcases h s hI with ⟨s',h1,h2,h3⟩ | ⟨r,h1,h2⟩
   ·obtain ⟨r,k1,k2⟩:=ih s' (by omega) h2
    exact ⟨r,by rw [iter_eq,h1]; exact k1,k2⟩
   ·exact ⟨r,by rw [iter_eq,h1],h2⟩
 exact fun {s} hI=>key _ s (Nat.le_refl _) hI
theorem nth_at {l : List α} {i : Nat} (h : i < l.length) : nth l (i : Int) = some l[i]:=by
 unfold nth
 rw [if_neg (by omega)]
 simp [List.getElem?_eq_getElem h]
theorem upd_at {l : List α} {i : Nat} (h : i < l.length) (x : α) : upd l (i : Int) x = some (l.set i x):=by
 unfold upd
 rw [if_pos ⟨by omega,by omega⟩]
 simp
theorem app_ok {bytes : Nat} {l m : List α} (h : (l.length + m.length) * bytes ≤ 140737488355328) : app bytes l m = some (l ++ m):=by
 unfold app roomy
 rw [Nat.ble_eq_true_of_le h]
theorem sel_true {α : Type} {b : Bool} (h : b = true) (x y : α) : sel b x y = x:=by subst h; rfl
theorem sel_false {α : Type} {b : Bool} (h : b = false) (x y : α) : sel b x y = y:=by subst h; rfl
theorem sel_to {α : Type} {b : Bool} {x y r : α} (h : b = false) (k : y = r) : sel b x y = r:=by subst h; exact k
theorem w64_nat {i : Nat} (h : i ≤ 9223372036854775806) : w64 ((i : Int) + 1) = ((i + 1 : Nat) : Int):=by rw [w64_id (by omega) (by omega)]; omega
def markL (mk : α → Int → Option (Int × α)) : List α → Int → Option (Int × List α)
 | [],k=>some (k,[])
 | x :: xs,k=>match mk x k with
  | some (k1,x')=>match markL mk xs k1 with
   | some (k2,xs')=>some (k2,x' :: xs')
   | none=>none
  | none=>none
def HeldL (hd : α → Int → Int → Prop) : List α → Int → Int → Prop
 | [],k,k'=>k' = k
 | x :: xs,k,k'=>∃ k1,hd x k k1 ∧ HeldL hd xs k1 k'
def MH (mk : α → Int → Option (Int × α)) (hd : α → Int → Int → Prop) (sz : α → Nat) : Prop:=
 ∀ x (k : Int),1 ≤ k → k + sz x ≤ 1000000000000 → ∃ x',mk x k = some (k + sz x,x') ∧ hd x' k (k + sz x)
def szs (sz : α → Nat) : List α → Nat
 | []=>0
 | x :: xs=>sz x + szs sz xs
theorem MH.list {mk : α → Int → Option (Int × α)} {hd : α → Int → Int → Prop} {sz : α → Nat} (h : MH mk hd sz) : ∀ (l : List α) (k : Int),1 ≤ k → k + szs sz l ≤ 1000000000000 → ∃ l',markL mk l k = some (k + szs sz l,l') ∧ HeldL hd l' k (k + szs sz l) ∧ l'.length = l.length
 | [],k,_,_=>⟨[],by simp [markL,szs],by simp [HeldL,szs],rfl⟩
 | x :: xs,k,h1,h2=>by
  simp only [szs] at h2
  obtain ⟨x',k1,k2⟩:=h x k h1 (by omega)
  obtain ⟨l',k3,k4,k5⟩:=MH.list h xs (k + sz x) (by omega) (by omega)
  refine ⟨x' :: l',?_,⟨_,k2,?_⟩,by simp [k5]⟩
  ·simp only [markL,k1,k3,szs]
   congr 2
   omega
  ·rw [show k + (szs sz (x :: xs) : Nat) = k + sz x + szs sz xs by simp only [szs]; omega]
   exact k4
end Go.Proofs.YtcljimkjmklkmaaGreat.X
namespace Go.Proofs.YtcljimkjmklkmaaGreat.X
theorem wrap64_nat {n : Nat} (h : n < 9223372036854775808) : IntKind.wrap .i64 (n : Int) = n:=by
 have:=w64_id (x:=(n : Int)) (by omega) (by omega)
 exact this
theorem ofInt_nat {n : Nat} (h : n < 18446744073709551616) : (BitVec.ofInt 64 (n : Int)).toNat = n:=by
 simp only [BitVec.ofInt_natCast,BitVec.toNat_ofNat]
 exact Nat.mod_eq_of_lt h
theorem and_nat {a b : Nat} (ha : a < 9223372036854775808) (hb : b < 9223372036854775808) : bitsI .and .i64 (a : Int) (b : Int) = ((a &&& b : Nat) : Int):=by
 show IntKind.wrap .i64 ((BitVec.ofInt 64 (a : Int) &&& BitVec.ofInt 64 (b : Int)).toNat : Int) = _
 rw [BitVec.toNat_and,ofInt_nat (by omega),ofInt_nat (by omega)]
 exact wrap64_nat (Nat.lt_of_le_of_lt Nat.and_le_left ha)
theorem or_nat {a b : Nat} (ha : a < 9223372036854775808) (hb : b < 9223372036854775808) : bitsI .or .i64 (a : Int) (b : Int) = ((a ||| b : Nat) : Int):=by
 show IntKind.wrap .i64 ((BitVec.ofInt 64 (a : Int) ||| BitVec.ofInt 64 (b : Int)).toNat : Int) = _
 rw [BitVec.toNat_or,ofInt_nat (by omega),ofInt_nat (by omega)]
 exact wrap64_nat (Nat.or_lt_two_pow (n:=63) ha hb)
theorem mask_nat {a k : Nat} (ha : a < 9223372036854775808) (hk : k ≤ 62) : bitsI .and .i64 (a : Int) (((2 ^ k : Nat) : Int) - 1) = ((a % 2 ^ k : Nat) : Int):=by
 have h1 : 2 ^ k ≤ 2 ^ 62:=Nat.pow_le_pow_right (by omega) hk
 have h2 : 0 < 2 ^ k:=Nat.two_pow_pos k
 have h3 : (2 : Nat) ^ 62 = 4611686018427387904:=by decide
 rw [show (((2 ^ k : Nat) : Int) - 1) = ((2 ^ k - 1 : Nat) : Int) by omega,and_nat ha (by omega),Nat.and_two_pow_sub_one_eq_mod]
theorem add_or {i x y : Nat} (h : y < 2 ^ i) : 2 ^ i * x + y = 2 ^ i * x ||| y:=(Nat.two_pow_add_eq_or_of_lt h x)
theorem shl_nat {x k : Nat} (hk : k ≤ 62) (hx : x * 2 ^ k < 9223372036854775808) : shO .shl .i64 (x : Int) (k : Int) = some ((x * 2 ^ k : Nat) : Int):=by
 unfold shO
 rw [if_neg (by omega)]
 have hm : min ((k : Int).toNat) (IntKind.bits .i64) = k:=by
  have : IntKind.bits .i64 = 64:=rfl
  rw [this]; omega
 simp only [hm]
 congr 1
 show w64 _ = _
 have : (x : Int) * 2 ^ k = ((x * 2 ^ k : Nat) : Int):=by simp
 rw [this]
 exact w64_id (by omega) (by omega)
theorem shr_nat {x k : Nat} (hk : k ≤ 62) : shO .shr .i64 (x : Int) (k : Int) = some ((x / 2 ^ k : Nat) : Int):=by
 unfold shO
 rw [if_neg (by omega)]
 have hm : min ((k : Int).toNat) (IntKind.bits .i64) = k:=by
  have : IntKind.bits .i64 = 64:=rfl
  rw [this]; omega
 simp only [hm]
 congr 1
 rw [show ((2 : Int) ^ k) = ((2 ^ k : Nat) : Int) by simp,Int.fdiv_eq_ediv_of_nonneg _ (Int.natCast_nonneg _)]
 rfl
end Go.Proofs.YtcljimkjmklkmaaGreat.X
namespace Go.Proofs.YtcljimkjmklkmaaGreat.N
open Go.Proofs.YtcljimkjmklkmaaGreat.X
theorem sel_and' (b c : Bool) : sel b (some c) (some false) = some (b && c):=by cases b <;> rfl
theorem pow_ok (k : Nat) (hk : k ≤ 62) : f0z (k : Int) = some ((2 ^ k : Nat) : Int):=by
 unfold f0z
 have h63 : ∀ i,i ≤ 62 → 2 ^ i ≤ 4611686018427387904:=fun i hi=>Nat.pow_le_pow_right (by omega : 0 < 2) hi
 have:=iter_st (f:=f3m (k : Int)) (fun i=>(((2 ^ i : Nat) : Int),(i : Int))) k (r:=((2 ^ k : Nat) : Int)) (fun i hi=>by
  unfold f3m
  have h1:=h63 (i + 1) (by omega)
  rw [sel_true (by simpa using hi),w64_nat (by omega)]
  rw [Nat.pow_succ] at h1 ⊢
  generalize 2 ^ i = x at h1 ⊢
  rw [w64_id (by omega) (by omega)]
  simp) (by
  unfold f3m
  rw [sel_false (by simp)])
 rw [show ((2 ^ 0 : Nat) : Int) = 1 from rfl,show ((0 : Nat) : Int) = 0 from rfl] at this
 rw [this]
 rfl
theorem put_ok (n k : Nat) (hk : k ≤ 62) (hn : n * 2 ^ k < 9223372036854775808) : f0h (n : Int) (k : Int) = some ((n * 2 ^ k : Nat) : Int):=by
 unfold f0h
 rw [pow_ok k hk]
 simp only [Option.bind_some]
 rw [show (n : Int) * ((2 ^ k : Nat) : Int) = ((n * 2 ^ k : Nat) : Int) by simp,w64_id (by omega) (by omega)]
theorem sbits_ok (u low many : Nat) (hu : u < 4294967296) (hl : low ≤ 31) (hm : 1 ≤ many) (hm2 : many + low ≤ 32) : f08 (u : Int) (low : Int) (many : Int) = some ((u / 2 ^ low % 2 ^ many : Nat) : Int):=by
 unfold f08 f02
 simp only [Option.bind_some]
 have w1 : w64 (32 - (low : Int)) = 32 - low:=w64_id (by omega) (by omega)
 have e1 : (decide ((u : Int) ≥ 0) && decide ((u : Int) ≤ 4294967295)) = true:=by simp; omega
 have e2 : (decide ((low : Int) ≥ 0) && decide ((low : Int) ≤ 31)) = true:=by simp; omega
 have e3 : (decide ((many : Int) ≥ 1) && decide ((many : Int) ≤ 32 - (low : Int))) = true:=by simp; omega
 rw [e1,e2,w1,e3]
 simp only [Bool.not_true,sel,Option.bind_some]
 rw [pow_ok low (by omega),pow_ok many (by omega)]
 simp only [Option.bind_some]
 have p1:=Nat.two_pow_pos low
 have p2:=Nat.two_pow_pos many
 unfold quoO remO
 rw [if_neg (by omega)]
 simp only [Option.bind_some]
 rw [if_neg (by omega)]
 simp only [Option.bind_some]
 congr 1
 have q1 : Int.tdiv (u : Int) ((2 ^ low : Nat) : Int) = ((u / 2 ^ low : Nat) : Int):=rfl
 have hle : u / 2 ^ low ≤ u:=Nat.div_le_self _ _
 rw [q1]
 generalize u / 2 ^ low = q at hle ⊢
 show Int.tmod (w64 _) _ = _
 rw [w64_id (by omega) (by omega)]
 rfl
theorem ib1 (u low many : Nat) (hu : u < 4294967296) (hl : low ≤ 31) (hm : 1 ≤ many) (hm2 : many + low ≤ 32) : (shO .shr .i64 (u : Int) (low : Int)).bind (fun d1 =>
   (shO .shl .i64 1 (many : Int)).bind fun d2=>some (bitsI .and .i64 d1 (w64 (d2 - 1)))) =
  some ((u / 2 ^ low % 2 ^ many : Nat) : Int):=by
 have hp : 2 ^ many ≤ 2 ^ 32:=Nat.pow_le_pow_right (by omega) (by omega)
 have h3 : (2 : Nat) ^ 32 = 4294967296:=by decide
 rw [h3] at hp
 have h1 : shO .shl .i64 ((1 : Nat) : Int) (many : Int) = _:=shl_nat (x:=1) (k:=many) (by omega) (by omega)
 rw [Nat.one_mul] at h1
 have hle : u / 2 ^ low ≤ u:=Nat.div_le_self _ _
 have h4:=Nat.two_pow_pos many
 have hX : ∀ X : Nat,0 < X → X ≤ 4294967296 → w64 ((X : Int) - 1) = (X : Int) - 1:=fun X h1 h2=>w64_id (by omega) (by omega)
 refine bind_to (shr_nat (x:=u) (k:=low) (by omega)) ?_
 refine bind_to h1 ?_
 rw [hX _ h4 hp]
 congr 1
 exact mask_nat (by omega) (by omega)
theorem ibits_ok (u low many : Nat) (hu : u < 4294967296) (hl : low ≤ 31) (hm : 1 ≤ many) (hm2 : many + low ≤ 32) : f0o (u : Int) (low : Int) (many : Int) = some ((u / 2 ^ low % 2 ^ many : Nat) : Int):=by
 have w1 : w64 (32 - (low : Int)) = 32 - low:=w64_id (by omega) (by omega)
 have e1 : (decide ((u : Int) ≥ 0) && decide ((u : Int) < 4294967296)) = true:=by rw [decide_eq_true (by omega),decide_eq_true (by omega)]; rfl
 have e2 : decide ((low : Int) < 0) = false:=decide_eq_false (by omega)
 have e3 : decide ((low : Int) > 31) = false:=decide_eq_false (by omega)
 have e4 : decide ((many : Int) < 1) = false:=decide_eq_false (by omega)
 have e5 : decide ((many : Int) > 32 - (low : Int)) = false:=decide_eq_false (by omega)
 unfold f0o f55
 rw [e1,w1,e2,e3,e4,e5]
 exact ib1 u low many hu hl hm hm2
theorem part_ok (u low many place : Nat) (hu : u < 4294967296) (hl : low ≤ 31) (hm : 1 ≤ many) (hm2 : many + low ≤ 32) (hp : place + many ≤ 32) : f03 (low : Int) (many : Int) (place : Int) (u : Int) = some ((u / 2 ^ low % 2 ^ many * 2 ^ place : Nat) : Int):=by
 unfold f03
 rw [ibits_ok u low many hu hl hm hm2]
 simp only [Option.bind_some]
 have h1 : u / 2 ^ low % 2 ^ many < 2 ^ many:=Nat.mod_lt _ (Nat.two_pow_pos _)
 have h2 : u / 2 ^ low % 2 ^ many * 2 ^ place < 2 ^ many * 2 ^ place:=(Nat.mul_lt_mul_right (Nat.two_pow_pos _)).2 h1
 rw [← Nat.pow_add] at h2
 have h3 : 2 ^ (many + place) ≤ 2 ^ 32:=Nat.pow_le_pow_right (by omega) (by omega)
 have h4 : (2 : Nat) ^ 32 = 4294967296:=by decide
 rw [shl_nat (by omega) (by omega)]
 rfl
theorem fmt_R {op : Int} (h : 1 ≤ op ∧ op ≤ 11) : f0u op = some 82:=by unfold f0u; rw [sel_true (by simp; omega)]
theorem fmt_I {op : Int} (h : 12 ≤ op ∧ op ≤ 15) : f0u op = some 73:=by unfold f0u; rw [sel_false (by simp; omega),sel_true (by simp; omega)]
theorem fmt_S' {op : Int} (h : op = 16) : f0u op = some 83:=by subst h; rfl
theorem fmt_B {op : Int} (h : op = 17 ∨ op = 18) : f0u op = some 66:=by rcases h with rfl | rfl <;> rfl
theorem fmt_U' {op : Int} (h : op = 19) : f0u op = some 85:=by subst h; rfl
theorem fmt_J' {op : Int} (h : op = 20) : f0u op = some 74:=by subst h; rfl
theorem fmt_E' {op : Int} (h : op = 21) : f0u op = some 69:=by subst h; rfl
theorem fmt_X {op : Int} (h : op < 1 ∨ 21 < op) : f0u op = some 32:=by
 unfold f0u
 rw [sel_false (by simp; omega),sel_false (by simp; omega),sel_false (by simp; omega),sel_false (by simp; omega),sel_false (by simp; omega),sel_false (by simp; omega),sel_false (by simp; omega)]
theorem op_cases (op : Int) : (1 ≤ op ∧ op ≤ 11) ∨ (12 ≤ op ∧ op ≤ 15) ∨ op = 16 ∨ (op = 17 ∨ op = 18) ∨ op = 19 ∨ op = 20 ∨ op = 21 ∨ (op < 1 ∨ 21 < op):=by omega
end Go.Proofs.YtcljimkjmklkmaaGreat.N
namespace Go.Proofs.YtcljimkjmklkmaaGreat.N
open Go.Proofs.YtcljimkjmklkmaaGreat.X
theorem tab (k : Nat) (h : k < 21) : ∃ (x : InstrRow) (f3 f7 opc : Nat),nth instrTable (k : Int) = some x ∧ x.funct3 = f3 ∧ x.funct7 = f7 ∧ x.opcode = opc ∧ f3 < 8 ∧ f7 < 128 ∧ opc < 128 ∧ nth [0,0,0,4,6,7,6,4,1,5,2,0,3,2,0,2,0,1,0,0,0] (k : Int) = some (f3 : Int) ∧
  (k < 11 → nth [0,32,1,1,1,0,0,0,0,32,0] (k : Int) = some (f7 : Int) ∧ opc = 51) ∧ (k = 11 ∨ k = 12 → opc = 19) ∧ (k = 13 → opc = 3) ∧ (k = 14 → opc = 103) ∧ (k = 15 → opc = 35) ∧ (k = 16 ∨ k = 17 → opc = 99) ∧ (k = 18 → opc = 55) ∧ (k = 19 → opc = 111) ∧ (k = 20 → opc = 115):=by
 have h' : k = 0 ∨ k = 1 ∨ k = 2 ∨ k = 3 ∨ k = 4 ∨ k = 5 ∨ k = 6 ∨ k = 7 ∨ k = 8 ∨ k = 9 ∨ k = 10 ∨ k = 11 ∨ k = 12 ∨ k = 13 ∨ k = 14 ∨ k = 15 ∨ k = 16 ∨ k = 17 ∨ k = 18 ∨ k = 19 ∨ k = 20:=by omega
 rcases h' with rfl | rfl | rfl | rfl | rfl | rfl | rfl | rfl | rfl | rfl | rfl | rfl | rfl | rfl | rfl | rfl | rfl | rfl | rfl | rfl | rfl
 ·exact ⟨_,0,0,51,rfl,rfl,rfl,rfl,by decide,by decide,by decide,rfl,fun h=>⟨rfl,rfl⟩,by decide,by decide,by decide,by decide,by decide,by decide,by decide,by decide⟩
 ·exact ⟨_,0,32,51,rfl,rfl,rfl,rfl,by decide,by decide,by decide,rfl,fun h=>⟨rfl,rfl⟩,by decide,by decide,by decide,by decide,by decide,by decide,by decide,by decide⟩
 ·exact ⟨_,0,1,51,rfl,rfl,rfl,rfl,by decide,by decide,by decide,rfl,fun h=>⟨rfl,rfl⟩,by decide,by decide,by decide,by decide,by decide,by decide,by decide,by decide⟩
 ·exact ⟨_,4,1,51,rfl,rfl,rfl,rfl,by decide,by decide,by decide,rfl,fun h=>⟨rfl,rfl⟩,by decide,by decide,by decide,by decide,by decide,by decide,by decide,by decide⟩
 ·exact ⟨_,6,1,51,rfl,rfl,rfl,rfl,by decide,by decide,by decide,rfl,fun h=>⟨rfl,rfl⟩,by decide,by decide,by decide,by decide,by decide,by decide,by decide,by decide⟩
 ·exact ⟨_,7,0,51,rfl,rfl,rfl,rfl,by decide,by decide,by decide,rfl,fun h=>⟨rfl,rfl⟩,by decide,by decide,by decide,by decide,by decide,by decide,by decide,by decide⟩
 ·exact ⟨_,6,0,51,rfl,rfl,rfl,rfl,by decide,by decide,by decide,rfl,fun h=>⟨rfl,rfl⟩,by decide,by decide,by decide,by decide,by decide,by decide,by decide,by decide⟩
 ·exact ⟨_,4,0,51,rfl,rfl,rfl,rfl,by decide,by decide,by decide,rfl,fun h=>⟨rfl,rfl⟩,by decide,by decide,by decide,by decide,by decide,by decide,by decide,by decide⟩
 ·exact ⟨_,1,0,51,rfl,rfl,rfl,rfl,by decide,by decide,by decide,rfl,fun h=>⟨rfl,rfl⟩,by decide,by decide,by decide,by decide,by decide,by decide,by decide,by decide⟩
 ·exact ⟨_,5,32,51,rfl,rfl,rfl,rfl,by decide,by decide,by decide,rfl,fun h=>⟨rfl,rfl⟩,by decide,by decide,by decide,by decide,by decide,by decide,by decide,by decide⟩
 ·exact ⟨_,2,0,51,rfl,rfl,rfl,rfl,by decide,by decide,by decide,rfl,fun h=>⟨rfl,rfl⟩,by decide,by decide,by decide,by decide,by decide,by decide,by decide,by decide⟩
 ·exact ⟨_,0,0,19,rfl,rfl,rfl,rfl,by decide,by decide,by decide,rfl,fun h=>absurd h (by decide),by decide,by decide,by decide,by decide,by decide,by decide,by decide,by decide⟩
 ·exact ⟨_,3,0,19,rfl,rfl,rfl,rfl,by decide,by decide,by decide,rfl,fun h=>absurd h (by decide),by decide,by decide,by decide,by decide,by decide,by decide,by decide,by decide⟩
 ·exact ⟨_,2,0,3,rfl,rfl,rfl,rfl,by decide,by decide,by decide,rfl,fun h=>absurd h (by decide),by decide,by decide,by decide,by decide,by decide,by decide,by decide,by decide⟩
 ·exact ⟨_,0,0,103,rfl,rfl,rfl,rfl,by decide,by decide,by decide,rfl,fun h=>absurd h (by decide),by decide,by decide,by decide,by decide,by decide,by decide,by decide,by decide⟩
 ·exact ⟨_,2,0,35,rfl,rfl,rfl,rfl,by decide,by decide,by decide,rfl,fun h=>absurd h (by decide),by decide,by decide,by decide,by decide,by decide,by decide,by decide,by decide⟩
 ·exact ⟨_,0,0,99,rfl,rfl,rfl,rfl,by decide,by decide,by decide,rfl,fun h=>absurd h (by decide),by decide,by decide,by decide,by decide,by decide,by decide,by decide,by decide⟩
 ·exact ⟨_,1,0,99,rfl,rfl,rfl,rfl,by decide,by decide,by decide,rfl,fun h=>absurd h (by decide),by decide,by decide,by decide,by decide,by decide,by decide,by decide,by decide⟩
 ·exact ⟨_,0,0,55,rfl,rfl,rfl,rfl,by decide,by decide,by decide,rfl,fun h=>absurd h (by decide),by decide,by decide,by decide,by decide,by decide,by decide,by decide,by decide⟩
 ·exact ⟨_,0,0,111,rfl,rfl,rfl,rfl,by decide,by decide,by decide,rfl,fun h=>absurd h (by decide),by decide,by decide,by decide,by decide,by decide,by decide,by decide,by decide⟩
 ·exact ⟨_,0,0,115,rfl,rfl,rfl,rfl,by decide,by decide,by decide,rfl,fun h=>absurd h (by decide),by decide,by decide,by decide,by decide,by decide,by decide,by decide,by decide⟩
theorem shl_lit {n k : Nat} (h : n * 2 ^ k < 9223372036854775808) : w64 ((n : Int) * 2 ^ k) = ((n * 2 ^ k : Nat) : Int):=by
 have : (n : Int) * 2 ^ k = ((n * 2 ^ k : Nat) : Int):=by simp
 rw [this]
 exact w64_id (by omega) (by omega)
theorem uns_ok {x : Int} (h1 : -2147483648 ≤ x) (h2 : x ≤ 2147483647) : ∃ u : Nat,u < 4294967296 ∧ (u : Int) = x % 4294967296 ∧ f1h x = some (u : Int) ∧ f1g x = some (u : Int):=by
 refine ⟨(x % 4294967296).toNat,by omega,by omega,?_,?_⟩
 ·unfold f1h f1j
  have e1 : (decide (x ≥ -2147483648) && decide (x ≤ 2147483647)) = true:=by rw [decide_eq_true (by omega),decide_eq_true (by omega)]; rfl
  rw [e1]
  simp only [Option.bind_some,Bool.not_true,sel]
  have e2 : kwrap .u32 x = x % 4294967296:=by
   show IntKind.wrap .u32 x = _
   simp [IntKind.wrap,IntKind.signed,IntKind.bits]
  rw [e2,w64_id (by omega) (by omega)]
  congr 1
  omega
 ·unfold f1g f0v f02
  have e1 : (decide (x ≥ -2147483648) && decide (x ≤ 2147483647)) = true:=by rw [decide_eq_true (by omega),decide_eq_true (by omega)]; rfl
  rw [e1]
  simp only [Option.bind_some,Bool.not_true]
  rw [sel_false rfl]
  by_cases h : x < 0
  ·rw [sel_true (by simpa using h),w64_id (by omega) (by omega)]
   congr 1
   omega
  ·rw [sel_false (by simpa using h)]
   congr 1
   omega
theorem mod_ok {x : Int} {p : Nat} (h1 : -(p : Int) ≤ x) (h2 : x < p) (h3 : p ≤ 4294967296) : ∃ m : Nat,m < p ∧ (m : Int) = x % p ∧ f43 x p = some (m : Int):=by
 have hp : 0 < (p : Int):=by omega
 unfold f43
 by_cases h : x < 0
 ·refine ⟨(x + p).toNat,by omega,?_,?_⟩
  ·rw [Int.toNat_of_nonneg (by omega),← Int.add_emod_right,Int.emod_eq_of_lt (by omega) (by omega)]
  ·rw [sel_true (by simpa using h),w64_id (by omega) (by omega),Int.toNat_of_nonneg (by omega)]
 ·refine ⟨x.toNat,by omega,?_,?_⟩
  ·rw [Int.toNat_of_nonneg (by omega),Int.emod_eq_of_lt (by omega) (by omega)]
  ·rw [sel_false (by simpa using h),Int.toNat_of_nonneg (by omega)]
theorem or_R {f7 rt rs f3 opc rd : Nat} (h1 : opc < 128) (h2 : rd < 32) (h3 : f3 < 8) (h4 : rs < 32) (h5 : rt < 32) :
  ((f7 * 2 ^ 25 ||| (rt * 2 ^ 20 ||| rs * 2 ^ 15 ||| f3 * 2 ^ 12 ||| opc)) ||| rd * 2 ^ 7) = f7 * 2 ^ 25 + rt * 2 ^ 20 + (rs * 2 ^ 15 + f3 * 2 ^ 12 + opc) + rd * 2 ^ 7:=by
 have e : f7 * 2 ^ 25 + rt * 2 ^ 20 + (rs * 2 ^ 15 + f3 * 2 ^ 12 + opc) + rd * 2 ^ 7 = 2 ^ 25 * f7 + (2 ^ 20 * rt + (2 ^ 15 * rs + (2 ^ 12 * f3 + (2 ^ 7 * rd + opc)))):=by omega
 rw [e,add_or (i:=25) (by omega),add_or (i:=20) (by omega),add_or (i:=15) (by omega),add_or (i:=12) (by omega),add_or (i:=7) (by omega)]
 simp only [Nat.mul_comm _ (2 ^ 25),Nat.mul_comm _ (2 ^ 20),Nat.mul_comm _ (2 ^ 15),Nat.mul_comm _ (2 ^ 12),Nat.mul_comm _ (2 ^ 7)]
 ac_rfl
end Go.Proofs.YtcljimkjmklkmaaGreat.N
namespace Go.Proofs.YtcljimkjmklkmaaGreat.N
open Go.Proofs.YtcljimkjmklkmaaGreat.X
def IOk (x : Instr) : Prop:=(0 ≤ x.Rd ∧ x.Rd ≤ 31) ∧ (0 ≤ x.Rs ∧ x.Rs ≤ 31) ∧ (0 ≤ x.Rt ∧ x.Rt ≤ 31) ∧
  ((1 ≤ x.Op ∧ x.Op ≤ 11 ∧ x.Imm = 0) ∨ (12 ≤ x.Op ∧ x.Op ≤ 15 ∧ x.Rt = 0 ∧ -2048 ≤ x.Imm ∧ x.Imm ≤ 2047) ∨ (x.Op = 16 ∧ x.Rd = 0 ∧ -2048 ≤ x.Imm ∧ x.Imm ≤ 2047) ∨
   ((x.Op = 17 ∨ x.Op = 18) ∧ x.Rd = 0 ∧ -4096 ≤ x.Imm ∧ x.Imm ≤ 4094 ∧ x.Imm % 2 = 0) ∨ (x.Op = 19 ∧ x.Rs = 0 ∧ x.Rt = 0 ∧ 0 ≤ x.Imm ∧ x.Imm ≤ 1048575) ∨
   (x.Op = 20 ∧ x.Rs = 0 ∧ x.Rt = 0 ∧ -1048576 ≤ x.Imm ∧ x.Imm ≤ 1048574 ∧ x.Imm % 2 = 0) ∨ (x.Op = 21 ∧ x.Rd = 0 ∧ x.Rs = 0 ∧ x.Rt = 0 ∧ x.Imm = 0))
instance (x : Instr) : Decidable (IOk x):=by unfold IOk; infer_instance
theorem sel_tt {α : Type} {b : Bool} {x y r : α} (h : b = true) (k : x = r) : sel b x y = r:=by subst h; exact k
def sx (v n : Nat) : Int:=bif Nat.ble (2 ^ (n - 1)) v then (v : Int) - ((2 ^ n : Nat) : Int) else v
theorem sx_bd {v n : Nat} (hn : 1 ≤ n) (hv : v < 2 ^ n) : -((2 ^ (n - 1) : Nat) : Int) ≤ sx v n ∧ sx v n < ((2 ^ (n - 1) : Nat) : Int):=by
 unfold sx
 have h2 : 2 ^ n = 2 * 2 ^ (n - 1):=by rw [← Nat.pow_succ']; congr 1; omega
 rw [h2] at hv ⊢
 generalize 2 ^ (n - 1) = p at hv ⊢
 cases hb : Nat.ble p v with
 | true =>
  have:=Nat.le_of_ble_eq_true hb
  simp only [cond_true]
  omega
 | false =>
  have : ¬ p ≤ v:=fun h=>by rw [Nat.ble_eq_true_of_le h] at hb; cases hb
  simp only [cond_false]
  omega
theorem sx_ev (m n : Nat) (hn : 1 ≤ n) : ∃ q : Int,sx (2 * m) n = 2 * q:=by
 unfold sx
 rw [show 2 ^ n = 2 * 2 ^ (n - 1) by rw [← Nat.pow_succ']; congr 1; omega]
 generalize 2 ^ (n - 1) = p
 cases Nat.ble p (2 * m)
 ·exact ⟨m,by simp only [cond_false]; omega⟩
 ·exact ⟨m - p,by simp only [cond_true]; omega⟩
theorem ble_int (p v : Nat) : decide ((v : Int) ≥ (p : Int)) = Nat.ble p v:=by
 rw [Bool.eq_iff_iff]
 simp only [decide_eq_true_eq,Nat.ble_eq]
 omega
theorem ssx_ok (v n : Nat) (h1 : 1 ≤ n) (h2 : n ≤ 31) (hv : v < 2 ^ n) : f14 (v : Int) (n : Int) = some (sx v n):=by
 have hp : 2 ^ n ≤ 2 ^ 31:=Nat.pow_le_pow_right (by omega) h2
 have h3 : (2 : Nat) ^ 31 = 2147483648:=by decide
 rw [h3] at hp
 have q1 : f0z (w64 ((n : Int) - 1)) = some ((2 ^ (n - 1) : Nat) : Int):=by
  rw [w64_id (by omega) (by omega),show (n : Int) - 1 = ((n - 1 : Nat) : Int) by omega]
  exact pow_ok (n - 1) (by omega)
 have q2:=pow_ok n (by omega)
 have hb : Nat.ble (2 ^ (n - 1)) v = Nat.ble (2 ^ (n - 1)) v:=rfl
 unfold f14 sx f02
 generalize 2 ^ n = N at q2 hv hp ⊢
 generalize 2 ^ (n - 1) = M at q1 ⊢
 have e1 : (decide ((n : Int) ≥ 1) && decide ((n : Int) ≤ 32)) = true:=by rw [decide_eq_true (by omega),decide_eq_true (by omega)]; rfl
 have e2 : (decide ((v : Int) ≥ 0) && decide ((v : Int) ≤ (w64 ((N : Int) - 1)))) = true:=by rw [w64_id (by omega) (by omega),decide_eq_true (by omega),decide_eq_true (by omega)]; rfl
 refine bind_to (congrArg some e1) (bind_to (y:=false) ?_ ?_)
 ·refine sel_to rfl (bind_to q2 ?_)
  rw [e2]
  rfl
 ·refine sel_to rfl (bind_to q1 ?_)
  rw [ble_int]
  cases Nat.ble M v
  ·rfl
  ·refine sel_tt rfl (bind_to q2 ?_)
   rw [w64_id (by omega) (by omega)]
   rfl
theorem dm {r a b m p q : Nat} (h : r = (a * q + m) * p + b) (hb : b < p) (hm : m < q) : r / p % q = m:=by
 subst h
 rw [Nat.add_comm,Nat.add_mul_div_right _ _ (by omega),Nat.div_eq_of_lt hb,Nat.zero_add,Nat.add_comm,Nat.add_mul_mod_self_right,Nat.mod_eq_of_lt hm]
theorem split21 {i : Nat} (h : i < 21) : i = 0 ∨ i = 1 ∨ i = 2 ∨ i = 3 ∨ i = 4 ∨ i = 5 ∨ i = 6 ∨ i = 7 ∨ i = 8 ∨ i = 9 ∨ i = 10 ∨ i = 11 ∨ i = 12 ∨ i = 13 ∨ i = 14 ∨ i = 15 ∨ i = 16 ∨ i = 17 ∨ i = 18 ∨ i = 19 ∨ i = 20:=by omega
def t3 (i : Nat) : Nat:=[0,0,0,4,6,7,6,4,1,5,2,0,3,2,0,2,0,1,0,0,0].getD i 0
def t7 (i : Nat) : Nat:=[0,32,1,1,1,0,0,0,0,32,0].getD i 0
def tO (i : Nat) : Nat:=[51,51,51,51,51,51,51,51,51,51,51,19,19,3,103,35,99,99,55,111,115].getD i 0
theorem t3_of {k f : Nat} (hk : k < 21) (h : nth [0,0,0,4,6,7,6,4,1,5,2,0,3,2,0,2,0,1,0,0,0] (k : Int) = some (f : Int)) : f = t3 k:=by
 rcases split21 hk with rfl | rfl | rfl | rfl | rfl | rfl | rfl | rfl | rfl | rfl | rfl | rfl | rfl | rfl | rfl | rfl | rfl | rfl | rfl | rfl | rfl
 all_goals (have k':=Option.some.inj h; simp only [t3]; exact (Int.ofNat.inj k').symm)
theorem t7_of {k f : Nat} (hk : k < 11) (h : nth [0,32,1,1,1,0,0,0,0,32,0] (k : Int) = some (f : Int)) : f = t7 k:=by
 rcases (by omega : k = 0 ∨ k = 1 ∨ k = 2 ∨ k = 3 ∨ k = 4 ∨ k = 5 ∨ k = 6 ∨ k = 7 ∨ k = 8 ∨ k = 9 ∨ k = 10) with rfl | rfl | rfl | rfl | rfl | rfl | rfl | rfl | rfl | rfl | rfl
 all_goals (have k':=Option.some.inj h; simp only [t7]; exact (Int.ofNat.inj k').symm)
theorem tO_R {k : Nat} (hk : k < 11) : tO k = 51:=by
 rcases (by omega : k = 0 ∨ k = 1 ∨ k = 2 ∨ k = 3 ∨ k = 4 ∨ k = 5 ∨ k = 6 ∨ k = 7 ∨ k = 8 ∨ k = 9 ∨ k = 10) with rfl | rfl | rfl | rfl | rfl | rfl | rfl | rfl | rfl | rfl | rfl <;> rfl
theorem sx12 {imm : Int} {m : Nat} (hb : -2048 ≤ imm ∧ imm ≤ 2047) (hm : (m : Int) = imm % 4096) : sx m 12 = imm:=by
 unfold sx
 rw [show ((2 ^ 12 : Nat) : Int) = 4096 from rfl,show (2 ^ (12 - 1) : Nat) = 2048 from rfl]
 cases h : Nat.ble 2048 m
 ·have h' : ¬ 2048 ≤ m:=fun hh=>by rw [Nat.ble_eq_true_of_le hh] at h; cases h
  simp only [cond_false]; omega
 ·have h':=Nat.le_of_ble_eq_true h
  simp only [cond_true]; omega
theorem sx13 {imm : Int} {m : Nat} (hb : -4096 ≤ imm ∧ imm ≤ 4095) (hm : (m : Int) = imm % 8192) : sx m 13 = imm:=by
 unfold sx
 rw [show ((2 ^ 13 : Nat) : Int) = 8192 from rfl,show (2 ^ (13 - 1) : Nat) = 4096 from rfl]
 cases h : Nat.ble 4096 m
 ·have h' : ¬ 4096 ≤ m:=fun hh=>by rw [Nat.ble_eq_true_of_le hh] at h; cases h
  simp only [cond_false]; omega
 ·have h':=Nat.le_of_ble_eq_true h
  simp only [cond_true]; omega
theorem sx21 {imm : Int} {m : Nat} (hb : -1048576 ≤ imm ∧ imm ≤ 1048575) (hm : (m : Int) = imm % 2097152) : sx m 21 = imm:=by
 unfold sx
 rw [show ((2 ^ 21 : Nat) : Int) = 2097152 from congrArg (fun n : Nat=>(n : Int)) (show (2 ^ 21 : Nat) = 2097152 from rfl),show (2 ^ (21 - 1) : Nat) = 1048576 from rfl]
 cases h : Nat.ble 1048576 m
 ·have h' : ¬ 1048576 ≤ m:=fun hh=>by rw [Nat.ble_eq_true_of_le hh] at h; cases h
  simp only [cond_false]; omega
 ·have h':=Nat.le_of_ble_eq_true h
  simp only [cond_true]; omega
def Fl (i : Instr) (r : Nat) : Prop:=∃ k : Nat,k < 21 ∧ i.Op = (k : Int) + 1 ∧ r % 128 = tO k ∧ (k < 18 → r / 4096 % 8 = t3 k) ∧ (k < 11 → r / 33554432 % 128 = t7 k) ∧ f0b i.Op (r : Int) = some i
theorem fl_R {k d s t f3 f7 : Nat} (hk : k < 11) (hd : d < 32) (hs : s < 32) (ht : t < 32) (h3 : f3 = t3 k) (h3' : f3 < 8) (h7 : f7 = t7 k) (h7' : f7 < 128) : Fl ⟨(k : Int) + 1,d,s,t,0⟩ (f7 * 2 ^ 25 + t * 2 ^ 20 + (s * 2 ^ 15 + f3 * 2 ^ 12 + 51) + d * 2 ^ 7):=by
 generalize hr : f7 * 2 ^ 25 + t * 2 ^ 20 + (s * 2 ^ 15 + f3 * 2 ^ 12 + 51) + d * 2 ^ 7 = r
 simp only [Nat.reducePow] at hr
 have hu : r < 4294967296:=by omega
 have b1:=sbits_ok r 7 5 hu (by omega) (by omega) (by omega)
 have b2:=sbits_ok r 15 5 hu (by omega) (by omega) (by omega)
 have b3:=sbits_ok r 20 5 hu (by omega) (by omega) (by omega)
 rw [show r / 2 ^ 7 % 2 ^ 5 = d by simp only [Nat.reducePow]; omega] at b1
 rw [show r / 2 ^ 15 % 2 ^ 5 = s by simp only [Nat.reducePow]; omega] at b2
 rw [show r / 2 ^ 20 % 2 ^ 5 = t by simp only [Nat.reducePow]; omega] at b3
 refine ⟨k,by omega,rfl,by rw [tO_R hk]; omega,fun _=>by omega,fun _=>by omega,?_⟩
 show f0b ((k : Int) + 1) (r : Int) = _
 unfold f0b
 exact bind_to b1 (bind_to b2 (bind_to b3 (sel_tt (decide_eq_true (by omega)) rfl)))
theorem fl_I {k d s f3 o m : Nat} {imm : Int} (hk : 11 ≤ k) (hk2 : k < 15) (hd : d < 32) (hs : s < 32) (h3 : f3 = t3 k) (h3' : f3 < 8) (ho : o = tO k) (ho' : o < 128) (hb : -2048 ≤ imm ∧ imm ≤ 2047) (hm : (m : Int) = imm % 4096) : Fl ⟨(k : Int) + 1,d,s,0,imm⟩ (m * 2 ^ 20 + (s * 2 ^ 15 + f3 * 2 ^ 12 + o) + d * 2 ^ 7):=by
 have x1:=ssx_ok m 12 (by omega) (by omega) (by omega)
 rw [sx12 hb hm] at x1
 generalize hr : m * 2 ^ 20 + (s * 2 ^ 15 + f3 * 2 ^ 12 + o) + d * 2 ^ 7 = r
 simp only [Nat.reducePow] at hr
 have hu : r < 4294967296:=by omega
 have b1:=sbits_ok r 7 5 hu (by omega) (by omega) (by omega)
 have b2:=sbits_ok r 15 5 hu (by omega) (by omega) (by omega)
 have b3:=sbits_ok r 20 5 hu (by omega) (by omega) (by omega)
 have b4:=sbits_ok r 20 12 hu (by omega) (by omega) (by omega)
 rw [show r / 2 ^ 7 % 2 ^ 5 = d by simp only [Nat.reducePow]; omega] at b1
 rw [show r / 2 ^ 15 % 2 ^ 5 = s by simp only [Nat.reducePow]; omega] at b2
 rw [show r / 2 ^ 20 % 2 ^ 12 = m by simp only [Nat.reducePow]; omega] at b4
 refine ⟨k,by omega,rfl,by omega,fun _=>by omega,fun _=>by omega,?_⟩
 show f0b ((k : Int) + 1) (r : Int) = _
 unfold f0b
 exact bind_to b1 (bind_to b2 (bind_to b3 (sel_to (decide_eq_false (by omega)) (sel_tt (decide_eq_true (by omega)) (bind_to b4 (bind_to x1 rfl))))))
theorem fl_S {s t f3 h7 l5 m : Nat} {imm : Int} (hs : s < 32) (ht : t < 32) (h3 : f3 = t3 15) (h3' : f3 < 8) (h1 : h7 < 128) (h2 : l5 < 32) (hrel : h7 * 32 + l5 = m) (hb : -2048 ≤ imm ∧ imm ≤ 2047) (hm : (m : Int) = imm % 4096) : Fl ⟨16,0,s,t,imm⟩ (h7 * 2 ^ 25 + t * 2 ^ 20 + (s * 2 ^ 15 + f3 * 2 ^ 12 + 35) + l5 * 2 ^ 7):=by
 have x1:=ssx_ok m 12 (by omega) (by omega) (by omega)
 rw [sx12 hb hm,← hrel] at x1
 have e1 : w64 (w64 ((h7 : Int) * 32) + (l5 : Int)) = ((h7 * 32 + l5 : Nat) : Int):=by rw [w64_id (x:=(h7 : Int) * 32) (by omega) (by omega),w64_id (by omega) (by omega)]; omega
 rw [← e1] at x1
 generalize hr : h7 * 2 ^ 25 + t * 2 ^ 20 + (s * 2 ^ 15 + f3 * 2 ^ 12 + 35) + l5 * 2 ^ 7 = r
 simp only [Nat.reducePow] at hr
 have hu : r < 4294967296:=by omega
 have b1:=sbits_ok r 7 5 hu (by omega) (by omega) (by omega)
 have b2:=sbits_ok r 15 5 hu (by omega) (by omega) (by omega)
 have b3:=sbits_ok r 20 5 hu (by omega) (by omega) (by omega)
 have b4:=sbits_ok r 25 7 hu (by omega) (by omega) (by omega)
 rw [show r / 2 ^ 7 % 2 ^ 5 = l5 from dm (a:=h7 * 8192 + t * 256 + s * 8 + f3) (b:=35) (by simp only [Nat.reducePow]; omega) (by simp only [Nat.reducePow]; omega) (by simp only [Nat.reducePow]; omega)] at b1
 rw [show r / 2 ^ 15 % 2 ^ 5 = s from dm (a:=h7 * 32 + t) (b:=f3 * 4096 + l5 * 128 + 35) (by simp only [Nat.reducePow]; omega) (by simp only [Nat.reducePow]; omega) (by simp only [Nat.reducePow]; omega)] at b2
 rw [show r / 2 ^ 20 % 2 ^ 5 = t from dm (a:=h7) (b:=s * 32768 + f3 * 4096 + l5 * 128 + 35) (by simp only [Nat.reducePow]; omega) (by simp only [Nat.reducePow]; omega) (by simp only [Nat.reducePow]; omega)] at b3
 rw [show r / 2 ^ 25 % 2 ^ 7 = h7 from dm (a:=0) (b:=t * 1048576 + s * 32768 + f3 * 4096 + l5 * 128 + 35) (by simp only [Nat.reducePow]; omega) (by simp only [Nat.reducePow]; omega) (by simp only [Nat.reducePow]; omega)] at b4
 refine ⟨15,by omega,rfl,by rw [show tO 15 = 35 from rfl]; omega,fun _=>(dm (r:=r) (p:=4096) (q:=8) (m:=f3) (a:=h7 * 1024 + t * 32 + s) (b:=l5 * 128 + 35) (by omega) (by omega) h3').trans h3,fun _=>by omega,?_⟩
 unfold f0b
 exact bind_to b1 (bind_to b2 (bind_to b3 (sel_to rfl (sel_to rfl (sel_tt rfl (bind_to b4 (bind_to x1 rfl)))))))
theorem fl_B {k s t f3 v1 v2 v3 v4 m : Nat} {imm : Int} (hk : k = 16 ∨ k = 17) (hs : s < 32) (ht : t < 32) (h3 : f3 = t3 k) (h3' : f3 < 8) (l1 : v1 < 2) (l2 : v2 < 64) (l3 : v3 < 16) (l4 : v4 < 2) (hrel : v1 * 4096 + v4 * 2048 + v2 * 32 + v3 * 2 = m) (hb : -4096 ≤ imm ∧ imm ≤ 4095) (hm : (m : Int) = imm % 8192) :
  Fl ⟨(k : Int) + 1,0,s,t,imm⟩ (v1 * 2 ^ 31 + v2 * 2 ^ 25 + t * 2 ^ 20 + (s * 2 ^ 15 + f3 * 2 ^ 12 + 99) + v3 * 2 ^ 8 + v4 * 2 ^ 7):=by
 have x1:=ssx_ok m 13 (by omega) (by omega) (by omega)
 rw [sx13 hb hm,← hrel] at x1
 have e1 : w64 (w64 (w64 (w64 ((v1 : Int) * 4096) + w64 ((v4 : Int) * 2048)) + w64 ((v2 : Int) * 32)) + w64 ((v3 : Int) * 2)) = ((v1 * 4096 + v4 * 2048 + v2 * 32 + v3 * 2 : Nat) : Int):=by
  rw [w64_id (x:=(v1 : Int) * 4096) (by omega) (by omega),w64_id (x:=(v4 : Int) * 2048) (by omega) (by omega),w64_id (x:=(v2 : Int) * 32) (by omega) (by omega),w64_id (x:=(v3 : Int) * 2) (by omega) (by omega),w64_id (x:=(v1 : Int) * 4096 + (v4 : Int) * 2048) (by omega) (by omega),w64_id (x:=(v1 : Int) * 4096 + (v4 : Int) * 2048 + (v2 : Int) * 32) (by omega) (by omega),w64_id (by omega) (by omega)]
  omega
 rw [← e1] at x1
 generalize hr : v1 * 2 ^ 31 + v2 * 2 ^ 25 + t * 2 ^ 20 + (s * 2 ^ 15 + f3 * 2 ^ 12 + 99) + v3 * 2 ^ 8 + v4 * 2 ^ 7 = r
 simp only [Nat.reducePow] at hr
 have hu : r < 4294967296:=by omega
 have b1:=sbits_ok r 7 5 hu (by omega) (by omega) (by omega)
 have b2:=sbits_ok r 15 5 hu (by omega) (by omega) (by omega)
 have b3:=sbits_ok r 20 5 hu (by omega) (by omega) (by omega)
 have b4:=sbits_ok r 31 1 hu (by omega) (by omega) (by omega)
 have b5:=sbits_ok r 7 1 hu (by omega) (by omega) (by omega)
 have b6:=sbits_ok r 25 6 hu (by omega) (by omega) (by omega)
 have b7:=sbits_ok r 8 4 hu (by omega) (by omega) (by omega)
 rw [show r / 2 ^ 15 % 2 ^ 5 = s from dm (a:=v1 * 2048 + v2 * 32 + t) (b:=f3 * 4096 + v3 * 256 + v4 * 128 + 99) (by simp only [Nat.reducePow]; omega) (by simp only [Nat.reducePow]; omega) (by simp only [Nat.reducePow]; omega)] at b2
 rw [show r / 2 ^ 20 % 2 ^ 5 = t from dm (a:=v1 * 64 + v2) (b:=s * 32768 + f3 * 4096 + v3 * 256 + v4 * 128 + 99) (by simp only [Nat.reducePow]; omega) (by simp only [Nat.reducePow]; omega) (by simp only [Nat.reducePow]; omega)] at b3
 rw [show r / 2 ^ 31 % 2 ^ 1 = v1 from dm (a:=0) (b:=v2 * 33554432 + t * 1048576 + s * 32768 + f3 * 4096 + v3 * 256 + v4 * 128 + 99) (by simp only [Nat.reducePow]; omega) (by simp only [Nat.reducePow]; omega) (by simp only [Nat.reducePow]; omega)] at b4
 rw [show r / 2 ^ 7 % 2 ^ 1 = v4 from dm (a:=v1 * 8388608 + v2 * 131072 + t * 4096 + s * 128 + f3 * 16 + v3) (b:=99) (by simp only [Nat.reducePow]; omega) (by simp only [Nat.reducePow]; omega) (by simp only [Nat.reducePow]; omega)] at b5
 rw [show r / 2 ^ 25 % 2 ^ 6 = v2 from dm (a:=v1) (b:=t * 1048576 + s * 32768 + f3 * 4096 + v3 * 256 + v4 * 128 + 99) (by simp only [Nat.reducePow]; omega) (by simp only [Nat.reducePow]; omega) (by simp only [Nat.reducePow]; omega)] at b6
 rw [show r / 2 ^ 8 % 2 ^ 4 = v3 from dm (a:=v1 * 524288 + v2 * 8192 + t * 256 + s * 8 + f3) (b:=v4 * 128 + 99) (by simp only [Nat.reducePow]; omega) (by simp only [Nat.reducePow]; omega) (by simp only [Nat.reducePow]; omega)] at b7
 refine ⟨k,by omega,rfl,by rcases hk with rfl | rfl <;> (show r % 128 = 99; omega),fun _=>(dm (r:=r) (p:=4096) (q:=8) (m:=f3) (a:=v1 * 65536 + v2 * 1024 + t * 32 + s) (b:=v3 * 256 + v4 * 128 + 99) (by omega) (by omega) h3').trans h3,fun _=>by omega,?_⟩
 show f0b ((k : Int) + 1) (r : Int) = _
 unfold f0b
 refine bind_to b1 (bind_to b2 (bind_to b3 (sel_to (decide_eq_false (by omega)) (sel_to (decide_eq_false (by omega)) (sel_to ?_ (sel_tt ?_ (bind_to b4 (bind_to b5 (bind_to b6 (bind_to b7 (bind_to x1 rfl)))))))))))
 ·rcases hk with rfl | rfl <;> rfl
 ·rcases hk with rfl | rfl <;> rfl
theorem fl_U {d m : Nat} {imm : Int} (hd : d < 32) (hl : m < 1048576) (hm : imm = (m : Int)) : Fl ⟨19,d,0,0,imm⟩ (m * 2 ^ 12 + d * 2 ^ 7 + 55):=by
 subst hm
 generalize hr : m * 2 ^ 12 + d * 2 ^ 7 + 55 = r
 simp only [Nat.reducePow] at hr
 have hu : r < 4294967296:=by omega
 have b1:=sbits_ok r 7 5 hu (by omega) (by omega) (by omega)
 have b2:=sbits_ok r 15 5 hu (by omega) (by omega) (by omega)
 have b3:=sbits_ok r 20 5 hu (by omega) (by omega) (by omega)
 have b4:=sbits_ok r 12 20 hu (by omega) (by omega) (by omega)
 rw [show r / 2 ^ 7 % 2 ^ 5 = d by simp only [Nat.reducePow]; omega] at b1
 rw [show r / 2 ^ 12 % 2 ^ 20 = m by simp only [Nat.reducePow]; omega] at b4
 refine ⟨18,by omega,rfl,by rw [show tO 18 = 55 from rfl]; omega,fun h=>absurd h (by omega),fun h=>absurd h (by omega),?_⟩
 unfold f0b
 exact bind_to b1 (bind_to b2 (bind_to b3 (sel_to rfl (sel_to rfl (sel_to rfl (sel_to rfl (sel_tt rfl (bind_to b4 rfl))))))))
theorem fl_J {d v1 v2 v3 v4 m : Nat} {imm : Int} (hd : d < 32) (l1 : v1 < 2) (l2 : v2 < 1024) (l3 : v3 < 2) (l4 : v4 < 256) (hrel : v1 * 1048576 + v4 * 4096 + v3 * 2048 + v2 * 2 = m) (hb : -1048576 ≤ imm ∧ imm ≤ 1048575) (hm : (m : Int) = imm % 2097152) :
    Fl ⟨20, d, 0, 0, imm⟩ (v1 * 2 ^ 31 + v2 * 2 ^ 21 + v3 * 2 ^ 20 + v4 * 2 ^ 12 + d * 2 ^ 7 + 111) := by
  have x1 := ssx_ok m 21 (by omega) (by omega) (by have : (2 : Nat) ^ 21 = 2097152 := rfl
                                                   omega)
  rw [sx21 hb hm, ← hrel] at x1
  have e1 : w64 (w64 (w64 (w64 ((v1 : Int) * 1048576) + w64 ((v4 : Int) * 4096)) + w64 ((v3 : Int) * 2048)) + w64 ((v2 : Int) * 2)) = ((v1 * 1048576 + v4 * 4096 + v3 * 2048 + v2 * 2 : Nat) : Int) := by
    rw [w64_id (x := (v1 : Int) * 1048576) (by omega) (by omega), w64_id (x := (v4 : Int) * 4096) (by omega) (by omega), w64_id (x := (v3 : Int) * 2048) (by omega) (by omega), w64_id (x := (v2 : Int) * 2) (by omega) (by omega), w64_id (x := (v1 : Int) * 1048576 + (v4 : Int) * 4096) (by omega) (by omega), w64_id (x := (v1 : Int) * 1048576 + (v4 : Int) * 4096 + (v3 : Int) * 2048) (by omega) (by omega), w64_id (by omega) (by omega)]
    omega
  rw [← e1] at x1
  generalize hr : v1 * 2 ^ 31 + v2 * 2 ^ 21 + v3 * 2 ^ 20 + v4 * 2 ^ 12 + d * 2 ^ 7 + 111 = r
  simp only [Nat.reducePow] at hr
  have hu : r < 4294967296 := by omega
  have b1 := sbits_ok r 7 5 hu (by omega) (by omega) (by omega)
  have b2 := sbits_ok r 15 5 hu (by omega) (by omega) (by omega)
  have b3 := sbits_ok r 20 5 hu (by omega) (by omega) (by omega)
  have b4 := sbits_ok r 31 1 hu (by omega) (by omega) (by omega)
  have b5 := sbits_ok r 12 8 hu (by omega) (by omega) (by omega)
  have b6 := sbits_ok r 20 1 hu (by omega) (by omega) (by omega)
  have b7 := sbits_ok r 21 10 hu (by omega) (by omega) (by omega)
  rw [show r / 2 ^ 7 % 2 ^ 5 = d from dm (a := v1 * 524288 + v2 * 512 + v3 * 256 + v4) (b := 111) (by simp only [Nat.reducePow]; omega) (by simp only [Nat.reducePow]; omega) (by simp only [Nat.reducePow]; omega)] at b1
  rw [show r / 2 ^ 31 % 2 ^ 1 = v1 from dm (a := 0) (b := v2 * 2097152 + v3 * 1048576 + v4 * 4096 + d * 128 + 111) (by simp only [Nat.reducePow]; omega) (by simp only [Nat.reducePow]; omega) (by simp only [Nat.reducePow]; omega)] at b4
  rw [show r / 2 ^ 12 % 2 ^ 8 = v4 from dm (a := v1 * 2048 + v2 * 2 + v3) (b := d * 128 + 111) (by simp only [Nat.reducePow]; omega) (by simp only [Nat.reducePow]; omega) (by simp only [Nat.reducePow]; omega)] at b5
  rw [show r / 2 ^ 20 % 2 ^ 1 = v3 from dm (a := v1 * 1024 + v2) (b := v4 * 4096 + d * 128 + 111) (by simp only [Nat.reducePow]; omega) (by simp only [Nat.reducePow]; omega) (by simp only [Nat.reducePow]; omega)] at b6
  rw [show r / 2 ^ 21 % 2 ^ 10 = v2 from dm (a := v1) (b := v3 * 1048576 + v4 * 4096 + d * 128 + 111) (by simp only [Nat.reducePow]; omega) (by simp only [Nat.reducePow]; omega) (by simp only [Nat.reducePow]; omega)] at b7
  refine ⟨19, by omega, rfl, by rw [show tO 19 = 111 from rfl]; omega, fun h => absurd h (by omega), fun h => absurd h (by omega), ?_⟩
  unfold f0b
  exact bind_to b1 (bind_to b2 (bind_to b3 (sel_to rfl (sel_to rfl (sel_to rfl (sel_to rfl (sel_to rfl (sel_tt rfl (bind_to b4 (bind_to b5 (bind_to b6 (bind_to b7 (bind_to x1 rfl)))))))))))))
theorem fl_E : Fl ⟨21,0,0,0,0⟩ 115:=by
 have b1:=sbits_ok 115 7 5 (by omega) (by omega) (by omega) (by omega)
 have b2:=sbits_ok 115 15 5 (by omega) (by omega) (by omega) (by omega)
 have b3:=sbits_ok 115 20 5 (by omega) (by omega) (by omega) (by omega)
 refine ⟨20,by omega,rfl,rfl,fun h=>absurd h (by omega),fun h=>absurd h (by omega),?_⟩
 unfold f0b
 exact bind_to b1 (bind_to b2 (bind_to b3 (sel_to rfl (sel_to rfl (sel_to rfl (sel_to rfl (sel_to rfl (sel_to rfl rfl))))))))
end Go.Proofs.YtcljimkjmklkmaaGreat.N
namespace Go.Proofs.YtcljimkjmklkmaaGreat.N
open Go.Proofs.YtcljimkjmklkmaaGreat.X
theorem w64_add {a b : Nat} (h : a + b < 9223372036854775808) : w64 ((a : Int) + (b : Int)) = ((a + b : Nat) : Int):=by rw [w64_id (by omega) (by omega)]; omega
theorem mid_ok {op rd rs rt imm : Int} {k srs f3 opc : Nat} (hk : op = (k : Int) + 1) (hk2 : k < 21) (hrs : rs = srs) (hs : srs < 32) (hf : nth [0,0,0,4,6,7,6,4,1,5,2,0,3,2,0,2,0,1,0,0,0] (k : Int) = some (f3 : Int)) (h3 : f3 < 8) (ho : opc < 128) :
  f41 (Instr.mk op rd rs rt imm) (opc : Int) = some ((srs * 2 ^ 15 + f3 * 2 ^ 12 + opc : Nat) : Int):=by
 unfold f41 f4u
 simp only
 rw [hk,hrs,show (k : Int) + 1 - 1 = k by omega,w64_id (x:=(k : Int)) (by omega) (by omega),hf,show (15 : Int) = ((15 : Nat) : Int) from rfl,put_ok srs 15 (by omega) (by omega)]
 simp only [Option.bind_some]
 rw [show (12 : Int) = ((12 : Nat) : Int) from rfl,put_ok f3 12 (by omega) (by omega)]
 simp only [Option.bind_some]
 rw [w64_add (by omega),w64_add (by omega)]
def Enc (i : Instr) : Prop:=∃ r : Nat,r < 4294967296 ∧ (∀ k : Nat,i.Op = (k : Int) + 1 → 11 ≤ k → k ≤ 17 → nth [0,0,0,4,6,7,6,4,1,5,2,0,3,2,0,2,0,1,0,0,0] (k : Int) = some ((r / 4096 % 8 : Nat) : Int)) ∧ f0r i = some (r : Int) ∧ (f0p i = some true → f0y i = some ((r : Int),true)) ∧ (IOk i → Fl i r)
theorem f8e {i : Instr} {r : Option (Int × Bool)} (hv : f0p i = some true) : f0y i = (nth instrTable (w64 (i.Op - 1))).bind fun x1=>(f1h i.Imm).bind fun y2=>(f0u i.Op).bind fun y3 =>
  sel (y3 == 82) (some (bitsI .or .i64 (bitsI .or .i64 (w64 (x1.funct7 * 2 ^ (min 25 (IntKind.bits .i64)))) (bitsI .or .i64 (bitsI .or .i64 (bitsI .or .i64 (w64 (i.Rt * 2 ^ (min 20 (IntKind.bits .i64)))) (w64 (i.Rs * 2 ^ (min 15 (IntKind.bits .i64))))) (w64 (x1.funct3 * 2 ^ (min 12 (IntKind.bits .i64))))) x1.opcode)) (w64 (i.Rd * 2 ^ (min 7 (IntKind.bits .i64)))),true)) <|
  sel (y3 == 73) ((f03 0 12 20 y2).bind fun y4 =>
  some (bitsI .or .i64 (bitsI .or .i64 y4 (bitsI .or .i64 (bitsI .or .i64 (bitsI .or .i64 (w64 (i.Rt * 2 ^ (min 20 (IntKind.bits .i64)))) (w64 (i.Rs * 2 ^ (min 15 (IntKind.bits .i64))))) (w64 (x1.funct3 * 2 ^ (min 12 (IntKind.bits .i64))))) x1.opcode)) (w64 (i.Rd * 2 ^ (min 7 (IntKind.bits .i64)))),true)) <|
  sel (y3 == 83) ((f03 5 7 25 y2).bind fun y5=>(f03 0 5 7 y2).bind fun y6 =>
  some (bitsI .or .i64 (bitsI .or .i64 y5 (bitsI .or .i64 (bitsI .or .i64 (bitsI .or .i64 (w64 (i.Rt * 2 ^ (min 20 (IntKind.bits .i64)))) (w64 (i.Rs * 2 ^ (min 15 (IntKind.bits .i64))))) (w64 (x1.funct3 * 2 ^ (min 12 (IntKind.bits .i64))))) x1.opcode)) y6,true)) <|
  sel (y3 == 66) ((f03 12 1 31 y2).bind fun y7=>(f03 5 6 25 y2).bind fun y8=>(f03 1 4 8 y2).bind fun y9=>(f03 11 1 7 y2).bind fun y10 =>
  some (bitsI .or .i64 (bitsI .or .i64 (bitsI .or .i64 (bitsI .or .i64 y7 y8) (bitsI .or .i64 (bitsI .or .i64 (bitsI .or .i64 (w64 (i.Rt * 2 ^ (min 20 (IntKind.bits .i64)))) (w64 (i.Rs * 2 ^ (min 15 (IntKind.bits .i64))))) (w64 (x1.funct3 * 2 ^ (min 12 (IntKind.bits .i64))))) x1.opcode)) y9) y10,true)) <|
  sel (y3 == 85) ((f03 0 20 12 y2).bind fun y11=>some (bitsI .or .i64 (bitsI .or .i64 y11 (w64 (i.Rd * 2 ^ (min 7 (IntKind.bits .i64))))) x1.opcode,true)) <|
  sel (y3 == 74) ((f03 20 1 31 y2).bind fun y12=>(f03 1 10 21 y2).bind fun y13=>(f03 11 1 20 y2).bind fun y14=>(f03 12 8 12 y2).bind fun y15 =>
  some (bitsI .or .i64 (bitsI .or .i64 (bitsI .or .i64 (bitsI .or .i64 (bitsI .or .i64 y12 y13) y14) y15) (w64 (i.Rd * 2 ^ (min 7 (IntKind.bits .i64))))) x1.opcode,true)) <|
  some (x1.opcode,true):=by
 unfold f0y
 rw [hv]
 rfl
theorem sh25 {n : Nat} (h : n < 128) : w64 ((n : Int) * 2 ^ (min 25 (IntKind.bits .i64))) = ((n * 2 ^ 25 : Nat) : Int):=shl_lit (k:=25) (by omega)
theorem sh20 {n : Nat} (h : n < 32) : w64 ((n : Int) * 2 ^ (min 20 (IntKind.bits .i64))) = ((n * 2 ^ 20 : Nat) : Int):=shl_lit (k:=20) (by omega)
theorem sh15 {n : Nat} (h : n < 32) : w64 ((n : Int) * 2 ^ (min 15 (IntKind.bits .i64))) = ((n * 2 ^ 15 : Nat) : Int):=shl_lit (k:=15) (by omega)
theorem sh12 {n : Nat} (h : n < 8) : w64 ((n : Int) * 2 ^ (min 12 (IntKind.bits .i64))) = ((n * 2 ^ 12 : Nat) : Int):=shl_lit (k:=12) (by omega)
theorem sh7 {n : Nat} (h : n < 32) : w64 ((n : Int) * 2 ^ (min 7 (IntKind.bits .i64))) = ((n * 2 ^ 7 : Nat) : Int):=shl_lit (k:=7) (by omega)
theorem or_lt {a b : Nat} (ha : a < 4294967296) (hb : b < 4294967296) : a ||| b < 4294967296:=Nat.or_lt_two_pow (n:=32) ha hb
theorem or_n {a b : Nat} (ha : a < 4294967296) (hb : b < 4294967296) : bitsI .or .i64 (a : Int) (b : Int) = ((a ||| b : Nat) : Int):=or_nat (by omega) (by omega)
theorem nat_of {x : Int} {n : Int} (h0 : 0 ≤ x) (h1 : x ≤ n) : ∃ k : Nat,x = k ∧ (k : Int) ≤ n:=⟨x.toNat,by omega,by omega⟩
theorem enc_R {op rd rs rt : Int} (h : 1 ≤ op ∧ op ≤ 11) (hd : 0 ≤ rd ∧ rd ≤ 31) (hs : 0 ≤ rs ∧ rs ≤ 31) (ht : 0 ≤ rt ∧ rt ≤ 31) : Enc (Instr.mk op rd rs rt 0):=by
 obtain ⟨d,rfl,hd2⟩:=nat_of hd.1 hd.2
 obtain ⟨s,rfl,hs2⟩:=nat_of hs.1 hs.2
 obtain ⟨t,rfl,ht2⟩:=nat_of ht.1 ht.2
 obtain ⟨k,rfl⟩ : ∃ k : Nat,op = (k : Int) + 1:=⟨(op - 1).toNat,by omega⟩
 obtain ⟨x,f3,f7,opc,g1,g2,g3,g4,g5,g6,g7,g8,g9,_⟩:=tab k (by omega)
 obtain ⟨g10,rfl⟩:=g9 (by omega)
 obtain ⟨u,u1,u2,u3,_⟩:=uns_ok (x:=0) (by omega) (by omega)
 refine ⟨f7 * 2 ^ 25 + t * 2 ^ 20 + (s * 2 ^ 15 + f3 * 2 ^ 12 + 51) + d * 2 ^ 7,by omega,(fun k' hk h1 h2=>by simp only at hk; omega),?_,fun hv=>?_,fun _=>fl_R (by omega) (by omega) (by omega) (by omega) (t3_of (by omega) g8) g5 (t7_of (by omega) g10) g6⟩
 ·unfold f0r
  simp only
  have c : ∀ n : Int,12 ≤ n → (((k : Int) + 1) == n) = false:=fun n hn=>by simp; omega
  rw [c 12 (by omega),c 13 (by omega),c 14 (by omega),c 15 (by omega),c 16 (by omega),c 17 (by omega),c 18 (by omega),c 19 (by omega),c 20 (by omega),c 21 (by omega)]
  simp only [sel,Option.bind_some]
  have hm:=mid_ok (op:=(k : Int) + 1) (rd:=d) (rs:=s) (rt:=t) (imm:=0) (k:=k) (srs:=s) (f3:=f3) (opc:=51) rfl (by omega) rfl (by omega) g8 g5 (by omega)
  rw [show ((51 : Nat) : Int) = 51 from rfl] at hm
  rw [hm]
  unfold f4s
  rw [show (k : Int) + 1 - 1 = k by omega,w64_id (x:=(k : Int)) (by omega) (by omega),g10]
  simp only [Option.bind_some]
  rw [show (25 : Int) = ((25 : Nat) : Int) from rfl,show (20 : Int) = ((20 : Nat) : Int) from rfl,show (7 : Int) = ((7 : Nat) : Int) from rfl,put_ok f7 25 (by omega) (by omega),put_ok t 20 (by omega) (by omega),put_ok d 7 (by omega) (by omega)]
  simp only [Option.bind_some]
  rw [w64_add (by omega),w64_add (by omega),w64_add (by omega)]
 ·rw [f8e (r:=none) hv]
  simp only
  rw [show (k : Int) + 1 - 1 = k by omega,w64_id (x:=(k : Int)) (by omega) (by omega),g1,u3,fmt_R (by omega)]
  simp only [Option.bind_some,sel,Int.reduceBEq]
  rw [g2,g3,g4,sh25 g6,sh20 (by omega),sh15 (by omega),sh12 g5,sh7 (by omega)]
  rw [or_n (by omega) (by omega),or_n (or_lt (by omega) (by omega)) (by omega),or_n (or_lt (or_lt (by omega) (by omega)) (by omega)) (by omega),or_n (by omega) (or_lt (or_lt (or_lt (by omega) (by omega)) (by omega)) (by omega)),
   or_n (or_lt (by omega) (or_lt (or_lt (or_lt (by omega) (by omega)) (by omega)) (by omega))) (by omega),or_R (by omega) (by omega) (by omega) (by omega) (by omega)]
theorem sel_f0 {α : Type} (x y : α) : sel false x y = y:=rfl
theorem sel_t0 {α : Type} (x y : α) : sel true x y = x:=rfl
theorem imm_bits0 {x : Int} {u m p q low many : Nat} (hu : (u : Int) = x % (q : Int)) (hm : (m : Int) = x % p) (hp : 2 ^ (low + many) ∣ p) (hp2 : p ∣ q) : u / 2 ^ low % 2 ^ many = m / 2 ^ low % 2 ^ many:=by
 have e1 : u % p = m:=by
  have h1 : ((u % p : Nat) : Int) = (m : Int):=by
   rw [Int.natCast_emod,hu,hm]
   exact Int.emod_emod_of_dvd _ (Int.natCast_dvd_natCast.2 hp2)
  exact Int.ofNat.inj h1
 have e2 : ∀ n : Nat,n / 2 ^ low % 2 ^ many = n % 2 ^ (low + many) / 2 ^ low:=fun n=>by rw [Nat.pow_add,Nat.mod_mul_right_div_self]
 rw [e2 u,e2 m,← e1,Nat.mod_mod_of_dvd _ hp]
theorem imm_bits {x : Int} {u m p low many : Nat} (hu : (u : Int) = x % 4294967296) (hm : (m : Int) = x % p) (hp : 2 ^ (low + many) ∣ p) (hp2 : ∃ c,4294967296 = p * c) : u / 2 ^ low % 2 ^ many = m / 2 ^ low % 2 ^ many:=imm_bits0 (q:=4294967296) hu hm hp hp2
theorem or_I {m rs f3 opc rd : Nat} (h1 : opc < 128) (h2 : rd < 32) (h3 : f3 < 8) (h4 : rs < 32) :
  ((m * 2 ^ 20 ||| (0 ||| rs * 2 ^ 15 ||| f3 * 2 ^ 12 ||| opc)) ||| rd * 2 ^ 7) = m * 2 ^ 20 + (rs * 2 ^ 15 + f3 * 2 ^ 12 + opc) + rd * 2 ^ 7:=by
 have e : m * 2 ^ 20 + (rs * 2 ^ 15 + f3 * 2 ^ 12 + opc) + rd * 2 ^ 7 = 2 ^ 20 * m + (2 ^ 15 * rs + (2 ^ 12 * f3 + (2 ^ 7 * rd + opc))):=by omega
 rw [e,add_or (i:=20) (by omega),add_or (i:=15) (by omega),add_or (i:=12) (by omega),add_or (i:=7) (by omega)]
 simp only [Nat.mul_comm _ (2 ^ 20),Nat.mul_comm _ (2 ^ 15),Nat.mul_comm _ (2 ^ 12),Nat.mul_comm _ (2 ^ 7),Nat.zero_or]
 ac_rfl
theorem or_S {hi7 rt rs f3 lo5 : Nat} (h1 : rt < 32) (h2 : lo5 < 32) (h3 : f3 < 8) (h4 : rs < 32) :
  ((hi7 * 2 ^ 25 ||| (rt * 2 ^ 20 ||| rs * 2 ^ 15 ||| f3 * 2 ^ 12 ||| 35)) ||| lo5 * 2 ^ 7) = hi7 * 2 ^ 25 + rt * 2 ^ 20 + (rs * 2 ^ 15 + f3 * 2 ^ 12 + 35) + lo5 * 2 ^ 7:=or_R (by omega) h2 h3 h4 h1
theorem or_B {v1 v2 rt rs f3 v3 v4 : Nat} (h1 : rt < 32) (h2 : v2 < 64) (h3 : f3 < 8) (h4 : rs < 32) (h5 : v3 < 16) (h6 : v4 < 2) :
  ((((v1 * 2 ^ 31 ||| v2 * 2 ^ 25) ||| (rt * 2 ^ 20 ||| rs * 2 ^ 15 ||| f3 * 2 ^ 12 ||| 99)) ||| v3 * 2 ^ 8) ||| v4 * 2 ^ 7) = v1 * 2 ^ 31 + v2 * 2 ^ 25 + rt * 2 ^ 20 + (rs * 2 ^ 15 + f3 * 2 ^ 12 + 99) + v3 * 2 ^ 8 + v4 * 2 ^ 7:=by
 have e : v1 * 2 ^ 31 + v2 * 2 ^ 25 + rt * 2 ^ 20 + (rs * 2 ^ 15 + f3 * 2 ^ 12 + 99) + v3 * 2 ^ 8 + v4 * 2 ^ 7 = 2 ^ 31 * v1 + (2 ^ 25 * v2 + (2 ^ 20 * rt + (2 ^ 15 * rs + (2 ^ 12 * f3 + (2 ^ 8 * v3 + (2 ^ 7 * v4 + 99)))))):=by omega
 rw [e,add_or (i:=31) (by omega),add_or (i:=25) (by omega),add_or (i:=20) (by omega),add_or (i:=15) (by omega),add_or (i:=12) (by omega),add_or (i:=8) (by omega),add_or (i:=7) (by omega)]
 generalize 99 = q
 simp only [Nat.mul_comm _ (2 ^ 31),Nat.mul_comm _ (2 ^ 25),Nat.mul_comm _ (2 ^ 20),Nat.mul_comm _ (2 ^ 15),Nat.mul_comm _ (2 ^ 12),Nat.mul_comm _ (2 ^ 8),Nat.mul_comm _ (2 ^ 7)]
 ac_rfl
theorem or_U {u d : Nat} (h : d < 32) : (u * 2 ^ 12 ||| d * 2 ^ 7 ||| 55) = u * 2 ^ 12 + d * 2 ^ 7 + 55:=by
 have e : u * 2 ^ 12 + d * 2 ^ 7 + 55 = 2 ^ 12 * u + (2 ^ 7 * d + 55):=by omega
 rw [e,add_or (i:=12) (by omega),add_or (i:=7) (by omega)]
 generalize 55 = q
 simp only [Nat.mul_comm _ (2 ^ 12),Nat.mul_comm _ (2 ^ 7)]
 ac_rfl
theorem or_J {v1 v2 v3 v4 d : Nat} (h2 : v2 < 1024) (h3 : v3 < 2) (h4 : v4 < 256) (h5 : d < 32) :
  (((((v1 * 2 ^ 31 ||| v2 * 2 ^ 21) ||| v3 * 2 ^ 20) ||| v4 * 2 ^ 12) ||| d * 2 ^ 7) ||| 111) = v1 * 2 ^ 31 + v2 * 2 ^ 21 + v3 * 2 ^ 20 + v4 * 2 ^ 12 + d * 2 ^ 7 + 111:=by
 have e : v1 * 2 ^ 31 + v2 * 2 ^ 21 + v3 * 2 ^ 20 + v4 * 2 ^ 12 + d * 2 ^ 7 + 111 = 2 ^ 31 * v1 + (2 ^ 21 * v2 + (2 ^ 20 * v3 + (2 ^ 12 * v4 + (2 ^ 7 * d + 111)))):=by omega
 rw [e,add_or (i:=31) (by omega),add_or (i:=21) (by omega),add_or (i:=20) (by omega),add_or (i:=12) (by omega),add_or (i:=7) (by omega)]
 generalize 111 = q
 simp only [Nat.mul_comm _ (2 ^ 31),Nat.mul_comm _ (2 ^ 21),Nat.mul_comm _ (2 ^ 20),Nat.mul_comm _ (2 ^ 12),Nat.mul_comm _ (2 ^ 7)]
 ac_rfl
theorem or4 {a b c d : Nat} (h1 : a < 4294967296) (h2 : b < 4294967296) (h3 : c < 4294967296) (h4 : d < 4294967296) : bitsI .or .i64 (bitsI .or .i64 (bitsI .or .i64 (a : Int) (b : Int)) (c : Int)) (d : Int) = ((a ||| b ||| c ||| d : Nat) : Int):=by
 rw [or_n h1 h2,or_n (or_lt h1 h2) h3,or_n (or_lt (or_lt h1 h2) h3) h4]
end Go.Proofs.YtcljimkjmklkmaaGreat.N
namespace Go.Proofs.YtcljimkjmklkmaaGreat.N
open Go.Proofs.YtcljimkjmklkmaaGreat.X
theorem enc_S {rs rt imm : Int} (hs : 0 ≤ rs ∧ rs ≤ 31) (ht : 0 ≤ rt ∧ rt ≤ 31) (hi : -2048 ≤ imm ∧ imm ≤ 2047) : Enc (Instr.mk 16 0 rs rt imm):=by
 obtain ⟨s,rfl,hs2⟩:=nat_of hs.1 hs.2
 obtain ⟨t,rfl,ht2⟩:=nat_of ht.1 ht.2
 obtain ⟨x,f3,f7,opc,g1,g2,g3,g4,g5,g6,g7,g8,g9,g10,g11,g12,g13,_⟩:=tab 15 (by omega)
 obtain rfl:=g13 rfl
 obtain ⟨u,u1,u2,u3,_⟩:=uns_ok (x:=imm) (by omega) (by omega)
 obtain ⟨m,m1,m2,m3⟩:=mod_ok (x:=imm) (p:=4096) (by omega) (by omega) (by omega)
 rw [show ((4096 : Nat) : Int) = 4096 from rfl] at m3
 have hm:=mid_ok (op:=((15 : Nat) : Int) + 1) (rd:=0) (rs:=s) (rt:=t) (imm:=imm) (k:=15) (srs:=s) (f3:=f3) (opc:=35) rfl (by omega) rfl (by omega) g8 g5 g7
 have b1:=sbits_ok m 5 7 (by omega) (by omega) (by omega) (by omega)
 have b2:=sbits_ok m 0 5 (by omega) (by omega) (by omega) (by omega)
 have l1 : m / 2 ^ 5 % 2 ^ 7 < 128:=Nat.mod_lt _ (by decide)
 have l2 : m / 2 ^ 0 % 2 ^ 5 < 32:=Nat.mod_lt _ (by decide)
 have p1:=part_ok u 5 7 25 u1 (by omega) (by omega) (by omega) (by omega)
 have p2:=part_ok u 0 5 7 u1 (by omega) (by omega) (by omega) (by omega)
 rw [imm_bits (x:=imm) (m:=m) (p:=4096) u2 m2 (by decide) ⟨1048576,rfl⟩] at p1 p2
 have hrel : m / 2 ^ 5 % 2 ^ 7 * 32 + m / 2 ^ 0 % 2 ^ 5 = m:=by omega
 generalize m / 2 ^ 5 % 2 ^ 7 = hi7 at b1 p1 l1 hrel
 generalize m / 2 ^ 0 % 2 ^ 5 = lo5 at b2 p2 l2 hrel
 refine ⟨hi7 * 2 ^ 25 + t * 2 ^ 20 + (s * 2 ^ 15 + f3 * 2 ^ 12 + 35) + lo5 * 2 ^ 7,by omega,(fun k' hk h1 h2=>by
  obtain rfl : k' = 15:=by simp only at hk; omega
  rw [g8]
  exact congrArg (fun n : Nat=>some (n : Int)) (by simp only [Nat.reducePow]; omega)),?_,fun hv=>?_,fun _=>fl_S (by omega) (by omega) (t3_of (by omega) g8) g5 l1 l2 hrel hi m2⟩
 ·unfold f0r
  refine bind_to (y:=false) rfl (sel_to rfl (sel_to rfl (sel_to rfl (sel_tt rfl ?_))))
  refine bind_to m3 (bind_to b1 (bind_to (put_ok hi7 25 (by omega) (by omega)) (bind_to (put_ok t 20 (by omega) (by omega)) (bind_to hm (bind_to b2 (bind_to (put_ok lo5 7 (by omega) (by omega)) ?_))))))
  rw [w64_add (by omega),w64_add (by omega),w64_add (by omega)]
 ·rw [f8e (r:=none) hv]
  refine bind_to g1 (bind_to u3 (bind_to (y:=83) rfl ?_))
  refine sel_to rfl (sel_to rfl (sel_tt rfl ?_))
  refine bind_to p1 (bind_to p2 ?_)
  rw [g2,g4,sh20 (by omega),sh15 (by omega),sh12 g5,or4 (a:=t * 2 ^ 20) (by omega) (by omega) (by omega) (by omega),or_n (by omega) (or_lt (or_lt (or_lt (by omega) (by omega)) (by omega)) (by omega)),or_n (or_lt (by omega) (or_lt (or_lt (or_lt (by omega) (by omega)) (by omega)) (by omega))) (by omega),or_S (by omega) l2 g5 (by omega)]
end Go.Proofs.YtcljimkjmklkmaaGreat.N
namespace Go.Proofs.YtcljimkjmklkmaaGreat.N
open Go.Proofs.YtcljimkjmklkmaaGreat.X
theorem enc_B {op rs rt imm : Int} (h : op = 17 ∨ op = 18) (hs : 0 ≤ rs ∧ rs ≤ 31) (ht : 0 ≤ rt ∧ rt ≤ 31) (hi : -4096 ≤ imm ∧ imm ≤ 4094) : Enc (Instr.mk op 0 rs rt imm):=by
 obtain ⟨s,rfl,hs2⟩:=nat_of hs.1 hs.2
 obtain ⟨t,rfl,ht2⟩:=nat_of ht.1 ht.2
 obtain ⟨k,rfl⟩ : ∃ k : Nat,op = (k : Int) + 1:=⟨(op - 1).toNat,by omega⟩
 obtain ⟨x,f3,f7,opc,g1,g2,g3,g4,g5,g6,g7,g8,g9,g10,g11,g12,g13,g14,_⟩:=tab k (by omega)
 obtain rfl:=g14 (by omega)
 obtain ⟨u,u1,u2,u3,_⟩:=uns_ok (x:=imm) (by omega) (by omega)
 obtain ⟨m,m1,m2,m3⟩:=mod_ok (x:=imm) (p:=8192) (by omega) (by omega) (by omega)
 rw [show ((8192 : Nat) : Int) = 8192 from rfl] at m3
 have hm:=mid_ok (op:=(k : Int) + 1) (rd:=0) (rs:=s) (rt:=t) (imm:=imm) (k:=k) (srs:=s) (f3:=f3) (opc:=99) rfl (by omega) rfl (by omega) g8 g5 g7
 have b1:=sbits_ok m 12 1 (by omega) (by omega) (by omega) (by omega)
 have b2:=sbits_ok m 5 6 (by omega) (by omega) (by omega) (by omega)
 have b3:=sbits_ok m 1 4 (by omega) (by omega) (by omega) (by omega)
 have b4:=sbits_ok m 11 1 (by omega) (by omega) (by omega) (by omega)
 have l1 : m / 2 ^ 12 % 2 ^ 1 < 2:=Nat.mod_lt _ (by decide)
 have l2 : m / 2 ^ 5 % 2 ^ 6 < 64:=Nat.mod_lt _ (by decide)
 have l3 : m / 2 ^ 1 % 2 ^ 4 < 16:=Nat.mod_lt _ (by decide)
 have l4 : m / 2 ^ 11 % 2 ^ 1 < 2:=Nat.mod_lt _ (by decide)
 have p1:=part_ok u 12 1 31 u1 (by omega) (by omega) (by omega) (by omega)
 have p2:=part_ok u 5 6 25 u1 (by omega) (by omega) (by omega) (by omega)
 have p3:=part_ok u 1 4 8 u1 (by omega) (by omega) (by omega) (by omega)
 have p4:=part_ok u 11 1 7 u1 (by omega) (by omega) (by omega) (by omega)
 rw [imm_bits (x:=imm) (m:=m) (p:=8192) u2 m2 (by decide) ⟨524288,rfl⟩] at p1 p2 p3 p4
 have hrel : imm % 2 = 0 → m / 2 ^ 12 % 2 ^ 1 * 4096 + m / 2 ^ 11 % 2 ^ 1 * 2048 + m / 2 ^ 5 % 2 ^ 6 * 32 + m / 2 ^ 1 % 2 ^ 4 * 2 = m:=fun he=>by omega
 generalize m / 2 ^ 12 % 2 ^ 1 = v1 at b1 p1 l1 hrel
 generalize m / 2 ^ 5 % 2 ^ 6 = v2 at b2 p2 l2 hrel
 generalize m / 2 ^ 1 % 2 ^ 4 = v3 at b3 p3 l3 hrel
 generalize m / 2 ^ 11 % 2 ^ 1 = v4 at b4 p4 l4 hrel
 refine ⟨v1 * 2 ^ 31 + v2 * 2 ^ 25 + t * 2 ^ 20 + (s * 2 ^ 15 + f3 * 2 ^ 12 + 99) + v3 * 2 ^ 8 + v4 * 2 ^ 7,by omega,(fun k' hk h1 h2=>by
  obtain rfl : k' = k:=by simp only at hk; omega
  rw [g8]
  exact congrArg (fun n : Nat=>some (n : Int)) (by simp only [Nat.reducePow]; omega)),?_,fun hv=>?_,fun hI=>fl_B (by omega) (by omega) (by omega) (t3_of (by omega) g8) g5 l1 l2 l3 l4 (hrel (by unfold IOk at hI; simp only at hI; omega)) (by omega) m2⟩
 ·have hb : f62 (Instr.mk ((k : Int) + 1) 0 s t imm) = some ((v1 * 2 ^ 31 + v2 * 2 ^ 25 + t * 2 ^ 20 + (s * 2 ^ 15 + f3 * 2 ^ 12 + 99) + v3 * 2 ^ 8 + v4 * 2 ^ 7 : Nat) : Int):=by
   unfold f62
   refine bind_to m3 (bind_to b1 (bind_to (put_ok v1 31 (by omega) (by omega)) (bind_to b2 (bind_to (put_ok v2 25 (by omega) (by omega)) (bind_to (put_ok t 20 (by omega) (by omega)) (bind_to hm (bind_to b3 (bind_to (put_ok v3 8 (by omega) (by omega)) (bind_to b4 (bind_to (put_ok v4 7 (by omega) (by omega)) ?_))))))))))
   rw [w64_add (by omega),w64_add (by omega),w64_add (by omega),w64_add (by omega),w64_add (by omega)]
  unfold f0r
  simp only
  have c : ∀ n : Int,n ≤ 16 → (((k : Int) + 1) == n) = false:=fun n hn=>by simp; omega
  have hy : (sel (((k : Int) + 1) == 17) (some (((k : Int) + 1) == 17)) (some (((k : Int) + 1) == 18)) : Option Bool) = some true:=by
   rcases (by omega : k = 16 ∨ k = 17) with rfl | rfl <;> rfl
  rw [c 12 (by omega),c 13 (by omega),c 14 (by omega),c 15 (by omega),c 16 (by omega),hy,hb]
  simp only [sel_f0,sel_t0,Option.bind_some]
 ·rw [f8e (r:=none) hv]
  simp only
  rw [show (k : Int) + 1 - 1 = k by omega,w64_id (x:=(k : Int)) (by omega) (by omega)]
  refine bind_to g1 (bind_to u3 (bind_to (fmt_B h) ?_))
  refine sel_to rfl (sel_to rfl (sel_to rfl (sel_tt rfl ?_)))
  refine bind_to p1 (bind_to p2 (bind_to p3 (bind_to p4 ?_)))
  have t1 : t ≤ 31:=by omega
  have s1 : s ≤ 31:=by omega
  have z1 : v1 * 2 ^ 31 < 4294967296:=Nat.lt_of_le_of_lt (Nat.mul_le_mul_right _ (Nat.le_of_lt_succ l1)) (by decide)
  have z2 : v2 * 2 ^ 25 < 4294967296:=Nat.lt_of_le_of_lt (Nat.mul_le_mul_right _ (Nat.le_of_lt_succ l2)) (by decide)
  have z3 : t * 2 ^ 20 < 4294967296:=Nat.lt_of_le_of_lt (Nat.mul_le_mul_right _ t1) (by decide)
  have z4 : s * 2 ^ 15 < 4294967296:=Nat.lt_of_le_of_lt (Nat.mul_le_mul_right _ s1) (by decide)
  have z5 : f3 * 2 ^ 12 < 4294967296:=Nat.lt_of_le_of_lt (Nat.mul_le_mul_right _ (Nat.le_of_lt_succ g5)) (by decide)
  have z6 : v3 * 2 ^ 8 < 4294967296:=Nat.lt_of_le_of_lt (Nat.mul_le_mul_right _ (Nat.le_of_lt_succ l3)) (by decide)
  have z7 : v4 * 2 ^ 7 < 4294967296:=Nat.lt_of_le_of_lt (Nat.mul_le_mul_right _ (Nat.le_of_lt_succ l4)) (by decide)
  have z8 : 99 < 4294967296:=by decide
  have zr:=or_lt (or_lt (or_lt z3 z4) z5) z8
  rw [g2,g4,sh20 (Nat.lt_succ_of_le t1),sh15 (Nat.lt_succ_of_le s1),sh12 g5,or4 z3 z4 z5 z8,or_n z1 z2,or_n (or_lt z1 z2) zr,or_n (or_lt (or_lt z1 z2) zr) z6,or_n (or_lt (or_lt (or_lt z1 z2) zr) z6) z7,or_B (Nat.lt_succ_of_le t1) l2 g5 (Nat.lt_succ_of_le s1) l3 l4]
end Go.Proofs.YtcljimkjmklkmaaGreat.N
namespace Go.Proofs.YtcljimkjmklkmaaGreat.N
open Go.Proofs.YtcljimkjmklkmaaGreat.X
theorem enc_U {rd imm : Int} (hd : 0 ≤ rd ∧ rd ≤ 31) (hi : 0 ≤ imm ∧ imm ≤ 1048575) : Enc (Instr.mk 19 rd 0 0 imm):=by
 obtain ⟨d,rfl,hd2⟩:=nat_of hd.1 hd.2
 obtain ⟨m,rfl,hm2⟩:=nat_of hi.1 hi.2
 obtain ⟨x,f3,f7,opc,g1,g2,g3,g4,g5,g6,g7,g8,g9,g10,g11,g12,g13,g14,g15,_⟩:=tab 18 (by omega)
 obtain rfl:=g15 rfl
 obtain ⟨u,u1,u2,u3,_⟩:=uns_ok (x:=(m : Int)) (by omega) (by omega)
 obtain rfl : u = m:=by omega
 have p1:=part_ok u 0 20 12 u1 (by omega) (by omega) (by omega) (by omega)
 rw [show u / 2 ^ 0 % 2 ^ 20 = u by omega] at p1
 refine ⟨u * 2 ^ 12 + d * 2 ^ 7 + 55,by omega,(fun k' hk h1 h2=>by simp only at hk; omega),?_,fun hv=>?_,fun _=>fl_U (by omega) (by omega) rfl⟩
 ·unfold f0r
  refine bind_to (y:=false) rfl (sel_to rfl (sel_to rfl (sel_to rfl (sel_to rfl (bind_to (y:=false) rfl (sel_to rfl (sel_tt rfl (bind_to (put_ok u 12 (by omega) (by omega)) (bind_to (put_ok d 7 (by omega) (by omega)) ?_)))))))))
  rw [w64_add (by omega)]
  exact congrArg some (w64_add (a:=u * 2 ^ 12 + d * 2 ^ 7) (b:=55) (by omega))
 ·rw [f8e (r:=none) hv]
  refine bind_to g1 (bind_to u3 (bind_to (y:=85) rfl ?_))
  refine sel_to rfl (sel_to rfl (sel_to rfl (sel_to rfl (sel_tt rfl ?_))))
  refine bind_to p1 ?_
  have z1 : u * 2 ^ 12 < 4294967296:=by omega
  have z2 : d * 2 ^ 7 < 4294967296:=by omega
  have z8 : 55 < 4294967296:=by omega
  rw [g4,sh7 (by omega),or_n z1 z2,or_n (or_lt z1 z2) z8,or_U (by omega)]
theorem enc_J {rd imm : Int} (hd : 0 ≤ rd ∧ rd ≤ 31) (hi : -1048576 ≤ imm ∧ imm ≤ 1048574) : Enc (Instr.mk 20 rd 0 0 imm):=by
 obtain ⟨d,rfl,hd2⟩:=nat_of hd.1 hd.2
 obtain ⟨x,f3,f7,opc,g1,g2,g3,g4,g5,g6,g7,g8,g9,g10,g11,g12,g13,g14,g15,g16,_⟩:=tab 19 (by omega)
 obtain rfl:=g16 rfl
 obtain ⟨u,u1,u2,u3,_⟩:=uns_ok (x:=imm) (by omega) (by omega)
 obtain ⟨m,m1,m2,m3⟩:=mod_ok (x:=imm) (p:=2097152) (by omega) (by omega) (by omega)
 rw [show ((2097152 : Nat) : Int) = 2097152 from rfl] at m3
 have b1:=sbits_ok m 20 1 (by omega) (by omega) (by omega) (by omega)
 have b2:=sbits_ok m 1 10 (by omega) (by omega) (by omega) (by omega)
 have b3:=sbits_ok m 11 1 (by omega) (by omega) (by omega) (by omega)
 have b4:=sbits_ok m 12 8 (by omega) (by omega) (by omega) (by omega)
 have l1 : m / 2 ^ 20 % 2 ^ 1 < 2:=Nat.mod_lt _ (by decide)
 have l2 : m / 2 ^ 1 % 2 ^ 10 < 1024:=Nat.mod_lt _ (by decide)
 have l3 : m / 2 ^ 11 % 2 ^ 1 < 2:=Nat.mod_lt _ (by decide)
 have l4 : m / 2 ^ 12 % 2 ^ 8 < 256:=Nat.mod_lt _ (by decide)
 have p1:=part_ok u 20 1 31 u1 (by omega) (by omega) (by omega) (by omega)
 have p2:=part_ok u 1 10 21 u1 (by omega) (by omega) (by omega) (by omega)
 have p3:=part_ok u 11 1 20 u1 (by omega) (by omega) (by omega) (by omega)
 have p4:=part_ok u 12 8 12 u1 (by omega) (by omega) (by omega) (by omega)
 rw [imm_bits (x:=imm) (m:=m) (p:=2097152) u2 m2 (by decide) ⟨2048,rfl⟩] at p1 p2 p3 p4
 have hrel : imm % 2 = 0 → m / 2 ^ 20 % 2 ^ 1 * 1048576 + m / 2 ^ 12 % 2 ^ 8 * 4096 + m / 2 ^ 11 % 2 ^ 1 * 2048 + m / 2 ^ 1 % 2 ^ 10 * 2 = m:=fun he=>by simp only [Nat.reducePow]; omega
 generalize m / 2 ^ 20 % 2 ^ 1 = v1 at b1 p1 l1 hrel
 generalize m / 2 ^ 1 % 2 ^ 10 = v2 at b2 p2 l2 hrel
 generalize m / 2 ^ 11 % 2 ^ 1 = v3 at b3 p3 l3 hrel
 generalize m / 2 ^ 12 % 2 ^ 8 = v4 at b4 p4 l4 hrel
 refine ⟨v1 * 2 ^ 31 + v2 * 2 ^ 21 + v3 * 2 ^ 20 + v4 * 2 ^ 12 + d * 2 ^ 7 + 111,by omega,(fun k' hk h1 h2=>by simp only at hk; omega),?_,fun hv=>?_,fun hI=>fl_J (by omega) l1 l2 l3 l4 (hrel (by unfold IOk at hI; simp only at hI; omega)) (by omega) m2⟩
 ·have hj : f8d (Instr.mk 20 d 0 0 imm) = some ((v1 * 2 ^ 31 + v2 * 2 ^ 21 + v3 * 2 ^ 20 + v4 * 2 ^ 12 + d * 2 ^ 7 + 111 : Nat) : Int):=by
   unfold f8d
   refine bind_to m3 (bind_to b1 (bind_to (put_ok v1 31 (by omega) (by omega)) (bind_to b2 (bind_to (put_ok v2 21 (by omega) (by omega)) (bind_to b3 (bind_to (put_ok v3 20 (by omega) (by omega)) (bind_to b4 (bind_to (put_ok v4 12 (by omega) (by omega)) (bind_to (put_ok d 7 (by omega) (by omega)) ?_)))))))))
   rw [w64_add (by omega),w64_add (by omega),w64_add (by omega),w64_add (by omega)]
   exact congrArg some (w64_add (a:=v1 * 2 ^ 31 + v2 * 2 ^ 21 + v3 * 2 ^ 20 + v4 * 2 ^ 12 + d * 2 ^ 7) (b:=111) (by omega))
  unfold f0r
  exact bind_to (y:=false) rfl (sel_to rfl (sel_to rfl (sel_to rfl (sel_to rfl (bind_to (y:=false) rfl (sel_to rfl (sel_to rfl (sel_tt rfl (bind_to hj rfl)))))))))
 ·rw [f8e (r:=none) hv]
  refine bind_to g1 (bind_to u3 (bind_to (y:=74) rfl ?_))
  refine sel_to rfl (sel_to rfl (sel_to rfl (sel_to rfl (sel_to rfl (sel_tt rfl ?_)))))
  refine bind_to p1 (bind_to p2 (bind_to p3 (bind_to p4 ?_)))
  have d1 : d ≤ 31:=by omega
  have z1 : v1 * 2 ^ 31 < 4294967296:=Nat.lt_of_le_of_lt (Nat.mul_le_mul_right _ (Nat.le_of_lt_succ l1)) (by decide)
  have z2 : v2 * 2 ^ 21 < 4294967296:=Nat.lt_of_le_of_lt (Nat.mul_le_mul_right _ (Nat.le_of_lt_succ l2)) (by decide)
  have z3 : v3 * 2 ^ 20 < 4294967296:=Nat.lt_of_le_of_lt (Nat.mul_le_mul_right _ (Nat.le_of_lt_succ l3)) (by decide)
  have z4 : v4 * 2 ^ 12 < 4294967296:=Nat.lt_of_le_of_lt (Nat.mul_le_mul_right _ (Nat.le_of_lt_succ l4)) (by decide)
  have z5 : d * 2 ^ 7 < 4294967296:=Nat.lt_of_le_of_lt (Nat.mul_le_mul_right _ d1) (by decide)
  have z8 : 111 < 4294967296:=by decide
  rw [g4,sh7 (Nat.lt_succ_of_le d1),or_n z1 z2,or_n (or_lt z1 z2) z3,or_n (or_lt (or_lt z1 z2) z3) z4,or_n (or_lt (or_lt (or_lt z1 z2) z3) z4) z5,or_n (or_lt (or_lt (or_lt (or_lt z1 z2) z3) z4) z5) z8,or_J l2 l3 l4 (Nat.lt_succ_of_le d1)]
theorem enc_E : Enc (Instr.mk 21 0 0 0 0):=by
 obtain ⟨x,f3,f7,opc,g1,g2,g3,g4,g5,g6,g7,g8,g9,g10,g11,g12,g13,g14,g15,g16,g17⟩:=tab 20 (by omega)
 obtain rfl:=g17 rfl
 obtain ⟨u,u1,u2,u3,_⟩:=uns_ok (x:=0) (by omega) (by omega)
 refine ⟨115,by omega,(fun k' hk h1 h2=>by simp only at hk; omega),?_,fun hv=>?_,fun _=>fl_E⟩
 ·unfold f0r
  exact bind_to (y:=false) rfl (sel_to rfl (sel_to rfl (sel_to rfl (sel_to rfl (bind_to (y:=false) rfl (sel_to rfl (sel_to rfl (sel_to rfl (sel_tt rfl rfl)))))))))
 ·rw [f8e (r:=none) hv]
  refine bind_to g1 (bind_to u3 (bind_to (y:=69) rfl ?_))
  refine sel_to rfl (sel_to rfl (sel_to rfl (sel_to rfl (sel_to rfl (sel_to rfl (?_))))))
  rw [g4]
end Go.Proofs.YtcljimkjmklkmaaGreat.N
namespace Go.Proofs.YtcljimkjmklkmaaGreat.N
open Go.Proofs.YtcljimkjmklkmaaGreat.X
theorem enc_I {op rd rs imm : Int} (h : 12 ≤ op ∧ op ≤ 15) (hd : 0 ≤ rd ∧ rd ≤ 31) (hs : 0 ≤ rs ∧ rs ≤ 31) (hi : -2048 ≤ imm ∧ imm ≤ 2047) : Enc (Instr.mk op rd rs 0 imm):=by
 obtain ⟨d,rfl,hd2⟩:=nat_of hd.1 hd.2
 obtain ⟨s,rfl,hs2⟩:=nat_of hs.1 hs.2
 obtain ⟨k,rfl⟩ : ∃ k : Nat,op = (k : Int) + 1:=⟨(op - 1).toNat,by omega⟩
 obtain ⟨x,f3,f7,opc,g1,g2,g3,g4,g5,g6,g7,g8,g9,g10,g11,g12,_⟩:=tab k (by omega)
 obtain ⟨u,u1,u2,u3,_⟩:=uns_ok (x:=imm) (by omega) (by omega)
 obtain ⟨m,m1,m2,m3⟩:=mod_ok (x:=imm) (p:=4096) (by omega) (by omega) (by omega)
 rw [show ((4096 : Nat) : Int) = 4096 from rfl] at m3
 have hm:=mid_ok (op:=(k : Int) + 1) (rd:=d) (rs:=s) (rt:=0) (imm:=imm) (k:=k) (srs:=s) (f3:=f3) (opc:=opc) rfl (by omega) rfl (by omega) g8 g5 g7
 have him : f5d (Instr.mk ((k : Int) + 1) d s 0 imm) opc = some ((m * 2 ^ 20 + (s * 2 ^ 15 + f3 * 2 ^ 12 + opc) + d * 2 ^ 7 : Nat) : Int):=by
  unfold f5d
  rw [hm]
  simp only
  rw [m3]
  simp only [Option.bind_some]
  rw [show (20 : Int) = ((20 : Nat) : Int) from rfl,show (7 : Int) = ((7 : Nat) : Int) from rfl,put_ok m 20 (by omega) (by omega),put_ok d 7 (by omega) (by omega)]
  simp only [Option.bind_some]
  rw [w64_add (by omega),w64_add (by omega)]
 refine ⟨m * 2 ^ 20 + (s * 2 ^ 15 + f3 * 2 ^ 12 + opc) + d * 2 ^ 7,by omega,(fun k' hk h1 h2=>by
  obtain rfl : k' = k:=by simp only at hk; omega
  rw [g8]
  exact congrArg (fun n : Nat=>some (n : Int)) (by simp only [Nat.reducePow]; omega)),?_,fun hv=>?_,fun _=>fl_I (by omega) (by omega) (by omega) (by omega) (t3_of (by omega) g8) g5 (by rcases (by omega : k = 11 ∨ k = 12 ∨ k = 13 ∨ k = 14) with rfl | rfl | rfl | rfl <;> first | exact g10 (.inl rfl) | exact g10 (.inr rfl) | exact g11 rfl | exact g12 rfl) g7 hi m2⟩
 ·unfold f0r
  simp only
  rcases (by omega : k = 11 ∨ k = 12 ∨ k = 13 ∨ k = 14) with rfl | rfl | rfl | rfl
  ·obtain rfl:=g10 (by omega)
   exact bind_to (y:=true) rfl (bind_to him rfl)
  ·obtain rfl:=g10 (by omega)
   exact bind_to (y:=true) rfl (bind_to him rfl)
  ·obtain rfl:=g11 (by omega)
   exact bind_to (y:=false) rfl (bind_to him rfl)
  ·obtain rfl:=g12 (by omega)
   exact bind_to (y:=false) rfl (bind_to him rfl)
 ·rw [f8e (r:=none) hv]
  have hp:=part_ok u 0 12 20 u1 (by omega) (by omega) (by omega) (by omega)
  rw [imm_bits (x:=imm) (m:=m) (p:=4096) u2 m2 (by decide) ⟨1048576,rfl⟩] at hp
  have hp' : f03 0 12 20 (u : Int) = some ((m * 2 ^ 20 : Nat) : Int):=by
   rw [show m * 2 ^ 20 = m / 2 ^ 0 % 2 ^ 12 * 2 ^ 20 by omega]
   exact hp
  have h0 : w64 (0 * 2 ^ (min 20 (IntKind.bits .i64))) = ((0 : Nat) : Int):=by decide
  simp only
  rw [show (k : Int) + 1 - 1 = k by omega,w64_id (x:=(k : Int)) (by omega) (by omega)]
  refine bind_to g1 (bind_to u3 (bind_to (fmt_I (by omega)) ?_))
  refine sel_to rfl (sel_tt rfl ?_)
  refine bind_to hp' ?_
  rw [g2,g4,h0,sh15 (by omega),sh12 g5,sh7 (by omega),or4 (a:=0) (by omega) (by omega) (by omega) (by omega),or_n (by omega) (or_lt (or_lt (or_lt (by omega) (by omega)) (by omega)) (by omega)),or_n (or_lt (by omega) (or_lt (or_lt (or_lt (by omega) (by omega)) (by omega)) (by omega))) (by omega),or_I g7 (by omega) g5 (by omega)]
end Go.Proofs.YtcljimkjmklkmaaGreat.N
namespace Go.Proofs.YtcljimkjmklkmaaGreat.N
open Go.Proofs.YtcljimkjmklkmaaGreat.X
theorem find_loop {ρ : Type} {f : Int → Option (Int ⊕ (ρ ⊕ Unit))} (c : Nat → Bool) (g : Nat → ρ) : ∀ (n s : Nat),(∀ i,s ≤ i → i < s + n → f ((i : Int) + 1) = some (cond (c i) (.inr (.inl (g i))) (.inl ((i : Int) + 1 + 1)))) → f (((s + n : Nat) : Int) + 1) = some (.inr (.inr ())) →
  iter f ((s : Int) + 1) = some (match (List.range' s n).find? c with
   | some i=>.inl (g i)
   | none=>.inr ())
 | 0,s,_,he=>by
  rw [iter_eq,show f ((s : Int) + 1) = _ from he]
  rfl
 | n + 1,s,h,he=>by
  rw [iter_eq,h s (Nat.le_refl _) (by omega),List.range'_succ,List.find?_cons]
  cases hc : c s with
  | true=>rfl
  | false =>
   have ih:=find_loop c g n (s + 1) (fun i h1 h2=>h i (by omega) (by omega)) (by rw [show s + 1 + n = s + (n + 1) by omega]; exact he)
   rw [show ((s + 1 : Nat) : Int) + 1 = (s : Int) + 1 + 1 by omega] at ih
   simp only [cond_false]
   exact ih
theorem three_ok {i : Nat} (hi : i < 21) : f4u ((i : Int) + 1) = some (t3 i : Int):=by
 rcases split21 hi with rfl | rfl | rfl | rfl | rfl | rfl | rfl | rfl | rfl | rfl | rfl | rfl | rfl | rfl | rfl | rfl | rfl | rfl | rfl | rfl | rfl <;> rfl
theorem seven_ok {i : Nat} (hi : i < 11) : f4s ((i : Int) + 1) = some (t7 i : Int):=by
 rcases split21 (show i < 21 by omega) with rfl | rfl | rfl | rfl | rfl | rfl | rfl | rfl | rfl | rfl | rfl | rfl | rfl | rfl | rfl | rfl | rfl | rfl | rfl | rfl | rfl <;> first | rfl | (exact absurd hi (by decide))
def Mt (i op f3 f7 : Nat) : Bool:=(tO i == op) && (bif Nat.blt i 11 then (t3 i == f3) && (t7 i == f7) else bif Nat.blt i 18 then t3 i == f3 else true)
def So (op f3 f7 : Nat) : Nat:=
 bif op == 51 then (match (List.range' 0 11).find? (fun i=>(f3 == t3 i) && (f7 == t7 i)) with
  | some i=>i + 1
  | none=>0) else
 bif op == 19 then (bif f3 == 0 then 12 else 13) else bif op == 3 then 14 else bif op == 103 then 15 else bif op == 35 then 16 else
 bif op == 99 then (bif f3 == 0 then 17 else 18) else bif op == 55 then 19 else bif op == 111 then 20 else bif op == 115 then 21 else 0
theorem so_of_mt {i op f3 f7 : Nat} (hi : i < 21) (h : Mt i op f3 f7 = true) : So op f3 f7 = i + 1:=by
  unfold Mt at h
  rw [Bool.and_eq_true] at h
  obtain ⟨h1,h2⟩:=h
  have e1:=eq_of_beq h1
  rcases split21 hi with rfl | rfl | rfl | rfl | rfl | rfl | rfl | rfl | rfl | rfl | rfl | rfl | rfl | rfl | rfl | rfl | rfl | rfl | rfl | rfl | rfl
  all_goals (subst e1; first
    | (have h3 : ((t3 _ == f3) && (t7 _ == f7)) = true:=h2
       rw [Bool.and_eq_true] at h3
       have e2:=eq_of_beq h3.1
       have e3:=eq_of_beq h3.2
       subst e2
       subst e3
       rfl)
    | (have h3 : (t3 _ == f3) = true:=h2
       have e2:=eq_of_beq h3
       subst e2
       rfl)
    | rfl)
theorem int_beq (a b : Nat) : ((a : Int) == (b : Int)) = (a == b):=by
 rw [Bool.eq_iff_iff]
 simp only [beq_iff_eq]
 constructor <;> intro h <;> omega
theorem so_le (op f3 f7 : Nat) : So op f3 f7 ≤ 21:=by
 unfold So
 have h : ∀ o : Option Nat,o = (List.range' 0 11).find? (fun i=>(f3 == t3 i) && (f7 == t7 i)) → (match o with
  | some i=>i + 1
  | none=>0) ≤ 21:=by
  intro o ho
  cases o with
  | none=>exact Nat.zero_le _
  | some i =>
   have:=List.mem_of_find?_eq_some ho.symm
   simp at this
   show i + 1 ≤ 21
   omega
 have:=h _ rfl
 cases (op == 51) <;> cases (op == 19) <;> cases (op == 3) <;> cases (op == 103) <;> cases (op == 35) <;> cases (op == 99) <;> cases (op == 55) <;> cases (op == 111) <;> cases (op == 115) <;> cases (f3 == 0) <;> first | exact this | exact Nat.le_of_ble_eq_true rfl
theorem kind_ok (u : Nat) (hu : u < 4294967296) : f50 (u : Int) = some ((So (u / 2 ^ 0 % 2 ^ 7) (u / 2 ^ 12 % 2 ^ 3) (u / 2 ^ 25 % 2 ^ 7) : Nat) : Int):=by
 have b0:=sbits_ok u 0 7 hu (by omega) (by omega) (by omega)
 have b1:=sbits_ok u 12 3 hu (by omega) (by omega) (by omega)
 have b2:=sbits_ok u 25 7 hu (by omega) (by omega) (by omega)
 generalize u / 2 ^ 0 % 2 ^ 7 = op at b0 ⊢
 generalize u / 2 ^ 12 % 2 ^ 3 = f3 at b1 ⊢
 generalize u / 2 ^ 25 % 2 ^ 7 = f7 at b2 ⊢
 have loop:=find_loop (f:=f6s (u : Int)) (fun i=>(f3 == t3 i) && (f7 == t7 i)) (fun i=>(i : Int) + 1) 11 0 (fun i _ h2=>by
  unfold f6s
  rw [sel_true (decide_eq_true (by omega))]
  refine bind_to b1 (bind_to (three_ok (by omega)) ?_)
  refine bind_to (y:=(f3 == t3 i) && (f7 == t7 i)) ?_ ?_
  ·rw [int_beq]
   cases (f3 == t3 i)
   ·rfl
   ·refine bind_to b2 (bind_to (seven_ok (by omega)) ?_)
    rw [int_beq]
    rfl
  ·cases ((f3 == t3 i) && (f7 == t7 i))
   ·simp only [sel,cond_false]
    rw [w64_id (by omega) (by omega)]
   ·rfl) (by
  unfold f6s
  exact sel_to rfl rfl)
 unfold f50 So
 refine bind_to b0 ?_
 rw [show (51 : Int) = ((51 : Nat) : Int) from rfl,show (19 : Int) = ((19 : Nat) : Int) from rfl,show (103 : Int) = ((103 : Nat) : Int) from rfl,show (35 : Int) = ((35 : Nat) : Int) from rfl,show (99 : Int) = ((99 : Nat) : Int) from rfl,show (55 : Int) = ((55 : Nat) : Int) from rfl,show (111 : Int) = ((111 : Nat) : Int) from rfl,show (115 : Int) = ((115 : Nat) : Int) from rfl]
 simp only [int_beq]
 cases (op == 51)
 ·refine sel_to rfl ?_
  cases (op == 19)
  ·refine sel_to rfl ?_
   have b3 : ((op : Int) == 3) = (op == 3):=int_beq op 3
   rw [b3]
   cases (op == 3)
   ·refine sel_to rfl ?_
    cases (op == 103)
    ·refine sel_to rfl ?_
     cases (op == 35)
     ·refine sel_to rfl ?_
      cases (op == 99)
      ·refine sel_to rfl ?_
       cases (op == 55)
       ·refine sel_to rfl ?_
        cases (op == 111)
        ·refine sel_to rfl ?_
         cases (op == 115) <;> rfl
        ·rfl
       ·rfl
      ·refine sel_tt rfl (bind_to b1 ?_)
       have b3 : ((f3 : Int) == 0) = (f3 == 0):=int_beq f3 0
       rw [b3]
       cases (f3 == 0) <;> rfl
     ·rfl
    ·rfl
   ·rfl
  ·refine sel_tt rfl (bind_to b1 ?_)
   have b3 : ((f3 : Int) == 0) = (f3 == 0):=int_beq f3 0
   rw [b3]
   cases (f3 == 0) <;> rfl
 ·refine sel_tt rfl ?_
  rw [show (1 : Int) = ((0 : Nat) : Int) + 1 from rfl,loop]
  cases (List.range' 0 11).find? (fun i=>(f3 == t3 i) && (f7 == t7 i)) <;> rfl
theorem mask7 (u : Nat) (hu : u < 4294967296) : bitsI .and .i64 (u : Int) 127 = ((u / 2 ^ 0 % 2 ^ 7 : Nat) : Int):=by
 have:=mask_nat (a:=u) (k:=7) (by omega) (by omega)
 rw [Nat.pow_zero,Nat.div_one]
 exact this
theorem bne_int (a b : Nat) : ((a : Int) != (b : Int)) = !(a == b):=by unfold bne; rw [int_beq]
theorem match_R {x : InstrRow} {i u o a b : Nat} (hu : u < 4294967296) (hi : i < 11) (h1 : x.opcode = o) (h2 : x.funct3 = a) (h3 : x.funct7 = b) :
  f11 x ((i : Int) + 1) (u : Int) = some ((o == u / 2 ^ 0 % 2 ^ 7) && ((a == u / 2 ^ 12 % 2 ^ 3) && (b == u / 2 ^ 25 % 2 ^ 7))):=by
 have b1 : f0o (u : Int) 12 3 = some ((u / 2 ^ 12 % 2 ^ 3 : Nat) : Int):=ibits_ok u 12 3 hu (by omega) (by omega) (by omega)
 have b2 : f0o (u : Int) 25 7 = some ((u / 2 ^ 25 % 2 ^ 7 : Nat) : Int):=ibits_ok u 25 7 hu (by omega) (by omega) (by omega)
 unfold f11
 rw [h1,h2,h3,mask7 u hu,bne_int]
 generalize u / 2 ^ 0 % 2 ^ 7 = op
 generalize u / 2 ^ 12 % 2 ^ 3 = f3 at b1 ⊢
 generalize u / 2 ^ 25 % 2 ^ 7 = f7 at b2 ⊢
 cases (o == op)
 ·rfl
 ·refine sel_to rfl (bind_to (fmt_R (by omega)) (sel_tt rfl (bind_to b1 ?_)))
  rw [int_beq]
  cases (a == f3)
  ·rfl
  ·refine bind_to (y:=(b == f7)) (sel_tt rfl (bind_to b2 ?_)) rfl
   rw [int_beq]
theorem match_F {x : InstrRow} {i u o a : Nat} (hu : u < 4294967296) (hi : 11 ≤ i) (hi2 : i < 18) (h1 : x.opcode = o) (h2 : x.funct3 = a) :
  f11 x ((i : Int) + 1) (u : Int) = some ((o == u / 2 ^ 0 % 2 ^ 7) && (a == u / 2 ^ 12 % 2 ^ 3)):=by
 have b1 : f0o (u : Int) 12 3 = some ((u / 2 ^ 12 % 2 ^ 3 : Nat) : Int):=ibits_ok u 12 3 hu (by omega) (by omega) (by omega)
 unfold f11
 rw [h1,h2,mask7 u hu,bne_int]
 generalize u / 2 ^ 0 % 2 ^ 7 = op
 generalize u / 2 ^ 12 % 2 ^ 3 = f3 at b1 ⊢
 cases (o == op)
 ·rfl
 ·rcases (by omega : i < 15 ∨ i = 15 ∨ 16 ≤ i) with h | h | h
  ·exact sel_to rfl (bind_to (fmt_I (by omega)) (sel_to rfl (bind_to (y:=true) rfl (sel_tt rfl (bind_to b1 (by rw [int_beq,Bool.true_and]))))))
  ·exact sel_to rfl (bind_to (fmt_S' (by omega)) (sel_to rfl (bind_to (y:=true) rfl (sel_tt rfl (bind_to b1 (by rw [int_beq,Bool.true_and]))))))
  ·exact sel_to rfl (bind_to (fmt_B (by omega)) (sel_to rfl (bind_to (y:=true) rfl (sel_tt rfl (bind_to b1 (by rw [int_beq,Bool.true_and]))))))
theorem match_N {x : InstrRow} {i u o : Nat} (hu : u < 4294967296) (hi : 18 ≤ i) (hi2 : i < 21) (h1 : x.opcode = o) :
  f11 x ((i : Int) + 1) (u : Int) = some ((o == u / 2 ^ 0 % 2 ^ 7) && true):=by
 unfold f11
 rw [h1,mask7 u hu,bne_int]
 generalize u / 2 ^ 0 % 2 ^ 7 = op
 cases (o == op)
 ·rfl
 ·rcases (by omega : i = 18 ∨ i = 19 ∨ i = 20) with rfl | rfl | rfl <;> rfl
theorem match_ok {i u : Nat} (hu : u < 4294967296) (hi : i < 21) : ∃ x,nth instrTable (i : Int) = some x ∧ f11 x ((i : Int) + 1) (u : Int) = some (Mt i (u / 2 ^ 0 % 2 ^ 7) (u / 2 ^ 12 % 2 ^ 3) (u / 2 ^ 25 % 2 ^ 7)):=by
 rcases split21 hi with rfl | rfl | rfl | rfl | rfl | rfl | rfl | rfl | rfl | rfl | rfl | rfl | rfl | rfl | rfl | rfl | rfl | rfl | rfl | rfl | rfl
 all_goals first
  | exact ⟨_,rfl,match_R hu (by decide) rfl rfl rfl⟩
  | exact ⟨_,rfl,match_F hu (by decide) (by decide) rfl rfl⟩
  | exact ⟨_,rfl,match_N hu (by decide) (by decide) rfl⟩
end Go.Proofs.YtcljimkjmklkmaaGreat.N
namespace Go.Proofs.YtcljimkjmklkmaaGreat.N
open Go.Proofs.YtcljimkjmklkmaaGreat.X
theorem isx_ok (v n : Nat) (h1 : 1 ≤ n) (h2 : n ≤ 31) (hv : v < 2 ^ n) : f1z (v : Int) (n : Int) = some (sx v n):=by
 have hp : 2 ^ n ≤ 2 ^ 31:=Nat.pow_le_pow_right (by omega) h2
 have h3 : (2 : Nat) ^ 31 = 2147483648:=by decide
 rw [h3] at hp
 have hp' : 2 ^ (n - 1) ≤ 2 ^ n:=Nat.pow_le_pow_right (by omega) (by omega)
 have q2 : shO .shl .i64 ((1 : Nat) : Int) (n : Int) = _:=shl_nat (x:=1) (k:=n) (by omega) (by omega)
 have q1 : shO .shl .i64 ((1 : Nat) : Int) (w64 ((n : Int) - 1)) = some ((2 ^ (n - 1) : Nat) : Int):=by
  rw [w64_id (by omega) (by omega),show (n : Int) - 1 = ((n - 1 : Nat) : Int) by omega]
  have:=shl_nat (x:=1) (k:=n - 1) (by omega) (by omega)
  rw [Nat.one_mul] at this
  exact this
 rw [Nat.one_mul] at q2
 unfold f1z sx
 generalize 2 ^ n = N at q2 hv hp ⊢
 generalize 2 ^ (n - 1) = M at q1 ⊢
 have e1 : (decide ((n : Int) < 1) || decide ((n : Int) > 32) || decide ((v : Int) < 0)) = false:=by rw [decide_eq_false (by omega),decide_eq_false (by omega),decide_eq_false (by omega)]; rfl
 rw [e1]
 refine bind_to (y:=false) ?_ ?_
 ·refine sel_to rfl (bind_to q2 ?_)
  rw [decide_eq_false (by omega)]
 ·refine sel_to rfl (bind_to q1 ?_)
  rw [ble_int]
  cases Nat.ble M v
  ·rfl
  ·refine sel_tt rfl (bind_to q2 ?_)
   rw [w64_id (by omega) (by omega)]
   rfl
def Good (i : Nat) (x : Instr) : Prop:=x.Op = (i : Int) + 1 ∧ (0 ≤ x.Rd ∧ x.Rd ≤ 31) ∧ (0 ≤ x.Rs ∧ x.Rs ≤ 31) ∧ (0 ≤ x.Rt ∧ x.Rt ≤ 31) ∧ (-1048576 ≤ x.Imm ∧ x.Imm ≤ 1048575)
def Flds (i : Nat) (u : Nat) : Prop:=∃ x,f0b ((i : Int) + 1) (u : Int) = some x ∧ f1r ((i : Int) + 1) (u : Int) = some x ∧ Good i x ∧ f0p x = some true ∧ Enc x
theorem lt5 (x : Nat) : 0 ≤ ((x % 2 ^ 5 : Nat) : Int) ∧ ((x % 2 ^ 5 : Nat) : Int) ≤ 31:=by
 have : x % 2 ^ 5 < 2 ^ 5:=Nat.mod_lt _ (by decide)
 have h : (2 : Nat) ^ 5 = 32:=by decide
 omega
theorem reg_ok {x : Int} (h : 0 ≤ x ∧ x ≤ 31) : f1w x = some true:=by
 unfold f1w
 rw [decide_eq_true (by omega),decide_eq_true (by omega)]
 rfl
theorem z31 : (0 : Int) ≤ 0 ∧ (0 : Int) ≤ 31:=by decide
theorem zim : (-1048576 : Int) ≤ 0 ∧ (0 : Int) ≤ 1048575:=by decide
theorem r0 : f1w 0 = some true:=rfl
theorem flds_R (u i : Nat) (hu : u < 4294967296) (hi : i < 11) : Flds i u:=by
 have s1:=sbits_ok u 7 5 hu (by omega) (by omega) (by omega)
 have s2:=sbits_ok u 15 5 hu (by omega) (by omega) (by omega)
 have s3:=sbits_ok u 20 5 hu (by omega) (by omega) (by omega)
 have b1:=ibits_ok u 7 5 hu (by omega) (by omega) (by omega)
 have b2:=ibits_ok u 15 5 hu (by omega) (by omega) (by omega)
 have b3:=ibits_ok u 20 5 hu (by omega) (by omega) (by omega)
 have l1:=lt5 (u / 2 ^ 7)
 have l2:=lt5 (u / 2 ^ 15)
 have l3:=lt5 (u / 2 ^ 20)
 generalize u / 2 ^ 7 % 2 ^ 5 = rd at s1 b1 l1
 generalize u / 2 ^ 15 % 2 ^ 5 = rs at s2 b2 l2
 generalize u / 2 ^ 20 % 2 ^ 5 = rt at s3 b3 l3
 refine ⟨⟨(i : Int) + 1,rd,rs,rt,0⟩,?_,?_,⟨rfl,l1,l2,l3,zim⟩,?_,enc_R (by omega) l1 l2 l3⟩
 ·unfold f0b
  exact bind_to s1 (bind_to s2 (bind_to s3 (sel_tt (decide_eq_true (by omega)) rfl)))
 ·unfold f1r
  exact bind_to b1 (bind_to b2 (bind_to b3 (bind_to (fmt_R (by omega)) (sel_tt rfl rfl))))
 ·unfold f0p
  exact bind_to (reg_ok l1) (bind_to (reg_ok l2) (bind_to (reg_ok l3) (bind_to (fmt_R (by show 1 ≤ (i : Int) + 1 ∧ (i : Int) + 1 ≤ 11; omega)) (sel_tt rfl rfl))))
theorem flds_I (u i : Nat) (hu : u < 4294967296) (hi : 11 ≤ i) (hi2 : i < 15) : Flds i u:=by
 have s1:=sbits_ok u 7 5 hu (by omega) (by omega) (by omega)
 have s2:=sbits_ok u 15 5 hu (by omega) (by omega) (by omega)
 have s3:=sbits_ok u 20 5 hu (by omega) (by omega) (by omega)
 have s4:=sbits_ok u 20 12 hu (by omega) (by omega) (by omega)
 have b1:=ibits_ok u 7 5 hu (by omega) (by omega) (by omega)
 have b2:=ibits_ok u 15 5 hu (by omega) (by omega) (by omega)
 have b3:=ibits_ok u 20 5 hu (by omega) (by omega) (by omega)
 have b4:=ibits_ok u 20 12 hu (by omega) (by omega) (by omega)
 have l1:=lt5 (u / 2 ^ 7)
 have l2:=lt5 (u / 2 ^ 15)
 have l4 : u / 2 ^ 20 % 2 ^ 12 < 2 ^ 12:=Nat.mod_lt _ (by decide)
 generalize u / 2 ^ 7 % 2 ^ 5 = rd at s1 b1 l1
 generalize u / 2 ^ 15 % 2 ^ 5 = rs at s2 b2 l2
 generalize u / 2 ^ 20 % 2 ^ 5 = rt at s3 b3
 generalize u / 2 ^ 20 % 2 ^ 12 = im at s4 b4 l4
 have x1:=ssx_ok im 12 (by omega) (by omega) l4
 have x2:=isx_ok im 12 (by omega) (by omega) l4
 have x3:=sx_bd (n:=12) (by omega) l4
 rw [show ((2 ^ (12 - 1) : Nat) : Int) = 2048 by decide] at x3
 generalize sx im 12 = m at x1 x2 x3
 refine ⟨⟨(i : Int) + 1,rd,rs,0,m⟩,?_,?_,⟨rfl,l1,l2,z31,⟨by show -1048576 ≤ m; omega,by show m ≤ 1048575; omega⟩⟩,?_,enc_I (by omega) l1 l2 (by omega)⟩
 ·unfold f0b
  exact bind_to s1 (bind_to s2 (bind_to s3 (sel_to (decide_eq_false (by omega)) (sel_tt (decide_eq_true (by omega)) (bind_to s4 (bind_to x1 rfl))))))
 ·unfold f1r
  exact bind_to b1 (bind_to b2 (bind_to b3 (bind_to (fmt_I (by omega)) (sel_to rfl (sel_tt rfl (bind_to b4 (bind_to x2 rfl)))))))
 ·unfold f0p
  refine bind_to (reg_ok l1) (bind_to (reg_ok l2) (bind_to r0 (bind_to (fmt_I (by show 12 ≤ (i : Int) + 1 ∧ (i : Int) + 1 ≤ 15; omega)) (sel_to rfl (sel_tt rfl ?_)))))
  simp only
  rw [decide_eq_true (by omega),decide_eq_true (by omega)]
  rfl
theorem flds_S (u : Nat) (hu : u < 4294967296) : Flds 15 u := by
  have s1 := sbits_ok u 7 5 hu (by omega) (by omega) (by omega)
  have s2 := sbits_ok u 15 5 hu (by omega) (by omega) (by omega)
  have s3 := sbits_ok u 20 5 hu (by omega) (by omega) (by omega)
  have s4 := sbits_ok u 25 7 hu (by omega) (by omega) (by omega)
  have b1 := ibits_ok u 7 5 hu (by omega) (by omega) (by omega)
  have b2 := ibits_ok u 15 5 hu (by omega) (by omega) (by omega)
  have b3 := ibits_ok u 20 5 hu (by omega) (by omega) (by omega)
  have b4 := ibits_ok u 25 7 hu (by omega) (by omega) (by omega)
  have l1 : u / 2 ^ 7 % 2 ^ 5 < 32 := Nat.mod_lt _ (by decide)
  have l2 := lt5 (u / 2 ^ 15)
  have l3 := lt5 (u / 2 ^ 20)
  have l4 : u / 2 ^ 25 % 2 ^ 7 < 128 := Nat.mod_lt _ (by decide)
  generalize u / 2 ^ 7 % 2 ^ 5 = rd at s1 b1 l1
  generalize u / 2 ^ 15 % 2 ^ 5 = rs at s2 b2 l2
  generalize u / 2 ^ 20 % 2 ^ 5 = rt at s3 b3 l3
  generalize u / 2 ^ 25 % 2 ^ 7 = hi at s4 b4 l4
  have l5 : hi * 32 + rd < 2 ^ 12 := by have : (2 : Nat) ^ 12 = 4096 := by decide
                                        omega
  have x1 := ssx_ok (hi * 32 + rd) 12 (by omega) (by omega) l5
  have x2 := isx_ok (hi * 32 + rd) 12 (by omega) (by omega) l5
  have x3 := sx_bd (n := 12) (by omega) l5
  rw [show ((2 ^ (12 - 1) : Nat) : Int) = 2048 by decide] at x3
  have e1 : w64 (w64 ((hi : Int) * 32) + (rd : Int)) = ((hi * 32 + rd : Nat) : Int) := by rw [w64_id (x := (hi : Int) * 32) (by omega) (by omega), w64_id (by omega) (by omega)]; omega
  have e2 : bitsI .or .i64 (w64 ((hi : Int) * 2 ^ (min 5 (IntKind.bits .i64)))) (rd : Int) = ((hi * 32 + rd : Nat) : Int) := by
    rw [show w64 ((hi : Int) * 2 ^ (min 5 (IntKind.bits .i64))) = ((hi * 2 ^ 5 : Nat) : Int) from shl_lit (k := 5) (by omega), or_n (by omega) (by omega)]
    have := add_or (i := 5) (x := hi) (y := rd) l1
    rw [Nat.mul_comm hi, ← this]
  rw [← e1] at x1
  rw [← e2] at x2
  generalize sx (hi * 32 + rd) 12 = m at x1 x2 x3
  refine ⟨⟨16, 0, rs, rt, m⟩, ?_, ?_, ⟨rfl, z31, l2, l3, ⟨by show -1048576 ≤ m; omega, by show m ≤ 1048575; omega⟩⟩, ?_, enc_S l2 l3 (by omega)⟩
  · unfold f0b
    exact bind_to s1 (bind_to s2 (bind_to s3 (sel_to rfl (sel_to rfl (sel_tt rfl (bind_to s4 (bind_to x1 rfl)))))))
  · unfold f1r
    exact bind_to b1 (bind_to b2 (bind_to b3 (bind_to (fmt_S' rfl) (sel_to rfl (sel_to rfl (sel_tt rfl (bind_to b4 (bind_to x2 rfl))))))))
  · unfold f0p
    refine bind_to r0 (bind_to (reg_ok l2) (bind_to (reg_ok l3) (bind_to (fmt_S' rfl) (sel_to rfl (sel_to rfl (sel_tt rfl ?_))))))
    simp only
    rw [decide_eq_true (by omega), decide_eq_true (by omega)]
    rfl
end Go.Proofs.YtcljimkjmklkmaaGreat.N
namespace Go.Proofs.YtcljimkjmklkmaaGreat.N
open Go.Proofs.YtcljimkjmklkmaaGreat.X
theorem or_eq (k : Nat) {x y : Nat} (h : y < 2 ^ k) : x * 2 ^ k ||| y = x * 2 ^ k + y:=by
 rw [Nat.mul_comm x]
 exact (add_or h).symm
theorem flds_B (u i : Nat) (hu : u < 4294967296) (hi : i = 16 ∨ i = 17) : Flds i u:=by
 have s1:=sbits_ok u 7 5 hu (by omega) (by omega) (by omega)
 have s2:=sbits_ok u 15 5 hu (by omega) (by omega) (by omega)
 have s3:=sbits_ok u 20 5 hu (by omega) (by omega) (by omega)
 have s4:=sbits_ok u 31 1 hu (by omega) (by omega) (by omega)
 have s5:=sbits_ok u 7 1 hu (by omega) (by omega) (by omega)
 have s6:=sbits_ok u 25 6 hu (by omega) (by omega) (by omega)
 have s7:=sbits_ok u 8 4 hu (by omega) (by omega) (by omega)
 have b1:=ibits_ok u 7 5 hu (by omega) (by omega) (by omega)
 have b2:=ibits_ok u 15 5 hu (by omega) (by omega) (by omega)
 have b3:=ibits_ok u 20 5 hu (by omega) (by omega) (by omega)
 have b4:=ibits_ok u 31 1 hu (by omega) (by omega) (by omega)
 have b5:=ibits_ok u 7 1 hu (by omega) (by omega) (by omega)
 have b6:=ibits_ok u 25 6 hu (by omega) (by omega) (by omega)
 have b7:=ibits_ok u 8 4 hu (by omega) (by omega) (by omega)
 have l2:=lt5 (u / 2 ^ 15)
 have l3:=lt5 (u / 2 ^ 20)
 have l4 : u / 2 ^ 31 % 2 ^ 1 < 2:=Nat.mod_lt _ (by decide)
 have l5 : u / 2 ^ 7 % 2 ^ 1 < 2:=Nat.mod_lt _ (by decide)
 have l6 : u / 2 ^ 25 % 2 ^ 6 < 64:=Nat.mod_lt _ (by decide)
 have l7 : u / 2 ^ 8 % 2 ^ 4 < 16:=Nat.mod_lt _ (by decide)
 generalize u / 2 ^ 7 % 2 ^ 5 = rd at s1 b1
 generalize u / 2 ^ 15 % 2 ^ 5 = rs at s2 b2 l2
 generalize u / 2 ^ 20 % 2 ^ 5 = rt at s3 b3 l3
 generalize u / 2 ^ 31 % 2 ^ 1 = v1 at s4 b4 l4
 generalize u / 2 ^ 7 % 2 ^ 1 = v2 at s5 b5 l5
 generalize u / 2 ^ 25 % 2 ^ 6 = v3 at s6 b6 l6
 generalize u / 2 ^ 8 % 2 ^ 4 = v4 at s7 b7 l7
 have l8 : v1 * 4096 + v2 * 2048 + v3 * 32 + v4 * 2 < 2 ^ 13:=by
  have : (2 : Nat) ^ 13 = 8192:=by decide
  omega
 have x1:=ssx_ok _ 13 (by omega) (by omega) l8
 have x2:=isx_ok _ 13 (by omega) (by omega) l8
 have x3:=sx_bd (n:=13) (by omega) l8
 rw [show ((2 ^ (13 - 1) : Nat) : Int) = 4096 by decide] at x3
 have ev : ∃ q : Int,sx (v1 * 4096 + v2 * 2048 + v3 * 32 + v4 * 2) 13 = 2 * q:=by
  rw [show v1 * 4096 + v2 * 2048 + v3 * 32 + v4 * 2 = 2 * (v1 * 2048 + v2 * 1024 + v3 * 16 + v4) by omega]
  exact sx_ev _ 13 (by omega)
 have e1 : w64 (w64 (w64 (w64 ((v1 : Int) * 4096) + w64 ((v2 : Int) * 2048)) + w64 ((v3 : Int) * 32)) + w64 ((v4 : Int) * 2)) = ((v1 * 4096 + v2 * 2048 + v3 * 32 + v4 * 2 : Nat) : Int):=by
  rw [w64_id (x:=(v1 : Int) * 4096) (by omega) (by omega),w64_id (x:=(v2 : Int) * 2048) (by omega) (by omega),w64_id (x:=(v3 : Int) * 32) (by omega) (by omega),w64_id (x:=(v4 : Int) * 2) (by omega) (by omega),w64_id (x:=(v1 : Int) * 4096 + (v2 : Int) * 2048) (by omega) (by omega),w64_id (x:=(v1 : Int) * 4096 + (v2 : Int) * 2048 + (v3 : Int) * 32) (by omega) (by omega),w64_id (by omega) (by omega)]
  omega
 have o1 : v3 * 2 ^ 5 ||| v4 * 2 ^ 1 = v3 * 2 ^ 5 + v4 * 2 ^ 1:=or_eq 5 (by omega)
 have o2 : v2 * 2 ^ 11 ||| (v3 * 2 ^ 5 + v4 * 2 ^ 1) = v2 * 2 ^ 11 + (v3 * 2 ^ 5 + v4 * 2 ^ 1):=or_eq 11 (by omega)
 have o3 : v1 * 2 ^ 12 ||| (v2 * 2 ^ 11 + (v3 * 2 ^ 5 + v4 * 2 ^ 1)) = v1 * 2 ^ 12 + (v2 * 2 ^ 11 + (v3 * 2 ^ 5 + v4 * 2 ^ 1)):=or_eq 12 (by omega)
 have e2 : bitsI .or .i64 (bitsI .or .i64 (bitsI .or .i64 (w64 ((v1 : Int) * 2 ^ (min 12 (IntKind.bits .i64)))) (w64 ((v2 : Int) * 2 ^ (min 11 (IntKind.bits .i64))))) (w64 ((v3 : Int) * 2 ^ (min 5 (IntKind.bits .i64))))) (w64 ((v4 : Int) * 2 ^ (min 1 (IntKind.bits .i64)))) = ((v1 * 4096 + v2 * 2048 + v3 * 32 + v4 * 2 : Nat) : Int):=by
  rw [show w64 ((v1 : Int) * 2 ^ (min 12 (IntKind.bits .i64))) = ((v1 * 2 ^ 12 : Nat) : Int) from shl_lit (k:=12) (by omega),show w64 ((v2 : Int) * 2 ^ (min 11 (IntKind.bits .i64))) = ((v2 * 2 ^ 11 : Nat) : Int) from shl_lit (k:=11) (by omega),
   show w64 ((v3 : Int) * 2 ^ (min 5 (IntKind.bits .i64))) = ((v3 * 2 ^ 5 : Nat) : Int) from shl_lit (k:=5) (by omega),show w64 ((v4 : Int) * 2 ^ (min 1 (IntKind.bits .i64))) = ((v4 * 2 ^ 1 : Nat) : Int) from shl_lit (k:=1) (by omega),or4 (by omega) (by omega) (by omega) (by omega),
   Nat.or_assoc,Nat.or_assoc,o1,o2,o3]
  omega
 rw [← e1] at x1
 rw [← e2] at x2
 generalize sx (v1 * 4096 + v2 * 2048 + v3 * 32 + v4 * 2) 13 = m at x1 x2 x3 ev
 obtain ⟨q,rfl⟩:=ev
 have hk : (i : Int) + 1 = 17 ∨ (i : Int) + 1 = 18:=by omega
 refine ⟨⟨(i : Int) + 1,0,rs,rt,2 * q⟩,?_,?_,⟨rfl,z31,l2,l3,⟨by show -1048576 ≤ 2 * q; omega,by show 2 * q ≤ 1048575; omega⟩⟩,?_,enc_B hk l2 l3 (by omega)⟩
 ·unfold f0b
  refine bind_to s1 (bind_to s2 (bind_to s3 (sel_to (decide_eq_false (by omega)) (sel_to (decide_eq_false (by omega)) (sel_to ?_ (sel_tt ?_ (bind_to s4 (bind_to s5 (bind_to s6 (bind_to s7 (bind_to x1 rfl)))))))))))
  ·rcases hi with rfl | rfl <;> rfl
  ·rcases hi with rfl | rfl <;> rfl
 ·unfold f1r
  exact bind_to b1 (bind_to b2 (bind_to b3 (bind_to (fmt_B hk) (sel_to rfl (sel_to rfl (sel_to rfl (sel_tt rfl (bind_to b4 (bind_to b5 (bind_to b6 (bind_to b7 (bind_to x2 rfl))))))))))))
 ·unfold f0p
  refine bind_to r0 (bind_to (reg_ok l2) (bind_to (reg_ok l3) (bind_to (fmt_B hk) (sel_to rfl (sel_to rfl (sel_to rfl (sel_tt rfl ?_)))))))
  simp only
  rw [decide_eq_true (by omega),decide_eq_true (by omega),Int.mul_comm,Int.mul_tmod_left]
  rfl
end Go.Proofs.YtcljimkjmklkmaaGreat.N
