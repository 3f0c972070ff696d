/- Printed by a program of mine: what the program's functions compute, as plain Lean functions. Plain laws of the natural functions' words: repetitions, numbers th -/
import Derived.Test.YtfpngipcclmliaaGreatDoorK1
import Derived.Test.YtfpngipcclmliaaGreatDoorProg
set_option linter.unusedVariables false
set_option linter.unusedSimpArgs false
set_option maxRecDepth 100000
set_option maxHeartbeats 4000000
namespace Go.Proofs.YtfpngipcclmliaaGreatDoor.N
open Go.Proofs.YtfpngipcclmliaaGreatDoor.X
noncomputable section
structure De where
 name:ByteArray
 opcode:Int
 funct3:Int
 funct7:Int
structure Gh where
 b:List Int
 p:Int
structure Expr where
 Op:Int
 N:Int
 Args:List Expr
mutual
def bL:Expr->D
 | ⟨x0,x1,x2⟩=>.agg [.int .i64 x0,.int .i64 x1,.row 91 3 (yX x2)]
def yX:List Expr->List D
 | []=>[]
 | x::r=>bL x::yX r
end
theorem wV:∀ l,yX l=l.map bL
 | []=>rfl
 | x::r=>by rw [yX,wV r,List.map]
theorem gQ (x:Expr):bL x=.agg [.int .i64 x.Op,.int .i64 x.N,.row 91 3 (x.Args.map bL)]:=by
 cases x; simp only [bL,wV]
theorem EP (x:Expr):(bL x).sz=3:=by simp only [gQ,D.sz,D.szs]
structure ae where
 Kind:Int
 Var:Int
 Box:Int
 Expr:Expr
 Body:List ae
 Else:List ae
mutual
def aP:ae->D
 | ⟨x0,x1,x2,x3,x4,x5⟩=>.agg [.int .i64 x0,.int .i64 x1,.int .i64 x2,bL x3,.row 95 8 (wW x4),.row 95 8 (wW x5)]
def wW:List ae->List D
 | []=>[]
 | x::r=>aP x::wW r
end
theorem wX:∀ l,wW l=l.map aP
 | []=>rfl
 | x::r=>by rw [wW,wX r,List.map]
theorem pb (x:ae):aP x=.agg [.int .i64 x.Kind,.int .i64 x.Var,.int .i64 x.Box,bL x.Expr,.row 95 8 (x.Body.map aP),.row 95 8 (x.Else.map aP)]:=by
 cases x; simp only [aP,wX]
theorem FK (x:ae):(aP x).sz=8:=by simp only [pb,D.sz,D.szs,EP]
structure aF where
 Rooms:List Int
 Tasks:List (List ae)
structure rI where
 variable_:Bool
 box:Bool
 expr:Bool
 body:Bool
 other:Bool
structure ab where
 Op:Int
 Dst:Int
 A:Int
 B:Int
 N:Int
def ah (x:ab):D:=.agg [.int .i64 x.Op,.int .i64 x.Dst,.int .i64 x.A,.int .i64 x.B,.int .i64 x.N]
structure ai where
 Kind:Int
 N:Int
def a6 (x:ai):D:=.agg [.int .i64 x.Kind,.int .i64 x.N]
abbrev fM (b:Ar ai):List Value:=arC 12 (λ(x:ai)=>[.int .i64 x.Kind,.int .i64 x.N]) b
theorem iJ (b:Ar ai):(fM b).length=24:=fi (k:=2) λ_=>rfl
theorem sL:∀ x:ai,([.int .i64 x.Kind,.int .i64 x.N]:List Value).all (·.oneCell')=true:=λ_=>rfl
abbrev bA (b:Ar Int):List Value:=arC 12 (λ(x:Int)=>[.int .i64 x]) b
theorem cG (b:Ar Int):(bA b).length=12:=fi (k:=1) λ_=>rfl
theorem nL:∀ x:Int,([.int .i64 x]:List Value).all (·.oneCell')=true:=λ_=>rfl
abbrev i4 (b:Ar Int):List Value:=arC 12 (λ(x:Int)=>[.int .u16 x]) b
theorem yY (b:Ar Int):(i4 b).length=12:=fi (k:=1) λ_=>rfl
theorem Df:∀ x:Int,([.int .u16 x]:List Value).all (·.oneCell')=true:=λ_=>rfl
structure Instr where
 Op:Int
 Rd:Int
 Rs:Int
 Rt:Int
 Imm:Int
def ak (x:Instr):D:=.agg [.int .i64 x.Op,.int .i64 x.Rd,.int .i64 x.Rs,.int .i64 x.Rt,.int .i64 x.Imm]
structure bq where
 colors:Int
 list:List Instr
structure ay where
 Op:Int
 N:Int
 Args:List ay
mutual
def iK:ay->D
 | ⟨x0,x1,x2⟩=>.agg [.int .i64 x0,.int .i64 x1,.row 153 3 (tC x2)]
def tC:List ay->List D
 | []=>[]
 | x::r=>iK x::tC r
end
theorem qx:∀ l,tC l=l.map iK
 | []=>rfl
 | x::r=>by rw [tC,qx r,List.map]
theorem wY (x:ay):iK x=.agg [.int .i64 x.Op,.int .i64 x.N,.row 153 3 (x.Args.map iK)]:=by
 cases x; simp only [iK,qx]
structure au where
 Kind:Int
 Var:Int
 Box:Int
 Expr:ay
 Body:List au
 Else:List au
mutual
def cQ:au->D
 | ⟨x0,x1,x2,x3,x4,x5⟩=>.agg [.int .i64 x0,.int .i64 x1,.int .i64 x2,iK x3,.row 155 8 (rv x4),.row 155 8 (rv x5)]
def rv:List au->List D
 | []=>[]
 | x::r=>cQ x::rv r
end
theorem pc:∀ l,rv l=l.map cQ
 | []=>rfl
 | x::r=>by rw [rv,pc r,List.map]
theorem Be (x:au):cQ x=.agg [.int .i64 x.Kind,.int .i64 x.Var,.int .i64 x.Box,iK x.Expr,.row 155 8 (x.Body.map cQ),.row 155 8 (x.Else.map cQ)]:=by
 cases x; simp only [cQ,pc]
structure aR where
 Rooms:List Int
 Tasks:List (List au)
def sM (x:aR):D:=.agg [.row 3 1 (x.Rooms.map (D.int .i64)),.row 114 1 (x.Tasks.map (λ(l:List au)=>D.row 155 8 (l.map cQ)))]
def mZ:List Int:=[7,8,6,8,11,9,10,1,2,3,4,5]
def FE:List Int:=[1,2,8,9,18,19,20,21,22,23,10,11,17]
def kr:List Int:=[8,9,18,19,20,21,22,23]
def Fb:List De:=[⟨⟨#[97,100,100]⟩,51,0,0⟩,⟨⟨#[115,117,98]⟩,51,0,32⟩,⟨⟨#[109,117,108]⟩,51,0,1⟩,⟨⟨#[100,105,118]⟩,51,4,1⟩,⟨⟨#[114,101,109]⟩,51,6,1⟩,⟨⟨#[97,110,100]⟩,51,7,0⟩,⟨⟨#[111,114]⟩,51,6,0⟩,⟨⟨#[120,111,114]⟩,51,4,0⟩,⟨⟨#[115,108,108]⟩,51,1,0⟩,⟨⟨#[115,114,97]⟩,51,5,32⟩,⟨⟨#[115,108,116]⟩,51,2,0⟩,⟨⟨#[97,100,100,105]⟩,19,0,0⟩,⟨⟨#[115,108,116,105,117]⟩,19,3,0⟩,⟨⟨#[108,119]⟩,3,2,0⟩,⟨⟨#[106,97,108,114]⟩,103,0,0⟩,⟨⟨#[115,119]⟩,35,2,0⟩,⟨⟨#[98,101,113]⟩,99,0,0⟩,⟨⟨#[98,110,101]⟩,99,1,0⟩,⟨⟨#[108,117,105]⟩,55,0,0⟩,⟨⟨#[106,97,108]⟩,111,0,0⟩,⟨⟨#[101,99,97,108,108]⟩,115,0,0⟩]
def NGl:Nat:=3
def Gl (w:World):Prop:=Tab 0 1 (λx:Int=>[.int .i64 x]) mZ w/\True/\Tab 2 1 (λx:Int=>[.int .i64 x]) kr w/\True
theorem Gl.at {w W:World} {M:Nat->Prop} {L:List Ent} (h:Gl w) (hS:Sep M w W L) (hM:∀ g,g<NGl->¬ M g):Gl W:=⟨Tab.at h.1 hS (hM 0 (by decide)),trivial,Tab.at h.2.2.1 hS (hM 2 (by decide)),trivial⟩
theorem Gl.noS {w W:World} {M S:Nat->Prop} (h:Gl w) (hM:∀ g,g<NGl->¬ M g) (h1:∀ b,S b->OkS M w W b):∀ g,g<NGl->¬ S g:=λg hg hs=>by
 have h3:2<w.heap.size:=h.2.2.1.1
 have hg':g<3:=hg
 rcases (h1 g hs).1 with h4 | h4
 ·omega
 ·exact hM g hg h4
theorem T.t3:aU Tryz.prog 3=some (false,some (.int .i64 0),1,8):=by kernel_rfl
theorem T.u3:Tryz.prog.underlying 3=some (.int .i64):=by kernel_rfl
theorem T.mix:Tryz.prog.follows .mixedOrders=true:=by kernel_rfl
theorem T.u23:Tryz.prog.underlying 23=some (.slice 3):=by kernel_rfl
theorem T.t91:aU Tryz.prog 91=some (true,some (.agg #[.int .i64 0,.int .i64 0,.slice none 0 0]),3,40):=by kernel_rfl
theorem T.u89:Tryz.prog.underlying 89=some (.slice 91):=by kernel_rfl
theorem T.t95:aU Tryz.prog 95=some (true,some (.agg #[.int .i64 0,.int .i64 0,.int .i64 0,.int .i64 0,.int .i64 0,.slice none 0 0,.slice none 0 0,.slice none 0 0]),8,112):=by kernel_rfl
theorem T.u93:Tryz.prog.underlying 93=some (.slice 95):=by kernel_rfl
theorem T.f95_4:fL Tryz.prog 95 4=some (6,1,false):=by kernel_rfl
theorem T.t93:aU Tryz.prog 93=some (false,some (.slice none 0 0),1,24):=by kernel_rfl
theorem T.f95_5:fL Tryz.prog 95 5=some (7,1,false):=by kernel_rfl
theorem T.t26:aU Tryz.prog 26=some (true,some (.agg #[.slice none 0 0,.slice none 0 0]),2,48):=by kernel_rfl
theorem T.u24:Tryz.prog.underlying 24=some (.slice 93):=by kernel_rfl
theorem T.f26_1:fL Tryz.prog 26 1=some (1,1,false):=by kernel_rfl
theorem T.t24:aU Tryz.prog 24=some (false,some (.slice none 0 0),1,24):=by kernel_rfl
theorem T.f26_0:fL Tryz.prog 26 0=some (0,1,false):=by kernel_rfl
theorem T.t23:aU Tryz.prog 23=some (false,some (.slice none 0 0),1,24):=by kernel_rfl
theorem T.t4:aU Tryz.prog 4=some (false,some (.bool false),1,1):=by kernel_rfl
theorem T.f91_0:fL Tryz.prog 91 0=some (0,1,false):=by kernel_rfl
theorem T.f91_1:fL Tryz.prog 91 1=some (1,1,false):=by kernel_rfl
theorem T.f91_2:fL Tryz.prog 91 2=some (2,1,false):=by kernel_rfl
theorem T.t89:aU Tryz.prog 89=some (false,some (.slice none 0 0),1,24):=by kernel_rfl
theorem T.t237:aU Tryz.prog 237=some (true,some (.agg #[.bool false,.bool false,.bool false,.bool false,.bool false]),5,5):=by kernel_rfl
theorem T.f95_0:fL Tryz.prog 95 0=some (0,1,false):=by kernel_rfl
theorem T.f237_0:fL Tryz.prog 237 0=some (0,1,false):=by kernel_rfl
theorem T.f237_2:fL Tryz.prog 237 2=some (2,1,false):=by kernel_rfl
theorem T.f237_3:fL Tryz.prog 237 3=some (3,1,false):=by kernel_rfl
theorem T.f237_4:fL Tryz.prog 237 4=some (4,1,false):=by kernel_rfl
theorem T.f237_1:fL Tryz.prog 237 1=some (1,1,false):=by kernel_rfl
theorem T.f95_1:fL Tryz.prog 95 1=some (1,1,false):=by kernel_rfl
theorem T.f95_2:fL Tryz.prog 95 2=some (2,1,false):=by kernel_rfl
theorem T.f95_3:fL Tryz.prog 95 3=some (3,3,true):=by kernel_rfl
theorem T.s70:vJ Tryz.prog 70=some ([(0,1),(1,1),(2,1),(3,1),(4,1)],[.int .i64 0,.int .i64 0,.int .i64 0,.int .i64 0,.int .i64 0]):=by kernel_rfl
theorem T.u38:Tryz.prog.underlying 38=some (.slice 70):=by kernel_rfl
theorem T.t70:aU Tryz.prog 70=some (true,some (.agg #[.int .i64 0,.int .i64 0,.int .i64 0,.int .i64 0,.int .i64 0]),5,40):=by kernel_rfl
theorem T.f70_4:fL Tryz.prog 70 4=some (4,1,false):=by kernel_rfl
theorem T.u32:Tryz.prog.underlying 32=some (.slice 38):=by kernel_rfl
theorem T.t38:aU Tryz.prog 38=some (false,some (.slice none 0 0),1,24):=by kernel_rfl
theorem T.f70_1:fL Tryz.prog 70 1=some (1,1,false):=by kernel_rfl
theorem T.f70_2:fL Tryz.prog 70 2=some (2,1,false):=by kernel_rfl
theorem T.f70_3:fL Tryz.prog 70 3=some (3,1,false):=by kernel_rfl
theorem T.f70_0:fL Tryz.prog 70 0=some (0,1,false):=by kernel_rfl
theorem T.e70:so Tryz.prog 70=some [(0,.int .i64),(1,.int .i64),(2,.int .i64),(3,.int .i64),(4,.int .i64)]:=by kernel_rfl
theorem T.u21:Tryz.prog.underlying 21=some (.int .i32):=by kernel_rfl
theorem T.t181:aU Tryz.prog 181=some (true,some (.agg #[.int .i64 0,.int .i64 0,.int .i64 0,.int .i64 0,.int .i64 0,.int .i64 0,.int .i64 0,.int .i64 0,.int .i64 0,.int .i64 0,.int .i64 0,.int .i64 0,.int .i64 0,.int .i64 0,.int .i64 0,.int .i64 0,.int .i64 0,.int .i64 0,.int .i64 0,.int .i64 0,.int .i64 0,.int .i64 0,.int .i64 0,.int .i64 0]),24,192):=by kernel_rfl
theorem T.s179:vJ Tryz.prog 179=some ([(0,1),(1,1)],[.int .i64 0,.int .i64 0]):=by kernel_rfl
theorem T.t179:aU Tryz.prog 179=some (true,some (.agg #[.int .i64 0,.int .i64 0]),2,16):=by kernel_rfl
theorem T.u181:Tryz.prog.underlying 181=some (.array 12 179):=by kernel_rfl
theorem T.f179_0:fL Tryz.prog 179 0=some (0,1,false):=by kernel_rfl
theorem T.f179_1:fL Tryz.prog 179 1=some (1,1,false):=by kernel_rfl
theorem T.e179:so Tryz.prog 179=some [(0,.int .i64),(1,.int .i64)]:=by kernel_rfl
theorem T.u176:Tryz.prog.underlying 176=some (.slice 181):=by kernel_rfl
theorem T.q181:Tryz.prog.eqGuardType Tryz.prog.depth 181=false:=by kernel_rfl
theorem T.t185:aU Tryz.prog 185=some (true,some (.agg #[.int .i64 0,.int .i64 0,.int .i64 0,.int .i64 0,.int .i64 0,.int .i64 0,.int .i64 0,.int .i64 0,.int .i64 0,.int .i64 0,.int .i64 0,.int .i64 0]),12,96):=by kernel_rfl
theorem T.u185:Tryz.prog.underlying 185=some (.array 12 3):=by kernel_rfl
theorem T.u183:Tryz.prog.underlying 183=some (.slice 185):=by kernel_rfl
theorem T.u188:Tryz.prog.underlying 188=some (.slice 4):=by kernel_rfl
theorem T.q185:Tryz.prog.eqGuardType Tryz.prog.depth 185=false:=by kernel_rfl
theorem T.u190:Tryz.prog.underlying 190=some (.slice 145):=by kernel_rfl
theorem T.t145:aU Tryz.prog 145=some (false,some (.int .u16 0),1,2):=by kernel_rfl
theorem T.u142:Tryz.prog.underlying 142=some (.slice 67):=by kernel_rfl
theorem T.t67:aU Tryz.prog 67=some (false,some (.nilFunc),1,8):=by kernel_rfl
theorem T.t146:aU Tryz.prog 146=some (true,some (.agg #[.int .u16 0,.int .u16 0,.int .u16 0,.int .u16 0,.int .u16 0,.int .u16 0,.int .u16 0,.int .u16 0,.int .u16 0,.int .u16 0,.int .u16 0,.int .u16 0]),12,24):=by kernel_rfl
theorem T.u146:Tryz.prog.underlying 146=some (.array 12 145):=by kernel_rfl
theorem T.f104_1:fL Tryz.prog 104 1=some (1,1,false):=by kernel_rfl
theorem T.t35:aU Tryz.prog 35=some (false,some (.slice none 0 0),1,24):=by kernel_rfl
theorem T.u35:Tryz.prog.underlying 35=some (.slice 74):=by kernel_rfl
theorem T.t74:aU Tryz.prog 74=some (true,some (.agg #[.int .i64 0,.int .i64 0,.int .i64 0,.int .i64 0,.int .i64 0]),5,40):=by kernel_rfl
theorem T.f104_0:fL Tryz.prog 104 0=some (0,1,false):=by kernel_rfl
theorem T.u149:Tryz.prog.underlying 149=some (.array 8 3):=by kernel_rfl
theorem T.s74:vJ Tryz.prog 74=some ([(0,1),(1,1),(2,1),(3,1),(4,1)],[.int .i64 0,.int .i64 0,.int .i64 0,.int .i64 0,.int .i64 0]):=by kernel_rfl
theorem T.s104:vJ Tryz.prog 104=some ([(0,1),(1,1)],[.int .i64 0,.slice none 0 0]):=by kernel_rfl
theorem T.u194:Tryz.prog.underlying 194=some (.int .u32):=by kernel_rfl
theorem T.u110:Tryz.prog.underlying 110=some (.array 12 3):=by kernel_rfl
theorem T.u29:Tryz.prog.underlying 29=some (.slice 35):=by kernel_rfl
theorem T.u229:Tryz.prog.underlying 229=some (.slice 179):=by kernel_rfl
theorem T.u226:Tryz.prog.underlying 226=some (.slice 229):=by kernel_rfl
theorem T.t229:aU Tryz.prog 229=some (false,some (.slice none 0 0),1,24):=by kernel_rfl
theorem T.u230:Tryz.prog.underlying 230=some (.slice 23):=by kernel_rfl
theorem T.u169:Tryz.prog.underlying 169=some (.slice 188):=by kernel_rfl
theorem T.t188:aU Tryz.prog 188=some (false,some (.slice none 0 0),1,24):=by kernel_rfl
theorem T.u4:Tryz.prog.underlying 4=some (.bool):=by kernel_rfl
theorem T.f153_2:fL Tryz.prog 153 2=some (2,1,false):=by kernel_rfl
theorem T.t151:aU Tryz.prog 151=some (false,some (.slice none 0 0),1,24):=by kernel_rfl
theorem T.u151:Tryz.prog.underlying 151=some (.slice 153):=by kernel_rfl
theorem T.t153:aU Tryz.prog 153=some (true,some (.agg #[.int .i64 0,.int .i64 0,.slice none 0 0]),3,40):=by kernel_rfl
theorem T.u114:Tryz.prog.underlying 114=some (.slice 155):=by kernel_rfl
theorem T.t155:aU Tryz.prog 155=some (true,some (.agg #[.int .i64 0,.int .i64 0,.int .i64 0,.int .i64 0,.int .i64 0,.slice none 0 0,.slice none 0 0,.slice none 0 0]),8,112):=by kernel_rfl
theorem T.f155_3:fL Tryz.prog 155 3=some (3,3,true):=by kernel_rfl
theorem T.f155_4:fL Tryz.prog 155 4=some (6,1,false):=by kernel_rfl
theorem T.t114:aU Tryz.prog 114=some (false,some (.slice none 0 0),1,24):=by kernel_rfl
theorem T.f155_5:fL Tryz.prog 155 5=some (7,1,false):=by kernel_rfl
theorem T.u41:Tryz.prog.underlying 41=some (.slice 114):=by kernel_rfl
theorem T.f43_0:fL Tryz.prog 43 0=some (0,1,false):=by kernel_rfl
theorem T.f43_1:fL Tryz.prog 43 1=some (1,1,false):=by kernel_rfl
theorem T.t41:aU Tryz.prog 41=some (false,some (.slice none 0 0),1,24):=by kernel_rfl
theorem T.f153_0:fL Tryz.prog 153 0=some (0,1,false):=by kernel_rfl
theorem T.f153_1:fL Tryz.prog 153 1=some (1,1,false):=by kernel_rfl
theorem T.f155_0:fL Tryz.prog 155 0=some (0,1,false):=by kernel_rfl
theorem T.f155_1:fL Tryz.prog 155 1=some (1,1,false):=by kernel_rfl
theorem T.f155_2:fL Tryz.prog 155 2=some (2,1,false):=by kernel_rfl
theorem T.f74_0:fL Tryz.prog 74 0=some (0,1,false):=by kernel_rfl
theorem T.f74_1:fL Tryz.prog 74 1=some (1,1,false):=by kernel_rfl
theorem T.f74_2:fL Tryz.prog 74 2=some (2,1,false):=by kernel_rfl
theorem T.f74_3:fL Tryz.prog 74 3=some (3,1,false):=by kernel_rfl
theorem T.f74_4:fL Tryz.prog 74 4=some (4,1,false):=by kernel_rfl
theorem T.t43:aU Tryz.prog 43=some (true,some (.agg #[.slice none 0 0,.slice none 0 0]),2,48):=by kernel_rfl
def qy (a0:Gh) (a1:Int):Option (Int×Int):=
sel ((decide (a1<1))||((a0.b.length:Int)==0)) (some (0,w64 (a0.p+1))) <|
sel (decide ((w64 ((w64 (a0.p+1))-1))<(a0.b.length:Int))) ((nth a0.b (w64 ((w64 (a0.p+1))-1))).bind λx1 =>
(sI (w64 (x1)) a1).bind λd1 =>
some (d1,w64 (a0.p+1))) <|
(sI (w64 ((w64 (a0.p+1))-1)) (a0.b.length:Int)).bind λd2 =>
(nth a0.b d2).bind λx2 =>
(sI (w64 ((w64 ((w64 ((w64 (a0.p+1))-1))*7))+3)) (a0.b.length:Int)).bind λd3 =>
(nth a0.b d3).bind λx3 =>
(uy .i64 (w64 ((w64 (a0.p+1))-1)) (a0.b.length:Int)).bind λd4 =>
(sI (br .xor .i64 (w64 ((w64 ((w64 ((w64 ((w64 (x2))*131))+(w64 ((w64 (x3))*1117))))+(w64 ((w64 ((w64 (a0.p+1))-1))*29))))+(w64 (d4*53)))) (w64 (Int.tdiv (w64 ((w64 ((w64 ((w64 ((w64 (x2))*131))+(w64 ((w64 (x3))*1117))))+(w64 ((w64 ((w64 (a0.p+1))-1))*29))))+(w64 (d4*53)))) 64))) a1).bind λd5 =>
some (d5,w64 (a0.p+1))
def gV (a0:List ae) (dV:List ae->Option (Int)) (s1:Int×Int):Option ((Int×Int)⊕Int):=
sel (decide (s1.2<(a0.length:Int))) ((nth a0 s1.2).bind λx1 =>
(nth a0 s1.2).bind λx2 =>
(dV x1.Body).bind λy4 =>
(dV x2.Else).bind λy5 =>
some (.inl (w64 ((w64 ((w64 (s1.1+1))+y4))+y5),w64 (s1.2+1)))) <|
some (.inr s1.1)
def cr (k:Nat) (dV:List ae->Option (Int)) (a0:List ae):Option (Int):=
(aC (gV a0 dV) (0,0)).bind λy1 =>
some y1
def pd:Nat->(List ae->Option (Int))
 | 0=>((λ_=>none))
 | k+1=>(cr k (pd k))
def cl (k:Nat):List ae->Option (Int):=(pd k)
def iL (a0:List Int) (s1:Int):Option (Int⊕(Bool⊕Unit)):=
sel (decide (s1<(a0.length:Int))) ((nth a0 s1).bind λx1 =>
sel ((decide (x1<1))||(decide (x1>4))) (some (.inr (.inl false))) <|
some (.inl (w64 (s1+1)))) <|
some (.inr (.inr ()))
def i5 (a0:List Int):Option (Bool):=
(aC (iL a0) 0).bind λy1 =>
iI y1 (λo3=>some o3) (λo4 =>
some (decide ((a0.length:Int)<=3)))
def kt (a0:Int):Option (Bool):=
some ((decide (a0>=1))&&(decide (a0<=12)))
def gW (k:Nat) (gX:Expr->Int->Option (Bool)) (a0:Expr) (a1:Int):Option (Bool):=
sel (a0.Op==0) (some ((((decide (a0.N>=0))&&(decide (a0.N<=99999)))&&((a0.Args.length:Int)==0))&&(decide (a1>0)))) <|
sel (a0.Op==13) (some ((((decide (a0.N>=0))&&(decide (a0.N<4)))&&((a0.Args.length:Int)==0))&&(decide (a1>0)))) <|
(kt a0.Op).bind λy1 =>
(sel (((y1&&(a0.N==0))&&((a0.Args.length:Int)==2))&&(decide (a1>1))) ((nth a0.Args 0).bind λx1=>(gX (Expr.mk x1.Op x1.N x1.Args) (w64 (a1-1))).bind λy2=>some y2) (some false):Option (Bool)).bind λb1 =>
(sel b1 ((nth a0.Args 1).bind λx2=>(gX (Expr.mk x2.Op x2.N x2.Args) (w64 (a1-1))).bind λy3=>some y3) (some false):Option (Bool)).bind λb2 =>
some b2
def oG:Nat->(Expr->Int->Option (Bool))
 | 0=>((λ_ _=>none))
 | k+1=>(gW k (oG k))
def jG (k:Nat):Expr->Int->Option (Bool):=(oG k)
def gY (k:Nat) (a0:Expr):Option (Bool):=
(jG k (Expr.mk a0.Op a0.N a0.Args) 5).bind λy1 =>
some y1
def dg (a0:Int) (a1:Int) (a2:Bool):Option (Bool):=
some ((a0==0)||((a2&&(decide (a0>0)))&&(decide (a0<a1))))
def jH (k:Nat) (a0:ae) (a1:Int):Option (Bool):=
(sel (a0.Kind==1) (some (.inl (rI.mk true false true false false))) <|
sel (a0.Kind==2) (some (.inl (rI.mk false false true true true))) <|
sel (a0.Kind==3) (some (.inl (rI.mk false false true true false))) <|
sel (a0.Kind==4) (some (.inl (rI.mk false true true false false))) <|
sel (a0.Kind==5) (some (.inl (rI.mk true true false false false))) <|
sel (a0.Kind==7) (some (.inl (rI.mk false false true false false))) <|
sel (a0.Kind==6) (some (.inl (rI.mk false false false false false))) <|
some (.inr false):Option (rI⊕Bool)).bind λy1 =>
iI y1 (λo3=>(dg a0.Var 4 o3.variable_).bind λy2 =>
(sel (!y2) (some true) ((dg a0.Box a1 o3.box).bind λb_1=>some (!b_1))).bind λb1 =>
sel (b1||(o3.box&&(decide (a0.Box>=a1)))) (some false) <|
(sel o3.expr ((gY k (Expr.mk a0.Expr.Op a0.Expr.N a0.Expr.Args)).bind λy4=>some (!y4)) (some false):Option (Bool)).bind λb2 =>
sel (b2||((!o3.expr)&&(((a0.Expr.Op !=0)||(a0.Expr.N !=0))||(decide ((a0.Expr.Args.length:Int)>0))))) (some false) <|
some ((o3.body||((a0.Body.length:Int)==0))&&(o3.other||((a0.Else.length:Int)==0)))) (λo4 =>
some o4)
def iM (a0:List ae) (a1:Int) (a2:Int) (cR:List ae->Int->Int->Int->Option (Bool×Int)) (k:Nat) (s1:Int×Int):Option ((Int×Int)⊕((Bool×Int)⊕Int)):=
sel (decide (s1.1<(a0.length:Int))) (((nth a0 s1.1).bind λx1 =>
(jH k (ae.mk x1.Kind x1.Var x1.Box (Expr.mk x1.Expr.Op x1.Expr.N x1.Expr.Args) x1.Body x1.Else) a1).bind λy5 =>
sel ((!y5)||(decide (a2>3))) (some (.inr (false,s1.2))) <|
sel ((x1.Kind !=2)&&(x1.Kind !=3)) (some (.inl s1.2)) <|
(sel (decide (a2>=3)) (some (true,s1.2)) ((cR x1.Body a1 (w64 (a2+1)) s1.2).bind λy6=>some (!y6.1,y6.2)):Option (Bool×Int)).bind λb1 =>
(sel b1.1 (some (true,b1.2)) ((cR x1.Else a1 (w64 (a2+1)) b1.2).bind λy7=>some (!y7.1,y7.2)):Option (Bool×Int)).bind λb2 =>
sel b2.1 (some (.inr (false,b2.2))) <|
some (.inl b2.2):Option (Int⊕(Bool×Int))).bind λy4 =>
iI y4 (λo5=>some (.inl (w64 (s1.1+1),o5))) (λo6 =>
some (.inr (.inl o6)))) <|
some (.inr (.inr s1.2))
def f6 (k:Nat) (cR:List ae->Int->Int->Int->Option (Bool×Int)) (a0:List ae) (a1:Int) (a2:Int) (a3:Int):Option (Bool×Int):=
sel (decide ((w64 (a3+(a0.length:Int)))>16)) (some (false,w64 (a3+(a0.length:Int)))) <|
(aC (iM a0 a1 a2 cR k) (0,w64 (a3+(a0.length:Int)))).bind λy1 =>
iI y1 (λo7=>some o7) (λo8 =>
some (true,o8))
def n3:Nat->(List ae->Int->Int->Int->Option (Bool×Int))
 | 0=>((λ_ _ _ _=>none))
 | k+1=>(f6 k (n3 k))
def fO (k:Nat):List ae->Int->Int->Int->Option (Bool×Int):=(n3 k)
def i6 (k:Nat) (a0:List ae) (a1:Int):Option (Bool):=
(fO k a0 a1 0 0).bind λy1 =>
some y1.1
def f7 (a0:aF) (k:Nat) (s1:Int):Option (Int⊕(Bool⊕Unit)):=
sel (decide (s1<(a0.Tasks.length:Int))) ((nth a0.Tasks s1).bind λx1 =>
(i6 k x1 (a0.Rooms.length:Int)).bind λy5 =>
sel (!y5) (some (.inr (.inl false))) <|
some (.inl (w64 (s1+1)))) <|
some (.inr (.inr ()))
def f9 (k:Nat) (a0:aF):Option (Bool):=
(i5 a0.Rooms).bind λy1 =>
sel (((!y1)||(decide ((a0.Tasks.length:Int)<1)))||(decide ((a0.Tasks.length:Int)>3))) (some false) <|
(aC (f7 a0 k) 0).bind λy2 =>
iI y2 (λo3=>some o3) (λo4 =>
some true)
def fj (k:Nat) (fk:Expr->Int->List ab->Option ((List ab))) (a0:Expr) (a1:Int) (a2:List ab):Option ((List ab)):=
sel (a0.Op==0) ((app 40 a2 [(ab.mk 1 a1 0 0 a0.N)]).bind λr1 =>
some r1) <|
sel (a0.Op==13) ((app 40 a2 [(ab.mk 2 a1 a0.N 0 0)]).bind λr2 =>
some r2) <|
(nth a0.Args 0).bind λx1 =>
(fk (Expr.mk x1.Op x1.N x1.Args) a1 a2).bind λy1 =>
(nth a0.Args 1).bind λx2 =>
(fk (Expr.mk x2.Op x2.N x2.Args) (w64 (a1+1)) y1).bind λy2 =>
(app 40 y2 [(ab.mk 3 a1 a1 (w64 (a1+1)) a0.Op)]).bind λr3 =>
some r3
def ny:Nat->(Expr->Int->List ab->Option ((List ab)))
 | 0=>((λ_ _ _=>none))
 | k+1=>(fj k (ny k))
def eV (k:Nat):Expr->Int->List ab->Option ((List ab)):=(ny k)
def jI (a0:List ae) (bw:ae->List ab->Option ((List ab))) (s1:(List ab)×Int):Option (((List ab)×Int)⊕((List ab))):=
sel (decide (s1.2<(a0.length:Int))) ((nth a0 s1.2).bind λx1 =>
(bw (ae.mk x1.Kind x1.Var x1.Box (Expr.mk x1.Expr.Op x1.Expr.N x1.Expr.Args) x1.Body x1.Else) s1.1).bind λy4 =>
some (.inl (y4,w64 (s1.2+1)))) <|
some (.inr s1.1)
def d9 (k:Nat) (bB:List ae->List ab->Option ((List ab))) (bw:ae->List ab->Option ((List ab))) (a0:List ae) (a1:List ab):Option ((List ab)):=
(aC (jI a0 bw) (a1,0)).bind λy1 =>
some y1
def cB (k:Nat) (bB:List ae->List ab->Option ((List ab))) (bw:ae->List ab->Option ((List ab))) (a0:ae) (a1:List ab):Option ((List ab)):=
(sel ((a0.Kind !=5)&&(a0.Kind !=6)) ((eV k (Expr.mk a0.Expr.Op a0.Expr.N a0.Expr.Args) 4 a1).bind λy2 =>
some y2) <|
some a1:Option ((List ab))).bind λy1 =>
sel (a0.Kind==1) ((app 40 y1 [(ab.mk 2 a0.Var 4 0 0)]).bind λr1 =>
some r1) <|
sel (a0.Kind==4) ((app 40 y1 [(ab.mk 6 0 4 0 a0.Box)]).bind λr2 =>
some r2) <|
sel (a0.Kind==5) ((app 40 y1 [(ab.mk 7 a0.Var 0 0 a0.Box)]).bind λr3 =>
some r3) <|
sel (a0.Kind==6) ((app 40 y1 [(ab.mk 8 0 0 0 0)]).bind λr4 =>
some r4) <|
sel (a0.Kind==7) ((app 40 y1 [(ab.mk 9 0 4 0 0)]).bind λr5 =>
some r5) <|
(app 40 y1 [(ab.mk 5 0 4 0 0)]).bind λr6 =>
(bB a0.Body r6).bind λy3 =>
(sel (a0.Kind==3) ((app 40 y3 [(ab.mk 4 0 0 0 (a1.length:Int))]).bind λr7 =>
some r7) <|
some y3:Option ((List ab))).bind λy4 =>
(sel (decide ((a0.Else.length:Int)>0)) ((app 40 y4 [(ab.mk 4 0 0 0 0)]).bind λr8 =>
some r8) <|
some y4:Option ((List ab))).bind λy5 =>
(nth y5 (y1.length:Int)).bind λx1 =>
(upd y5 (y1.length:Int) (ab.mk x1.Op x1.Dst x1.A x1.B (y5.length:Int))).bind λr9 =>
sel (decide ((a0.Else.length:Int)>0)) ((bB a0.Else r9).bind λy6 =>
(nth y6 (y4.length:Int)).bind λx2 =>
(upd y6 (y4.length:Int) (ab.mk x2.Op x2.Dst x2.A x2.B (y6.length:Int))).bind λr10 =>
some r10) <|
some r9
def cj:Nat->(List ae->List ab->Option ((List ab)))×(ae->List ab->Option ((List ab)))
 | 0=>((λ_ _=>none),(λ_ _=>none))
 | k+1=>(d9 k (cj k).1 (cj k).2,cB k (cj k).1 (cj k).2)
def cf (k:Nat):List ae->List ab->Option ((List ab)):=(cj k).1
def eW (k:Nat):ae->List ab->Option ((List ab)):=(cj k).2
def gZ (k:Nat) (a0:List ae):Option ((List ab)):=
(cf k a0 []).bind λy1 =>
(app 40 y1 [(ab.mk 10 0 0 0 0)]).bind λr1 =>
some r1
def eC (a0:aF) (k:Nat) (s1:(List (List ab))×Int):Option (((List (List ab))×Int)⊕((List (List ab)))):=
sel (decide (s1.2<(a0.Tasks.length:Int))) ((nth a0.Tasks s1.2).bind λx1 =>
(gZ k x1).bind λy5 =>
(app 24 s1.1 [y5]).bind λr1 =>
some (.inl (r1,w64 (s1.2+1)))) <|
some (.inr s1.1)
def c7 (k:Nat) (a0:aF):Option ((List (List ab))×Bool):=
(f9 k (aF.mk a0.Rooms a0.Tasks)).bind λy1 =>
sel (!y1) (some ([],false)) <|
(aC (eC a0 k) ([],0)).bind λy2 =>
some (y2,true)
def l9 (a0:Int):Option (Bool):=
some ((decide (a0>=0))&&(decide (a0<12)))
def g7 (a0:Int):Option (Bool):=
some ((decide (a0>=(-2147483648)))&&(decide (a0<=2147483647)))
def jJ (a0:ab) (a1:Int):Option (Bool):=
(l9 a0.Dst).bind λy1 =>
(l9 a0.A).bind λy2 =>
(l9 a0.B).bind λy3 =>
sel (a0.Op==1) ((sel (((a0.Op==1)&&((a0.Dst==a0.Dst)&&((a0.A==0)&&((a0.B==0)&&((a0.N==a0.N)&&true)))))&&y1) ((g7 a0.N).bind λy4=>some y4) (some false):Option (Bool)).bind λb1 =>
some b1) <|
sel (a0.Op==2) (some ((((a0.Op==2)&&((a0.Dst==a0.Dst)&&((a0.A==a0.A)&&((a0.B==0)&&((a0.N==0)&&true)))))&&y1)&&y2)) <|
sel (a0.Op==3) ((sel ((y1&&y2)&&y3) ((kt a0.N).bind λy5=>some y5) (some false):Option (Bool)).bind λb2 =>
some b2) <|
sel (a0.Op==4) (some ((((a0.Op==4)&&((a0.Dst==0)&&((a0.A==0)&&((a0.B==0)&&((a0.N==a0.N)&&true)))))&&(decide (a0.N>=0)))&&(decide (a0.N<a1)))) <|
sel (a0.Op==5) (some (((((a0.Op==5)&&((a0.Dst==0)&&((a0.A==a0.A)&&((a0.B==0)&&((a0.N==a0.N)&&true)))))&&y2)&&(decide (a0.N>=0)))&&(decide (a0.N<a1)))) <|
sel (a0.Op==6) (some (((((a0.Op==6)&&((a0.Dst==0)&&((a0.A==a0.A)&&((a0.B==0)&&((a0.N==a0.N)&&true)))))&&y2)&&(decide (a0.N>=0)))&&(decide (a0.N<3)))) <|
sel (a0.Op==7) (some (((((a0.Op==7)&&((a0.Dst==a0.Dst)&&((a0.A==0)&&((a0.B==0)&&((a0.N==a0.N)&&true)))))&&y1)&&(decide (a0.N>=0)))&&(decide (a0.N<3)))) <|
sel (a0.Op==9) (some (((a0.Op==9)&&((a0.Dst==0)&&((a0.A==a0.A)&&((a0.B==0)&&((a0.N==0)&&true)))))&&y2)) <|
(sel (a0.Op==8) (some (a0.Op==8)) <|
some (a0.Op==10):Option (Bool)).bind λy6 =>
sel y6 (some ((a0.Op==a0.Op)&&((a0.Dst==0)&&((a0.A==0)&&((a0.B==0)&&((a0.N==0)&&true)))))) <|
some false
def mp (a0:List ab) (s1:Int):Option (Int⊕(Bool⊕Unit)):=
sel (decide (s1<(a0.length:Int))) ((nth a0 s1).bind λx1 =>
(jJ x1 (a0.length:Int)).bind λy4 =>
sel (!y4) (some (.inr (.inl false))) <|
some (.inl (w64 (s1+1)))) <|
some (.inr (.inr ()))
def bg (a0:List ab):Option (Bool):=
sel ((decide ((a0.length:Int)<1))||(decide ((a0.length:Int)>600))) (some false) <|
(aC (mp a0) 0).bind λy1 =>
iI y1 (λo3=>some o3) (λo4 =>
(nth a0 (w64 ((a0.length:Int)-1))).bind λx2 =>
some ((x2.Op==10)||(x2.Op==4)))
def aD (a0:List ab):Option ((List ab)):=
(app 40 [] a0).bind λr1 =>
some r1
def eM (a0:ab):Option (Int):=
(sel (a0.Op==1) (some (a0.Op==1)) <|
sel (a0.Op==2) (some (a0.Op==2)) <|
sel (a0.Op==3) (some (a0.Op==3)) <|
some (a0.Op==7):Option (Bool)).bind λy1 =>
sel y1 (some a0.Dst) <|
some (-1)
def eX (a0:Int):Option (Int):=
some (w64 (nY .i32 (a0)))
def m4 (a0:Bool):Option (Int):=
sel a0 (some 1) <|
some 0
def jK (a0:Int) (a1:Int) (a2:Int):Option (Int):=
sel (a0==1) (some (br .or .i64 a1 a2)) <|
sel (a0==2) (some (br .xor .i64 a1 a2)) <|
sel (a0==3) (some (br .and .i64 a1 a2)) <|
sel (a0==4) ((m4 (a1==a2)).bind λy1 =>
some y1) <|
sel (a0==5) ((m4 (decide (a1<a2))).bind λy2 =>
some y2) <|
sel (a0==6) ((shO .shl .i64 a1 (br .and .i64 a2 31)).bind λd1 =>
(eX d1).bind λy3 =>
some y3) <|
sel (a0==7) ((shO .shr .i64 a1 (br .and .i64 a2 31)).bind λd2 =>
some d2) <|
sel (a0==8) ((eX (w64 (a1+a2))).bind λy4 =>
some y4) <|
sel (a0==9) ((eX (w64 (a1-a2))).bind λy5 =>
some y5) <|
sel (a0==10) ((eX (w64 (a1*a2))).bind λy6 =>
some y6) <|
sel (a0==11) (sel (a2==0) (some (-1)) <|
(uy .i64 a1 a2).bind λd3 =>
(eX d3).bind λy7 =>
some y7) <|
sel (a2==0) (some a1) <|
(sI a1 a2).bind λd4 =>
some d4
def ga (a0:Ar ai) (a1:ab):Option ((Ar ai)):=
(eM a1).bind λy1 =>
sel (decide (y1<0)) (some a0) <|
(sel (a1.Op==1) (some (ai.mk 1 a1.N)) <|
sel (a1.Op==2) ((cH 12 a0 a1.A).bind λx1 =>
some x1) <|
sel (a1.Op==3) ((cH 12 a0 a1.A).bind λx2 =>
(sel (x2.Kind==1) ((cH 12 a0 a1.B).bind λx3=>some (x3.Kind==1)) (some false):Option (Bool)).bind λb1 =>
sel b1 ((cH 12 a0 a1.A).bind λx4 =>
(cH 12 a0 a1.B).bind λx5 =>
(jK a1.N x4.N x5.N).bind λy3 =>
some (ai.mk 1 y3)) <|
some (ai.mk 2 0)) <|
some (ai.mk 2 0):Option (ai)).bind λy2 =>
(cH 12 a0 y1).bind λx6 =>
some (nw a0 y1 y2)
def iE (a0:ab) (a1:Int):Option ((List Int)):=
sel (a0.Op==10) (some []) <|
sel (a0.Op==4) (some [a0.N]) <|
sel ((a0.Op==5)&&(decide (a0.N<(w64 (a1+1))))) (some [a0.N,w64 (a1+1)]) <|
sel ((a0.Op==5)&&(decide (a0.N>(w64 (a1+1))))) (some [w64 (a1+1),a0.N]) <|
some [w64 (a1+1)]
def mq (a0:ab) (a1:Int) (a2:Ar ai):Option ((List Int)):=
(sel (a0.Op==5) ((cH 12 a2 a0.A).bind λx1=>some (x1.Kind==1)) (some false):Option (Bool)).bind λb1 =>
sel b1 ((cH 12 a2 a0.A).bind λx2 =>
sel (x2.N==0) (some [a0.N]) <|
some [w64 (a1+1)]) <|
(iE a0 a1).bind λy1 =>
some y1
def jL (a0:ai) (a1:ai):Option (ai):=
sel ((a0.Kind==0)||((a0.Kind==a1.Kind)&&((a0.N==a1.N)&&true))) (some a1) <|
sel (a1.Kind==0) (some a0) <|
some (ai.mk 2 0)
def kY (s1:Int×(List (Ar ai))):Option ((Int×(List (Ar ai)))⊕((List (Ar ai)))):=
sel (decide (s1.1<12)) ((nth s1.2 0).bind λx1 =>
(cH 12 x1 s1.1).bind λx2 =>
(upd s1.2 0 (nw x1 s1.1 (ai.mk 1 0))).bind λr2 =>
some (.inl (w64 (s1.1+1),r2))) <|
some (.inr s1.2)
def gb (y7:(Ar ai)) (s4:Int×(Ar ai)):Option ((Int×(Ar ai))⊕((Ar ai))):=
sel (decide (s4.1<12)) ((cH 12 s4.2 s4.1).bind λx10 =>
(cH 12 y7 s4.1).bind λx11 =>
(jL x10 x11).bind λy16 =>
(cH 12 s4.2 s4.1).bind λx12 =>
some (.inl (w64 (s4.1+1),(nw s4.2 s4.1 y16)))) <|
some (.inr s4.2)
def gc (y7:(Ar ai)) (y8:(List Int)) (s3:(List Int)×Int×(List (Ar ai))):Option (((List Int)×Int×(List (Ar ai)))⊕((List Int)×(List (Ar ai)))):=
sel (decide (s3.2.1<(y8.length:Int))) (((nth y8 s3.2.1).bind λx8 =>
(nth s3.2.2 x8).bind λx9 =>
(aC (gb y7) (0,x9)).bind λy13 =>
(nth s3.2.2 x8).bind λx13 =>
sel (!(aeq 12 (λx y:ai=>(x.Kind==y.Kind&&(x.N==y.N&&true))) y13 x13)) ((nth s3.2.2 x8).bind λx14 =>
(upd s3.2.2 x8 y13).bind λr4 =>
(app 8 s3.1 [x8]).bind λr5 =>
some (r5,r4)) <|
some (s3.1,s3.2.2):Option ((List Int)×(List (Ar ai)))).bind λy12 =>
some (.inl (y12.1,w64 (s3.2.1+1),y12.2))) <|
some (.inr (s3.1,s3.2.2))
def jM (a0:List ab) (s2:(List Int)×(List (Ar ai))):Option (((List Int)×(List (Ar ai)))⊕((List (Ar ai)))):=
sel (decide ((s2.1.length:Int)>0)) ((nth s2.1 (w64 ((s2.1.length:Int)-1))).bind λx3 =>
(cut s2.1 0 (w64 ((s2.1.length:Int)-1))).bind λr3 =>
(nth s2.2 x3).bind λx4 =>
(nth a0 x3).bind λx5 =>
(ga x4 x5).bind λy7 =>
(nth a0 x3).bind λx6 =>
(nth s2.2 x3).bind λx7 =>
(mq x6 x3 x7).bind λy8 =>
(aC (gc y7 y8) (r3,0,s2.2)).bind λy9 =>
some (.inl (y9.1,y9.2))) <|
some (.inr s2.2)
def eY (a0:List ab):Option ((List (Ar ai))):=
(mk 192 (a0.length:Int) (λ_=>(ai.mk 0 0))).bind λr1 =>
(aC (kY) (0,r1)).bind λy1 =>
(aC (jM a0) ([0],y1)).bind λy4 =>
some y4
def bZ (a0:ai) (a1:Int):Option (Bool):=
some ((a0.Kind==1)&&(a0.N==a1))
def cT (a0:Int) (a1:ab):Option (ab):=
some (ab.mk 2 a1.Dst a0 0 0)
def mr (a0:ab) (a1:ai) (a2:ai):Option (ab):=
sel ((a1.Kind==1)&&(a2.Kind==1)) ((jK a0.N a1.N a2.N).bind λy1 =>
some (ab.mk 1 a0.Dst 0 0 y1)) <|
((sel (a0.N==1) (some (a0.N==1)) <|
sel (a0.N==2) (some (a0.N==2)) <|
some (a0.N==8):Option (Bool)).bind λy3 =>
sel y3 ((bZ a2 0).bind λy4 =>
sel y4 ((cT a0.A a0).bind λy5 =>
some (.inr y5)) <|
(bZ a1 0).bind λy6 =>
sel y6 ((cT a0.B a0).bind λy7 =>
some (.inr y7)) <|
some (.inl ())) <|
(sel (a0.N==6) (some (a0.N==6)) <|
sel (a0.N==7) (some (a0.N==7)) <|
some (a0.N==9):Option (Bool)).bind λy8 =>
sel y8 ((bZ a2 0).bind λy9 =>
sel y9 ((cT a0.A a0).bind λy10 =>
some (.inr y10)) <|
some (.inl ())) <|
sel (a0.N==10) ((bZ a2 1).bind λy11 =>
sel y11 ((cT a0.A a0).bind λy12 =>
some (.inr y12)) <|
(bZ a1 1).bind λy13 =>
sel y13 ((cT a0.B a0).bind λy14 =>
some (.inr y14)) <|
some (.inl ())) <|
sel (a0.N==11) ((bZ a2 1).bind λy15 =>
sel y15 ((cT a0.A a0).bind λy16 =>
some (.inr y16)) <|
some (.inl ())) <|
some (.inl ()):Option (Unit⊕ab)).bind λy2 =>
iI y2 (λo3=>(sel ((a0.N==3)||(a0.N==10)) ((bZ a1 0).bind λy17=>(sel y17 (some true) ((bZ a2 0).bind λy18=>some y18):Option (Bool)).bind λb2=>some b2) (some false):Option (Bool)).bind λb1 =>
sel b1 (some (ab.mk 1 a0.Dst 0 0 0)) <|
some a0) (λo4 =>
some o4)
def k9 (a0:ab) (a1:Int) (a2:Ar ai):Option (ab):=
(sel (a0.Op==2) ((cH 12 a2 a0.A).bind λx1=>some (x1.Kind==1)) (some false):Option (Bool)).bind λb1 =>
sel b1 ((cH 12 a2 a0.A).bind λx2 =>
some (ab.mk 1 a0.Dst 0 0 x2.N)) <|
sel (a0.Op==3) ((cH 12 a2 a0.A).bind λx3 =>
(cH 12 a2 a0.B).bind λx4 =>
(mr a0 x3 x4).bind λy1 =>
some y1) <|
(sel (a0.Op==5) ((cH 12 a2 a0.A).bind λx5=>(bZ x5 0).bind λy2=>some y2) (some false):Option (Bool)).bind λb2 =>
sel b2 (some (ab.mk 4 0 0 0 a0.N)) <|
(sel (a0.Op==5) ((cH 12 a2 a0.A).bind λx6=>some (x6.Kind==1)) (some false):Option (Bool)).bind λb3 =>
sel b3 (some (ab.mk 4 0 0 0 (w64 (a1+1)))) <|
some a0
def g8 (a0:List ab) (y3:(List (Ar ai))) (s1:Int×(List ab)):Option ((Int×(List ab))⊕((List ab))):=
sel (decide (s1.1<(y3.length:Int))) (((nth y3 s1.1).bind λx1 =>
(cH 12 x1 0).bind λx2 =>
sel (x2.Kind !=0) ((nth a0 s1.1).bind λx3 =>
(k9 x3 s1.1 x1).bind λy8 =>
(nth s1.2 s1.1).bind λx4 =>
(upd s1.2 s1.1 y8).bind λr1 =>
some r1) <|
some s1.2:Option ((List ab))).bind λy7 =>
some (.inl (w64 (s1.1+1),y7))) <|
some (.inr s1.2)
def la (a0:List ab):Option ((List ab)×Bool):=
(bg a0).bind λy1 =>
sel (!y1) (some ([],false)) <|
(aD a0).bind λy2 =>
(eY a0).bind λy3 =>
(aC (g8 a0 y3) (0,y2)).bind λy4 =>
some (y4,true)
def m5 (s1:Int×(Ar Int)):Option ((Int×(Ar Int))⊕((Ar Int))):=
sel (decide (s1.1<12)) ((cH 12 s1.2 s1.1).bind λx1 =>
some (.inl (w64 (s1.1+1),(nw s1.2 s1.1 s1.1)))) <|
some (.inr s1.2)
def lc:Option ((Ar Int)):=
(aC (m5) (0,(λ_=>0))).bind λy1 =>
some y1
def jo (y1:Int) (s1:Int×(Ar Int)):Option ((Int×(Ar Int))⊕((Ar Int))):=
sel (decide (s1.1<12)) (((sel (s1.1==y1) (some true) ((cH 12 s1.2 s1.1).bind λx1=>some (x1==y1)):Option (Bool)).bind λb1 =>
sel b1 ((cH 12 s1.2 s1.1).bind λx2 =>
some (nw s1.2 s1.1 s1.1)) <|
some s1.2:Option ((Ar Int))).bind λy5 =>
some (.inl (w64 (s1.1+1),y5))) <|
some (.inr s1.2)
def fp (a0:Ar Int) (a1:ab):Option ((Ar Int)):=
(eM a1).bind λy1 =>
sel (decide (y1<0)) (some a0) <|
(aC (jo y1) (0,a0)).bind λy2 =>
sel (a1.Op==2) ((cH 12 y2 y1).bind λx3 =>
some (nw y2 y1 a1.A)) <|
some y2
def kZ (a1:Ar Int) (s1:Int×(Ar Int)):Option ((Int×(Ar Int))⊕((Ar Int))):=
sel (decide (s1.1<12)) (((cH 12 s1.2 s1.1).bind λx1 =>
(cH 12 a1 s1.1).bind λx2 =>
sel (x1 !=x2) ((cH 12 s1.2 s1.1).bind λx3 =>
some (nw s1.2 s1.1 s1.1)) <|
some s1.2:Option ((Ar Int))).bind λy4 =>
some (.inl (w64 (s1.1+1),y4))) <|
some (.inr s1.2)
def g9 (a0:Ar Int) (a1:Ar Int):Option ((Ar Int)):=
(aC (kZ a1) (0,a0)).bind λy1 =>
some y1
def jN (r1:List (Ar Int)) (s1:Int×(List (Ar Int))):Option ((Int×(List (Ar Int)))⊕((List (Ar Int)))):=
sel (decide (s1.1<(r1.length:Int))) ((lc).bind λy4 =>
(nth s1.2 s1.1).bind λx1 =>
(upd s1.2 s1.1 y4).bind λr3 =>
some (.inl (w64 (s1.1+1),r3))) <|
some (.inr s1.2)
def gf (y8:(Ar Int)) (y9:(List Int)) (s3:(List Int)×Int×(List Bool)×(List (Ar Int))):Option (((List Int)×Int×(List Bool)×(List (Ar Int)))⊕((List Int)×(List Bool)×(List (Ar Int)))):=
sel (decide (s3.2.1<(y9.length:Int))) (((nth y9 s3.2.1).bind λx7 =>
((nth s3.2.2.1 x7).bind λx8 =>
sel x8 ((nth s3.2.2.2 x7).bind λx9 =>
(g9 x9 y8).bind λy15 =>
some y15) <|
some y8:Option ((Ar Int))).bind λy14 =>
(nth s3.2.2.1 x7).bind λx10 =>
(sel (!x10) (some true) ((nth s3.2.2.2 x7).bind λb_1=>some (!(aeq 12 (λ(x y:Int)=>x==y) y14 b_1)))).bind λb1 =>
sel b1 ((nth s3.2.2.1 x7).bind λx12 =>
(upd s3.2.2.1 x7 true).bind λr6 =>
(nth s3.2.2.2 x7).bind λx13 =>
(upd s3.2.2.2 x7 y14).bind λr7 =>
(app 8 s3.1 [x7]).bind λr8 =>
some (r8,r6,r7)) <|
some (s3.1,s3.2.2.1,s3.2.2.2):Option ((List Int)×(List Bool)×(List (Ar Int)))).bind λy13 =>
some (.inl (y13.1,w64 (s3.2.1+1),y13.2.1,y13.2.2))) <|
some (.inr (s3.1,s3.2.2.1,s3.2.2.2))
def jO (a0:List ab) (s2:(List Int)×(List Bool)×(List (Ar Int))):Option (((List Int)×(List Bool)×(List (Ar Int)))⊕((List Bool)×(List (Ar Int)))):=
sel (decide ((s2.1.length:Int)>0)) ((nth s2.1 (w64 ((s2.1.length:Int)-1))).bind λx3 =>
(cut s2.1 0 (w64 ((s2.1.length:Int)-1))).bind λr5 =>
(nth s2.2.2 x3).bind λx4 =>
(nth a0 x3).bind λx5 =>
(fp x4 x5).bind λy8 =>
(nth a0 x3).bind λx6 =>
(iE x6 x3).bind λy9 =>
(aC (gf y8 y9) (r5,0,s2.2.1,s2.2.2)).bind λy10 =>
some (.inl (y10.1,y10.2.1,y10.2.2))) <|
some (.inr (s2.2.1,s2.2.2))
def dQ (a0:List ab):Option ((List (Ar Int))):=
(mk 96 (a0.length:Int) (λ_=>0)).bind λr1 =>
(mk 1 (a0.length:Int) false).bind λr2 =>
(aC (jN r1) (0,r1)).bind λy1 =>
(nth r2 0).bind λx2 =>
(upd r2 0 true).bind λr4 =>
(aC (jO a0) ([0],r4,y1)).bind λy5 =>
some y5.2
def jP (a0:ab):Option (Int):=
(sel (a0.Op==2) (some (a0.Op==2)) <|
sel (a0.Op==5) (some (a0.Op==5)) <|
sel (a0.Op==6) (some (a0.Op==6)) <|
some (a0.Op==9):Option (Bool)).bind λy1 =>
sel y1 ((shO .shl .u16 1 a0.A).bind λd1 =>
some d1) <|
sel (a0.Op==3) ((shO .shl .u16 1 a0.A).bind λd2 =>
(shO .shl .u16 1 a0.B).bind λd3 =>
some (br .or .u16 d2 d3)) <|
some 0
def hU (a0:List ab) (y3:(List (Ar Int))) (s1:Int×(List ab)):Option ((Int×(List ab))⊕((List ab))):=
sel (decide (s1.1<(y3.length:Int))) (((nth y3 s1.1).bind λx1 =>
(nth a0 s1.1).bind λx2 =>
(jP x2).bind λy8 =>
(sel (y8 !=0) ((nth a0 s1.1).bind λx3 =>
(cH 12 x1 x3.A).bind λx4 =>
(nth s1.2 s1.1).bind λx5 =>
(upd s1.2 s1.1 (ab.mk x5.Op x5.Dst x4 x5.B x5.N)).bind λr1 =>
some r1) <|
some s1.2:Option ((List ab))).bind λy9 =>
(nth a0 s1.1).bind λx6 =>
sel (x6.Op==3) ((nth a0 s1.1).bind λx7 =>
(cH 12 x1 x7.B).bind λx8 =>
(nth y9 s1.1).bind λx9 =>
(upd y9 s1.1 (ab.mk x9.Op x9.Dst x9.A x8 x9.N)).bind λr2 =>
some r2) <|
some y9:Option ((List ab))).bind λy7 =>
some (.inl (w64 (s1.1+1),y7))) <|
some (.inr s1.2)
def lf (a0:List ab):Option ((List ab)×Bool):=
(bg a0).bind λy1 =>
sel (!y1) (some ([],false)) <|
(aD a0).bind λy2 =>
(dQ a0).bind λy3 =>
(aC (hU a0 y3) (0,y2)).bind λy4 =>
some (y4,true)
def cn (a0:ab):Option (Bool):=
some ((a0.Op==4)||(a0.Op==5))
def oH (a0:List ab) (s1:Int×Int):Option ((Int×Int)⊕(Int⊕Unit)):=
sel (decide (s1.2<(a0.length:Int))) ((nth a0 s1.1).bind λx1 =>
sel (x1.Op !=4) (some (.inr (.inl s1.1))) <|
(nth a0 s1.1).bind λx2 =>
some (.inl (x2.N,w64 (s1.2+1)))) <|
some (.inr (.inr ()))
def lO (a0:List ab) (a1:Int):Option (Int):=
(aC (oH a0) (a1,0)).bind λy1 =>
iI y1 (λo3=>some o3) (λo4 =>
some a1)
def hY (a0:List ab) (s1:Int×(List ab)):Option ((Int×(List ab))⊕((List ab))):=
sel (decide (s1.1<(a0.length:Int))) (((nth a0 s1.1).bind λx1 =>
(cn x1).bind λy7 =>
sel y7 ((lO a0 x1.N).bind λy8 =>
(nth s1.2 s1.1).bind λx2 =>
(upd s1.2 s1.1 (ab.mk x2.Op x2.Dst x2.A x2.B y8)).bind λr1 =>
some r1) <|
some s1.2:Option ((List ab))).bind λy6 =>
some (.inl (w64 (s1.1+1),y6))) <|
some (.inr s1.2)
def lh (a0:List ab):Option ((List ab)×Bool):=
(bg a0).bind λy1 =>
sel (!y1) (some ([],false)) <|
(aD a0).bind λy2 =>
(aC (hY a0) (0,y2)).bind λy3 =>
some (y3,true)
def db (a0:Int) (a1:Int):Option (Bool):=
(shO .shr .u16 a0 a1).bind λd1 =>
some ((br .and .u16 d1 1)==1)
def ma (a1:List Int) (y1:(List Int)) (s1:Int×Int):Option ((Int×Int)⊕Int):=
sel (decide (s1.2<(y1.length:Int))) ((nth y1 s1.2).bind λx2 =>
(nth a1 x2).bind λx3 =>
some (.inl (br .or .u16 s1.1 x3,w64 (s1.2+1)))) <|
some (.inr s1.1)
def dW (a0:List ab) (a1:List Int) (a2:Int):Option (Int):=
(nth a0 a2).bind λx1 =>
(iE x1 a2).bind λy1 =>
(aC (ma a1 y1) (0,0)).bind λy2 =>
some y2
def dh (a0:List ab) (s2:Bool×Int×(List Int)):Option ((Bool×Int×(List Int))⊕(Bool×(List Int))):=
sel (decide (s2.2.1>=0)) (((dW a0 s2.2.2 s2.2.1).bind λy8 =>
((nth a0 s2.2.1).bind λx1 =>
(eM x1).bind λy10 =>
sel (decide (y10>=0)) ((shO .shl .u16 1 y10).bind λd1 =>
some (br .andNot .u16 y8 d1)) <|
some y8:Option (Int)).bind λy9 =>
(nth a0 s2.2.1).bind λx2 =>
(jP x2).bind λy11 =>
(nth s2.2.2 s2.2.1).bind λx3 =>
sel ((br .or .u16 y9 y11) !=x3) ((nth s2.2.2 s2.2.1).bind λx4 =>
(upd s2.2.2 s2.2.1 (br .or .u16 y9 y11)).bind λr2 =>
some (true,r2)) <|
some (s2.1,s2.2.2):Option (Bool×(List Int))).bind λy7 =>
some (.inl (y7.1,w64 (s2.2.1-1),y7.2))) <|
some (.inr (s2.1,s2.2.2))
def bJ (a0:List ab) (s1:Bool×(List Int)):Option ((Bool×(List Int))⊕((List Int))):=
sel s1.1 ((aC (dh a0) (false,w64 ((a0.length:Int)-1),s1.2)).bind λy4 =>
some (.inl (y4.1,y4.2))) <|
some (.inr s1.2)
def dX (a0:List ab):Option ((List Int)):=
(mk 2 (a0.length:Int) 0).bind λr1 =>
(aC (bJ a0) (true,r1)).bind λy1 =>
some y1
def jr (a0:List ab) (y1:(List Int)) (s1:(List Int)×Int):Option (((List Int)×Int)⊕((List Int))):=
sel (decide (s1.2<(a0.length:Int))) (((nth a0 s1.2).bind λx1 =>
(eM x1).bind λy6 =>
(sel ((decide (y6>=0))&&(x1.Op !=7)) ((dW a0 y1 s1.2).bind λy7=>(db y7 y6).bind λy8=>some (!y8)) (some false):Option (Bool)).bind λb1 =>
sel b1 ((app 8 s1.1 [s1.2]).bind λr1 =>
some r1) <|
some s1.1:Option ((List Int))).bind λy5 =>
some (.inl (y5,w64 (s1.2+1)))) <|
some (.inr s1.1)
def ms (a0:List ab):Option ((List Int)):=
(dX a0).bind λy1 =>
(aC (jr a0 y1) ([],0)).bind λy2 =>
some y2
def ku (y3:(List Int)) (s1:Int×(List ab)):Option ((Int×(List ab))⊕((List ab))):=
sel (decide (s1.1<(y3.length:Int))) ((nth y3 s1.1).bind λx1 =>
(nth s1.2 x1).bind λx2 =>
(upd s1.2 x1 (ab.mk 4 0 0 0 (w64 (x1+1)))).bind λr1 =>
some (.inl (w64 (s1.1+1),r1))) <|
some (.inr s1.2)
def lj (a0:List ab):Option ((List ab)×Bool):=
(bg a0).bind λy1 =>
sel (!y1) (some ([],false)) <|
(aD a0).bind λy2 =>
(ms a0).bind λy3 =>
(aC (ku y3) (0,y2)).bind λy4 =>
some (y4,true)
def mt (y5:(List Int)) (s2:(List Int)×Int×(List Bool)):Option (((List Int)×Int×(List Bool))⊕((List Int)×(List Bool))):=
sel (decide (s2.2.1<(y5.length:Int))) (((nth y5 s2.2.1).bind λx4 =>
(nth s2.2.2 x4).bind λx5 =>
sel (!x5) ((nth s2.2.2 x4).bind λx6 =>
(upd s2.2.2 x4 true).bind λr4 =>
(app 8 s2.1 [x4]).bind λr5 =>
some (r5,r4)) <|
some (s2.1,s2.2.2):Option ((List Int)×(List Bool))).bind λy9 =>
some (.inl (y9.1,w64 (s2.2.1+1),y9.2))) <|
some (.inr (s2.1,s2.2.2))
def mu (a0:List ab) (s1:(List Int)×(List Bool)):Option (((List Int)×(List Bool))⊕((List Bool))):=
sel (decide ((s1.1.length:Int)>0)) ((nth s1.1 (w64 ((s1.1.length:Int)-1))).bind λx2 =>
(cut s1.1 0 (w64 ((s1.1.length:Int)-1))).bind λr3 =>
(nth a0 x2).bind λx3 =>
(iE x3 x2).bind λy5 =>
(aC (mt y5) (r3,0,s1.2)).bind λy6 =>
some (.inl (y6.1,y6.2))) <|
some (.inr s1.2)
def hZ (a0:List ab):Option ((List Bool)):=
(bg a0).bind λy1 =>
sel (!y1) (some []) <|
(mk 1 (a0.length:Int) false).bind λr1 =>
(nth r1 0).bind λx1 =>
(upd r1 0 true).bind λr2 =>
(aC (mu a0) ([0],r2)).bind λy2 =>
some y2
def jQ (a0:ab) (a1:Int):Option (Bool):=
(cn a0).bind λy1 =>
some ((!(y1&&(a0.N==(w64 (a1+1)))))&&(!((a0.Op==2)&&(a0.Dst==a0.A))))
def gR (a0:List ab) (y2:(List Bool)) (s1:(List ab)×Int×(List Int)):Option (((List ab)×Int×(List Int))⊕((List ab)×(List Int))):=
sel (decide (s1.2.1<(y2.length:Int))) (((nth y2 s1.2.1).bind λx1 =>
(nth s1.2.2 s1.2.1).bind λx2 =>
(upd s1.2.2 s1.2.1 (s1.1.length:Int)).bind λr2 =>
(sel x1 ((nth a0 s1.2.1).bind λx3=>(jQ x3 s1.2.1).bind λy7=>some y7) (some false):Option (Bool)).bind λb1 =>
sel b1 ((nth a0 s1.2.1).bind λx4 =>
(app 40 s1.1 [x4]).bind λr3 =>
some (r3,r2)) <|
some (s1.1,r2):Option ((List ab)×(List Int))).bind λy6 =>
some (.inl (y6.1,w64 (s1.2.1+1),y6.2))) <|
some (.inr (s1.1,s1.2.2))
def ed (y3:(List ab)×(List Int)) (s2:Int×(List ab)):Option ((Int×(List ab))⊕((List ab))):=
sel (decide (s2.1<(y3.1.length:Int))) (((nth s2.2 s2.1).bind λx5 =>
(cn x5).bind λy12 =>
sel y12 ((nth y3.2 x5.N).bind λx6 =>
(nth s2.2 s2.1).bind λx7 =>
(upd s2.2 s2.1 (ab.mk x7.Op x7.Dst x7.A x7.B x6)).bind λr4 =>
some r4) <|
some s2.2:Option ((List ab))).bind λy11 =>
some (.inl (w64 (s2.1+1),y11))) <|
some (.inr s2.2)
def ia (a0:List ab):Option ((List ab)×Bool):=
(bg a0).bind λy1 =>
sel (!y1) (some ([],false)) <|
(mk 8 (a0.length:Int) 0).bind λr1 =>
(hZ a0).bind λy2 =>
(aC (gR a0 y2) ([],0,r1)).bind λy3 =>
(aC (ed y3) (0,y3.1)).bind λy8 =>
some (y8,true)
def bH (a1:Int) (s1:(List ab)×Int):Option (((List ab)×Int)⊕(((List ab)×Bool)⊕((List ab)))):=
sel (decide (s1.2<a1)) ((la s1.1).bind λy6 =>
sel (!y6.2) (some (.inr (.inl ([],false)))) <|
(lf y6.1).bind λy7 =>
sel (!y7.2) (some (.inr (.inl ([],false)))) <|
(lh y7.1).bind λy8 =>
sel (!y8.2) (some (.inr (.inl ([],false)))) <|
(lj y8.1).bind λy9 =>
sel (!y9.2) (some (.inr (.inl ([],false)))) <|
(ia y9.1).bind λy10 =>
sel (!y10.2) (some (.inr (.inl ([],false)))) <|
some (.inl (y10.1,w64 (s1.2+1)))) <|
some (.inr (.inr s1.1))
def bR (a0:List ab) (a1:Int):Option ((List ab)×Bool):=
(bg a0).bind λy1 =>
sel (((!y1)||(decide (a1<0)))||(decide (a1>4))) (some ([],false)) <|
(aD a0).bind λy2 =>
(aC (bH a1) (y2,0)).bind λy3 =>
iI y3 (λo3=>some o3) (λo4 =>
some (o4,true))
def c8 (a0:List (List ab)) (a1:Int) (s1:(List (List ab))×Int):Option (((List (List ab))×Int)⊕(((List (List ab))×Bool)⊕((List (List ab))))):=
sel (decide (s1.2<(a0.length:Int))) ((nth a0 s1.2).bind λx1 =>
(bR x1 a1).bind λy4 =>
sel (!y4.2) (some (.inr (.inl ([],false)))) <|
(app 24 s1.1 [y4.1]).bind λr1 =>
some (.inl (r1,w64 (s1.2+1)))) <|
some (.inr (.inr s1.1))
def di (a0:List (List ab)) (a1:Int):Option ((List (List ab))×Bool):=
sel ((decide ((a0.length:Int)<1))||(decide ((a0.length:Int)>3))) (some ([],false)) <|
(aC (c8 a0 a1) ([],0)).bind λy1 =>
iI y1 (λo3=>some o3) (λo4 =>
some (o4,true))
def k8 (a0:Int) (s1:(List Int)×Int):Option (((List Int)×Int)⊕((List Int))):=
sel (decide (s1.2<12)) (((db a0 s1.2).bind λy5 =>
sel y5 ((app 8 s1.1 [s1.2]).bind λr1 =>
some r1) <|
some s1.1:Option ((List Int))).bind λy4 =>
some (.inl (y4,w64 (s1.2+1)))) <|
some (.inr s1.1)
def ib (a0:Int):Option ((List Int)):=
(aC (k8 a0) ([],0)).bind λy1 =>
some y1
def kw (y6:Int) (y9:(List Int)) (s2:Int×(Ar Int)):Option ((Int×(Ar Int))⊕((Ar Int))):=
sel (decide (s2.1<(y9.length:Int))) ((nth y9 s2.1).bind λx4 =>
(cH 12 s2.2 x4).bind λx5 =>
(shO .shl .u16 1 y6).bind λd3 =>
(cH 12 s2.2 x4).bind λx6 =>
some (.inl (w64 (s2.1+1),(nw s2.2 x4 (br .or .u16 x5 d3))))) <|
some (.inr s2.2)
def m6 (a0:List ab) (y1:(List Int)) (s1:Int×(Ar Int)):Option ((Int×(Ar Int))⊕((Ar Int))):=
sel (decide (s1.1<(a0.length:Int))) (((nth a0 s1.1).bind λx1 =>
(eM x1).bind λy6 =>
sel (decide (y6<0)) (some s1.2) <|
(shO .shl .u16 1 y6).bind λd1 =>
(dW a0 y1 s1.1).bind λy7 =>
(sel (x1.Op==2) ((shO .shl .u16 1 x1.A).bind λd2 =>
some (br .andNot .u16 (br .andNot .u16 y7 d1) d2)) <|
some (br .andNot .u16 y7 d1):Option (Int)).bind λy8 =>
(cH 12 s1.2 y6).bind λx2 =>
(cH 12 s1.2 y6).bind λx3 =>
(ib y8).bind λy9 =>
(aC (kw y6 y9) (0,(nw s1.2 y6 (br .or .u16 x2 y8)))).bind λy10 =>
some y10:Option ((Ar Int))).bind λy5 =>
some (.inl (w64 (s1.1+1),y5))) <|
some (.inr s1.2)
def jh (a0:List ab):Option ((Ar Int)):=
(dX a0).bind λy1 =>
(aC (m6 a0 y1) (0,(λ_=>0))).bind λy2 =>
some y2
def m7 (y1:(Ar Int)) (s1:Int×(List Int)) (s2:Int×Int):Option ((Int×Int)⊕Int):=
sel (decide (s2.2<s1.1)) (((cH 12 y1 s1.1).bind λx1 =>
(db x1 s2.2).bind λy9 =>
sel y9 ((nth s1.2 s2.2).bind λx2 =>
(shO .shl .u16 1 x2).bind λd1 =>
some (br .or .u16 s2.1 d1)) <|
some s2.1:Option (Int)).bind λy8 =>
some (.inl (y8,w64 (s2.2+1)))) <|
some (.inr s2.1)
def m8 (s1:Int×(List Int)) (y5:Int) (s3:(List Int)):Option (((List Int))⊕((List Int))):=
(nth s3 s1.1).bind λx3 =>
(db y5 x3).bind λy13 =>
sel y13 ((nth s3 s1.1).bind λx4 =>
(nth s3 s1.1).bind λx5 =>
(upd s3 s1.1 (w64 (x4+1))).bind λr2 =>
some (.inl r2)) <|
some (.inr s3)
def m9 (y1:(Ar Int)) (r1:List Int) (s1:Int×(List Int)):Option ((Int×(List Int))⊕((List Int))):=
sel (decide (s1.1<(r1.length:Int))) ((aC (m7 y1 s1) (0,0)).bind λy5 =>
(aC (m8 s1 y5) s1.2).bind λy10 =>
some (.inl (w64 (s1.1+1),y10))) <|
some (.inr s1.2)
def ji (a0:List ab):Option ((List Int)):=
(jh a0).bind λy1 =>
(mk 8 12 0).bind λr1 =>
(aC (m9 y1 r1) (0,r1)).bind λy2 =>
some y2
def gg (a0:List ab) (y2:(List Int)) (s1:Int×(List ab)):Option ((Int×(List ab))⊕((List ab))):=
sel (decide (s1.1<(a0.length:Int))) ((nth a0 s1.1).bind λx1 =>
(nth y2 x1.Dst).bind λx2 =>
(nth y2 x1.A).bind λx3 =>
(nth y2 x1.B).bind λx4 =>
(nth s1.2 s1.1).bind λx5 =>
(upd s1.2 s1.1 (ab.mk x5.Op x2 x5.A x5.B x5.N)).bind λr1 =>
(nth r1 s1.1).bind λx6 =>
(upd r1 s1.1 (ab.mk x6.Op x6.Dst x3 x6.B x6.N)).bind λr2 =>
(nth r2 s1.1).bind λx7 =>
(upd r2 s1.1 (ab.mk x7.Op x7.Dst x7.A x4 x7.N)).bind λr3 =>
some (.inl (w64 (s1.1+1),r3))) <|
some (.inr s1.2)
def fq (a0:List ab):Option ((List ab)×Bool):=
(bg a0).bind λy1 =>
sel (!y1) (some ([],false)) <|
(ji a0).bind λy2 =>
(aD a0).bind λy3 =>
(aC (gg a0 y2) (0,y3)).bind λy4 =>
some (y4,true)
def mb (y2:(List (List ab))×Bool) (s1:Int×(List (List ab))):Option ((Int×(List (List ab)))⊕(((List (List ab))×Bool)⊕((List (List ab))))):=
sel (decide (s1.1<(y2.1.length:Int))) ((nth s1.2 s1.1).bind λx1 =>
(fq x1).bind λy6 =>
sel (!y6.2) (some (.inr (.inl ([],false)))) <|
some (.inl (w64 (s1.1+1),(s1.2.set (Int.toNat s1.1) y6.1)))) <|
some (.inr (.inr s1.2))
def fP (k:Nat) (a0:aF) (a1:Int):Option ((List (List ab))×Bool):=
(c7 k (aF.mk a0.Rooms a0.Tasks)).bind λy1 =>
sel (!y1.2) (some ([],false)) <|
(di y1.1 a1).bind λy2 =>
sel (!y2.2) (some ([],false)) <|
(aC (mb y2) (0,y2.1)).bind λy3 =>
iI y3 (λo3=>some o3) (λo4 =>
some (o4,true))
def ba (a0:bq) (a1:List Instr):Option ((List Instr)):=
(app 40 a0.list a1).bind λr1 =>
some r1
def bU (a0:bq) (a1:Int) (a2:Int->Option (List Instr)):Option ((List Instr)):=
sel (decide (a1<a0.colors)) ((nth kr a1).bind λx1 =>
(a2 x1).bind λy1 =>
(ba (bq.mk a0.colors a0.list) y1).bind λy2 =>
some y2) <|
(a2 7).bind λy3 =>
(ba (bq.mk a0.colors a0.list) y3).bind λy4 =>
(ba (bq.mk a0.colors y4) [(Instr.mk 16 0 2 7 (w64 (4*(w64 (a1-a0.colors)))))]).bind λy5 =>
some y5
def bG (a0:bq) (a1:Int) (a2:Int):Option (Int×(List Instr)):=
sel (decide (a1<a0.colors)) ((nth kr a1).bind λx1 =>
some (x1,a0.list)) <|
(ba (bq.mk a0.colors a0.list) [(Instr.mk 14 a2 2 0 (w64 (4*(w64 (a1-a0.colors)))))]).bind λy1 =>
some (a2,y1)
def dj (a0:Int) (a1:Int) (a2:Int):Option (Instr):=
some (Instr.mk 12 a0 a1 0 a2)
def dR (a0:bq) (a1:Int):Option ((List Instr)):=
(ba (bq.mk a0.colors a0.list) [(Instr.mk 20 0 0 0 (w64 (a1-(w64 (4*(a0.list.length:Int))))))]).bind λy1 =>
some y1
def bS (a0:bq) (a1:Int):Option ((List Instr)):=
(dj 17 0 a1).bind λy1 =>
(ba (bq.mk a0.colors a0.list) [y1,(Instr.mk 15 1 0 0 0)]).bind λy2 =>
some y2
def i7 (a0:Int) (a1:Int):Option (Int):=
(sel (((decide (a1<1))||(decide (a1>32)))||(decide (a0<0))) (some true) ((shO .shl .i64 1 a1).bind λd1=>some (decide (a0>=d1))):Option (Bool)).bind λb1 =>
sel b1 (some 0) <|
(shO .shl .i64 1 (w64 (a1-1))).bind λd2 =>
sel (decide (a0>=d2)) ((shO .shl .i64 1 a1).bind λd3 =>
some (w64 (a0-d3))) <|
some a0
def lP (a0:Int):Option (Bool):=
some ((decide (a0>=0))&&(decide (a0<4294967296)))
def mh (a0:Int) (a1:Int) (a2:Int):Option (Int):=
(lP a0).bind λy1 =>
sel (((((!y1)||(decide (a1<0)))||(decide (a1>31)))||(decide (a2<1)))||(decide (a2>(w64 (32-a1))))) (some 0) <|
(shO .shr .i64 a0 a1).bind λd1 =>
(shO .shl .i64 1 a2).bind λd2 =>
some (br .and .i64 d1 (w64 (d2-1)))
def jj (a0:Int):Option (Int):=
(g7 a0).bind λy1 =>
sel (!y1) (some (-1)) <|
some (w64 (nY .u32 (a0)))
def ic (a0:Int) (a1:Int):Option ((List Instr)):=
sel ((decide (a1>=(-2048)))&&(decide (a1<=2047))) ((dj a0 0 a1).bind λy1 =>
some [y1]) <|
(jj a1).bind λy2 =>
(mh y2 0 12).bind λy3 =>
(i7 y3 12).bind λy4 =>
(eX (w64 (a1-y4))).bind λy5 =>
(jj y5).bind λy6 =>
(mh y6 12 20).bind λy7 =>
(dj a0 a0 y4).bind λy8 =>
some [(Instr.mk 19 a0 0 0 y7),y8]
def js (a0:Int) (a1:ab):Option ((List Instr)):=
(ic a0 a1.N).bind λy1 =>
some y1
def jt (a0:Int) (a1:Int):Option ((List Instr)):=
(dj a0 a1 0).bind λy1 =>
some [y1]
def ju (a0:Int) (a1:ab) (a2:Int) (a3:Int):Option ((List Instr)):=
(nth mZ (w64 (a1.N-1))).bind λx1 =>
sel (a1.N==4) ((app 40 [(Instr.mk x1 a0 a2 a3 0)] [(Instr.mk 13 a0 a0 0 1)]).bind λr1 =>
some r1) <|
some [(Instr.mk x1 a0 a2 a3 0)]
def jv (a0:Int):Option ((List Instr)):=
(dj a0 10 0).bind λy1 =>
some [y1]
def fQ (a0:ab) (a1:Int) (a2:Int):Option ((List Instr)):=
(sel (a0.Op==1) ((bU (bq.mk a1 []) a0.Dst (λb0=>js b0 a0)).bind λy2 =>
some y2) <|
sel (a0.Op==2) ((bG (bq.mk a1 []) a0.A 5).bind λy3 =>
(bU (bq.mk a1 y3.2) a0.Dst (λb0=>jt b0 y3.1)).bind λy4 =>
some y4) <|
sel (a0.Op==3) ((bG (bq.mk a1 []) a0.A 5).bind λy5 =>
(bG (bq.mk a1 y5.2) a0.B 6).bind λy6 =>
(bU (bq.mk a1 y6.2) a0.Dst (λb0=>ju b0 a0 y5.1 y6.1)).bind λy7 =>
some y7) <|
sel (a0.Op==4) ((dR (bq.mk a1 []) a2).bind λy8 =>
some y8) <|
sel (a0.Op==5) ((bG (bq.mk a1 []) a0.A 5).bind λy9 =>
(ba (bq.mk a1 y9.2) [(Instr.mk 18 0 y9.1 0 8)]).bind λy10 =>
(dR (bq.mk a1 y10) a2).bind λy11 =>
some y11) <|
sel (a0.Op==6) ((bG (bq.mk a1 []) a0.A 5).bind λy12 =>
(dj 10 y12.1 0).bind λy13 =>
(dj 11 0 a0.N).bind λy14 =>
(ba (bq.mk a1 y12.2) [y13,y14]).bind λy15 =>
(bS (bq.mk a1 y15) 1).bind λy16 =>
some y16) <|
sel (a0.Op==7) ((dj 11 0 a0.N).bind λy17 =>
(ba (bq.mk a1 []) [y17]).bind λy18 =>
(bS (bq.mk a1 y18) 2).bind λy19 =>
(bU (bq.mk a1 y19) a0.Dst jv).bind λy20 =>
some y20) <|
sel (a0.Op==8) ((bS (bq.mk a1 []) 3).bind λy21 =>
some y21) <|
sel (a0.Op==9) ((bG (bq.mk a1 []) a0.A 5).bind λy22 =>
(dj 10 y22.1 0).bind λy23 =>
(ba (bq.mk a1 y22.2) [y23]).bind λy24 =>
(bS (bq.mk a1 y24) 4).bind λy25 =>
some y25) <|
sel (a0.Op==10) ((bS (bq.mk a1 []) 5).bind λy26 =>
some y26) <|
some []:Option ((List Instr))).bind λy1 =>
some y1
def mc (a0:List ab) (a1:Int) (s1:(List Int)×Int×Int):Option (((List Int)×Int×Int)⊕((List Int))):=
sel (decide (s1.2.2<(a0.length:Int))) ((nth a0 s1.2.2).bind λx1 =>
(app 8 s1.1 [s1.2.1]).bind λr1 =>
(fQ x1 a1 0).bind λy5 =>
some (.inl (r1,w64 (s1.2.1+(y5.length:Int)),w64 (s1.2.2+1)))) <|
some (.inr s1.1)
def fR (a0:List ab) (a1:Int):Option ((List Int)):=
(bg a0).bind λy1 =>
sel (((!y1)||(decide (a1<1)))||(decide (a1>8))) (some []) <|
(aC (mc a0 a1) ([],0,0)).bind λy2 =>
some y2
def md (a0:List ab) (a1:Int) (y1:(List Int)) (s1:(List Instr)×Int):Option (((List Instr)×Int)⊕((List Instr))):=
sel (decide (s1.2<(a0.length:Int))) ((nth a0 s1.2).bind λx1 =>
((cn x1).bind λy6 =>
sel y6 ((nth y1 x1.N).bind λx2 =>
(nth y1 s1.2).bind λx3 =>
some (w64 (4*(w64 (x2-x3))))) <|
some 0:Option (Int)).bind λy5 =>
(fQ x1 a1 y5).bind λy7 =>
(app 40 s1.1 y7).bind λr1 =>
some (.inl (r1,w64 (s1.2+1)))) <|
some (.inr s1.1)
def dY (a0:List ab) (a1:Int):Option ((List Instr)×Bool):=
(fR a0 a1).bind λy1 =>
sel (List.isEmpty y1) (some ([],false)) <|
(aC (md a0 a1 y1) ([],0)).bind λy2 =>
some (y2,true)
def dk (a2:Int) (y1:(List (List ab))×Bool) (s1:(List (List Instr))×Int):Option (((List (List Instr))×Int)⊕(((List (List Instr))×Bool)⊕((List (List Instr))))):=
sel (decide (s1.2<(y1.1.length:Int))) ((nth y1.1 s1.2).bind λx1 =>
(dY x1 a2).bind λy5 =>
sel (!y5.2) (some (.inr (.inl ([],false)))) <|
(app 24 s1.1 [y5.1]).bind λr1 =>
some (.inl (r1,w64 (s1.2+1)))) <|
some (.inr (.inr s1.1))
def dc (k:Nat) (a0:aF) (a1:Int) (a2:Int):Option ((List (List Instr))×Bool):=
(fP k (aF.mk a0.Rooms a0.Tasks) a1).bind λy1 =>
sel (!y1.2) (some ([],false)) <|
(aC (dk a2 y1) ([],0)).bind λy2 =>
iI y2 (λo3=>some o3) (λo4 =>
some (o4,true))
def aX (a0:Int) (a1:Int) (a2:Int):Option (Bool):=
some ((decide (a0>=a1))&&(decide (a0<=a2)))
def kx (a0:List Int) (s1:Int):Option (Int⊕(Bool⊕Unit)):=
sel (decide (s1<(a0.length:Int))) ((nth a0 s1).bind λx1 =>
(aX x1 1 4).bind λy4 =>
sel (!y4) (some (.inr (.inl false))) <|
some (.inl (w64 (s1+1)))) <|
some (.inr (.inr ()))
def lk (a0:List Int):Option (Bool):=
(aC (kx a0) 0).bind λy1 =>
iI y1 (λo3=>some o3) (λo4 =>
some (decide ((a0.length:Int)<=3)))
def eN (a0:ae) (a1:Bool):Option (Bool):=
sel a1 ((aX a0.Var 0 3).bind λy1 =>
some y1) <|
some (a0.Var==0)
def eO (a0:ae) (a1:Bool):Option (Bool):=
sel a1 ((aX a0.Box 0 2).bind λy1 =>
some y1) <|
some (a0.Box==0)
def eE (a0:Int):Option (Bool):=
(aX a0 1 12).bind λy1 =>
some y1
def gh (k:Nat) (nA:Expr->Int->Option (Bool)) (a0:Expr) (a1:Int):Option (Bool):=
sel (decide (a1<1)) (some false) <|
sel (a0.Op==0) ((aX a0.N 0 99999).bind λy1 =>
some (y1&&((a0.Args.length:Int)==0))) <|
sel (a0.Op==13) ((aX a0.N 0 3).bind λy2 =>
some (y2&&((a0.Args.length:Int)==0))) <|
(eE a0.Op).bind λy3 =>
(sel ((y3&&(a0.N==0))&&((a0.Args.length:Int)==2)) ((nth a0.Args 0).bind λx1=>(nA (Expr.mk x1.Op x1.N x1.Args) (w64 (a1-1))).bind λy4=>some y4) (some false):Option (Bool)).bind λb1 =>
(sel b1 ((nth a0.Args 1).bind λx2=>(nA (Expr.mk x2.Op x2.N x2.Args) (w64 (a1-1))).bind λy5=>some y5) (some false):Option (Bool)).bind λb2 =>
some b2
def sq:Nat->(Expr->Int->Option (Bool))
 | 0=>((λ_ _=>none))
 | k+1=>(gh k (sq k))
def mi (k:Nat):Expr->Int->Option (Bool):=(sq k)
def bV (k:Nat) (a0:Expr):Option (Bool):=
(mi k (Expr.mk a0.Op a0.N a0.Args) 5).bind λy1 =>
some y1
def gw (a0:Expr):Option (Bool):=
some (((a0.Op==0)&&(a0.N==0))&&((a0.Args.length:Int)==0))
def dG (k:Nat) (a0:ae):Option (Bool):=
sel ((decide ((a0.Body.length:Int)>0))||(decide ((a0.Else.length:Int)>0))) (some false) <|
sel (a0.Kind==1) ((eN (ae.mk a0.Kind a0.Var a0.Box (Expr.mk a0.Expr.Op a0.Expr.N a0.Expr.Args) a0.Body a0.Else) true).bind λy1 =>
(sel y1 ((eO (ae.mk a0.Kind a0.Var a0.Box (Expr.mk a0.Expr.Op a0.Expr.N a0.Expr.Args) a0.Body a0.Else) false).bind λy2=>some y2) (some false):Option (Bool)).bind λb1 =>
(sel b1 ((bV k (Expr.mk a0.Expr.Op a0.Expr.N a0.Expr.Args)).bind λy3=>some y3) (some false):Option (Bool)).bind λb2 =>
some b2) <|
sel (a0.Kind==4) ((eN (ae.mk a0.Kind a0.Var a0.Box (Expr.mk a0.Expr.Op a0.Expr.N a0.Expr.Args) a0.Body a0.Else) false).bind λy4 =>
(sel y4 ((eO (ae.mk a0.Kind a0.Var a0.Box (Expr.mk a0.Expr.Op a0.Expr.N a0.Expr.Args) a0.Body a0.Else) true).bind λy5=>some y5) (some false):Option (Bool)).bind λb3 =>
(sel b3 ((bV k (Expr.mk a0.Expr.Op a0.Expr.N a0.Expr.Args)).bind λy6=>some y6) (some false):Option (Bool)).bind λb4 =>
some b4) <|
sel (a0.Kind==5) ((eN (ae.mk a0.Kind a0.Var a0.Box (Expr.mk a0.Expr.Op a0.Expr.N a0.Expr.Args) a0.Body a0.Else) true).bind λy7 =>
(sel y7 ((eO (ae.mk a0.Kind a0.Var a0.Box (Expr.mk a0.Expr.Op a0.Expr.N a0.Expr.Args) a0.Body a0.Else) true).bind λy8=>some y8) (some false):Option (Bool)).bind λb5 =>
(sel b5 ((gw (Expr.mk a0.Expr.Op a0.Expr.N a0.Expr.Args)).bind λy9=>some y9) (some false):Option (Bool)).bind λb6 =>
some b6) <|
sel (a0.Kind==6) ((eN (ae.mk a0.Kind a0.Var a0.Box (Expr.mk a0.Expr.Op a0.Expr.N a0.Expr.Args) a0.Body a0.Else) false).bind λy10 =>
(sel y10 ((eO (ae.mk a0.Kind a0.Var a0.Box (Expr.mk a0.Expr.Op a0.Expr.N a0.Expr.Args) a0.Body a0.Else) false).bind λy11=>some y11) (some false):Option (Bool)).bind λb7 =>
(sel b7 ((gw (Expr.mk a0.Expr.Op a0.Expr.N a0.Expr.Args)).bind λy12=>some y12) (some false):Option (Bool)).bind λb8 =>
some b8) <|
sel (a0.Kind==7) ((eN (ae.mk a0.Kind a0.Var a0.Box (Expr.mk a0.Expr.Op a0.Expr.N a0.Expr.Args) a0.Body a0.Else) false).bind λy13 =>
(sel y13 ((eO (ae.mk a0.Kind a0.Var a0.Box (Expr.mk a0.Expr.Op a0.Expr.N a0.Expr.Args) a0.Body a0.Else) false).bind λy14=>some y14) (some false):Option (Bool)).bind λb9 =>
(sel b9 ((bV k (Expr.mk a0.Expr.Op a0.Expr.N a0.Expr.Args)).bind λy15=>some y15) (some false):Option (Bool)).bind λb10 =>
some b10) <|
some false
def jw (a0:List ae) (a1:Int) (dB:ae->Int->Option (Bool)) (s1:Int):Option (Int⊕(Bool⊕Unit)):=
sel (decide (s1<(a0.length:Int))) ((nth a0 s1).bind λx1 =>
(dB (ae.mk x1.Kind x1.Var x1.Box (Expr.mk x1.Expr.Op x1.Expr.N x1.Expr.Args) x1.Body x1.Else) a1).bind λy4 =>
sel (!y4) (some (.inr (.inl false))) <|
some (.inl (w64 (s1+1)))) <|
some (.inr (.inr ()))
def dl (k:Nat) (ca:List ae->Int->Option (Bool)) (dB:ae->Int->Option (Bool)) (a0:List ae) (a1:Int):Option (Bool):=
(aC (jw a0 a1 dB) 0).bind λy1 =>
iI y1 (λo3=>some o3) (λo4 =>
some true)
def iO (k:Nat) (ca:List ae->Int->Option (Bool)) (dB:ae->Int->Option (Bool)) (a0:ae) (a1:Int):Option (Bool):=
sel ((a0.Kind !=2)&&(a0.Kind !=3)) ((dG k (ae.mk a0.Kind a0.Var a0.Box (Expr.mk a0.Expr.Op a0.Expr.N a0.Expr.Args) a0.Body a0.Else)).bind λy1 =>
some y1) <|
sel ((decide (a1<1))||((a0.Kind==3)&&(decide ((a0.Else.length:Int)>0)))) (some false) <|
(eN (ae.mk a0.Kind a0.Var a0.Box (Expr.mk a0.Expr.Op a0.Expr.N a0.Expr.Args) a0.Body a0.Else) false).bind λy2 =>
(sel y2 ((eO (ae.mk a0.Kind a0.Var a0.Box (Expr.mk a0.Expr.Op a0.Expr.N a0.Expr.Args) a0.Body a0.Else) false).bind λy3=>some y3) (some false):Option (Bool)).bind λb1 =>
(sel b1 ((bV k (Expr.mk a0.Expr.Op a0.Expr.N a0.Expr.Args)).bind λy4=>some y4) (some false):Option (Bool)).bind λb2 =>
(sel b2 ((ca a0.Body (w64 (a1-1))).bind λy5=>some y5) (some false):Option (Bool)).bind λb3 =>
(sel b3 ((ca a0.Else (w64 (a1-1))).bind λy6=>some y6) (some false):Option (Bool)).bind λb4 =>
some b4
def dm:Nat->(List ae->Int->Option (Bool))×(ae->Int->Option (Bool))
 | 0=>((λ_ _=>none),(λ_ _=>none))
 | k+1=>(dl k (dm k).1 (dm k).2,iO k (dm k).1 (dm k).2)
def bE (k:Nat):List ae->Int->Option (Bool):=(dm k).1
def oI (k:Nat):ae->Int->Option (Bool):=(dm k).2
def cw (k:Nat) (a0:List ae):Option (Bool):=
(bE k a0 3).bind λy1 =>
(sel y1 ((cl k a0).bind λy2=>some (decide (y2<=16))) (some false):Option (Bool)).bind λb1 =>
some b1
def na (a0:List ae) (a1:Int) (dZ:List ae->Int->Option (Bool)) (s1:Int):Option (Int⊕(Bool⊕Unit)):=
sel (decide (s1<(a0.length:Int))) ((nth a0 s1).bind λx1 =>
sel (((x1.Kind==4)||(x1.Kind==5))&&(decide (x1.Box>=a1))) (some (.inr (.inl false))) <|
(dZ x1.Body a1).bind λy4 =>
(sel (!y4) (some true) ((dZ x1.Else a1).bind λy5=>some (!y5)):Option (Bool)).bind λb1 =>
sel b1 (some (.inr (.inl false))) <|
some (.inl (w64 (s1+1)))) <|
some (.inr (.inr ()))
def d6 (k:Nat) (dZ:List ae->Int->Option (Bool)) (a0:List ae) (a1:Int):Option (Bool):=
(aC (na a0 a1 dZ) 0).bind λy1 =>
iI y1 (λo3=>some o3) (λo4 =>
some true)
def pe:Nat->(List ae->Int->Option (Bool))
 | 0=>((λ_ _=>none))
 | k+1=>(d6 k (pe k))
def eP (k:Nat):List ae->Int->Option (Bool):=(pe k)
def gi (a0:aF) (k:Nat) (s1:Int):Option (Int⊕(Bool⊕Unit)):=
sel (decide (s1<(a0.Tasks.length:Int))) ((nth a0.Tasks s1).bind λx1 =>
(cw k x1).bind λy6 =>
(sel (!y6) (some true) ((nth a0.Tasks s1).bind λb_1=>(eP k b_1 (a0.Rooms.length:Int)).bind λb_2=>some (!b_2))).bind λb2 =>
sel b2 (some (.inr (.inl false))) <|
some (.inl (w64 (s1+1)))) <|
some (.inr (.inr ()))
def gj (k:Nat) (a0:aF):Option (Bool):=
(lk a0.Rooms).bind λy1 =>
(sel (!y1) (some true) ((aX (a0.Tasks.length:Int) 1 3).bind λy2=>some (!y2)):Option (Bool)).bind λb1 =>
sel b1 (some false) <|
(aC (gi a0 k) 0).bind λy3 =>
iI y3 (λo3=>some o3) (λo4 =>
some true)
def fr (k:Nat) (jR:Expr->Int->Option ((List ab))) (a0:Expr) (a1:Int):Option ((List ab)):=
sel (a0.Op==0) (some [(ab.mk 1 a1 0 0 a0.N)]) <|
sel (a0.Op==13) (some [(ab.mk 2 a1 a0.N 0 0)]) <|
(nth a0.Args 0).bind λx1 =>
(nth a0.Args 1).bind λx2 =>
(jR (Expr.mk x1.Op x1.N x1.Args) a1).bind λy1 =>
(jR (Expr.mk x2.Op x2.N x2.Args) (w64 (a1+1))).bind λy2 =>
(app 40 y1 y2).bind λr1 =>
(app 40 r1 [(ab.mk 3 a1 a1 (w64 (a1+1)) a0.Op)]).bind λr2 =>
some r2
def py:Nat->(Expr->Int->Option ((List ab)))
 | 0=>((λ_ _=>none))
 | k+1=>(fr k (py k))
def cy (k:Nat):Expr->Int->Option ((List ab)):=(py k)
def lQ (a0:List ae) (a1:Int) (a8:ae->Int->Option ((List ab))) (s1:(List ab)×Int):Option (((List ab)×Int)⊕((List ab))):=
sel (decide (s1.2<(a0.length:Int))) ((nth a0 s1.2).bind λx1 =>
(a8 (ae.mk x1.Kind x1.Var x1.Box (Expr.mk x1.Expr.Op x1.Expr.N x1.Expr.Args) x1.Body x1.Else) (w64 (a1+(s1.1.length:Int)))).bind λy4 =>
(app 40 s1.1 y4).bind λr1 =>
some (.inl (r1,w64 (s1.2+1)))) <|
some (.inr s1.1)
def ft (k:Nat) (a9:List ae->Int->Option ((List ab))) (a8:ae->Int->Option ((List ab))) (bC:ae->Int->Option ((List ab))) (be:ae->Int->Option ((List ab))) (a0:List ae) (a1:Int):Option ((List ab)):=
(aC (lQ a0 a1 a8) ([],0)).bind λy1 =>
some y1
def cU (k:Nat) (a9:List ae->Int->Option ((List ab))) (a8:ae->Int->Option ((List ab))) (bC:ae->Int->Option ((List ab))) (be:ae->Int->Option ((List ab))) (a0:ae) (a1:Int):Option ((List ab)):=
(cy k (Expr.mk a0.Expr.Op a0.Expr.N a0.Expr.Args) 4).bind λy1 =>
sel (a0.Kind==2) ((bC (ae.mk a0.Kind a0.Var a0.Box (Expr.mk a0.Expr.Op a0.Expr.N a0.Expr.Args) a0.Body a0.Else) a1).bind λy2 =>
some y2) <|
sel (a0.Kind==3) ((be (ae.mk a0.Kind a0.Var a0.Box (Expr.mk a0.Expr.Op a0.Expr.N a0.Expr.Args) a0.Body a0.Else) a1).bind λy3 =>
some y3) <|
sel (a0.Kind==1) ((app 40 y1 [(ab.mk 2 a0.Var 4 0 0)]).bind λr1 =>
some r1) <|
sel (a0.Kind==4) ((app 40 y1 [(ab.mk 6 0 4 0 a0.Box)]).bind λr2 =>
some r2) <|
sel (a0.Kind==7) ((app 40 y1 [(ab.mk 9 0 4 0 0)]).bind λr3 =>
some r3) <|
sel (a0.Kind==5) (some [(ab.mk 7 a0.Var 0 0 a0.Box)]) <|
some [(ab.mk 8 0 0 0 0)]
def iP (k:Nat) (a9:List ae->Int->Option ((List ab))) (a8:ae->Int->Option ((List ab))) (bC:ae->Int->Option ((List ab))) (be:ae->Int->Option ((List ab))) (a0:ae) (a1:Int):Option ((List ab)):=
(cy k (Expr.mk a0.Expr.Op a0.Expr.N a0.Expr.Args) 4).bind λy1 =>
(a9 a0.Body (w64 ((w64 (a1+(y1.length:Int)))+1))).bind λy2 =>
sel ((a0.Else.length:Int)==0) ((app 40 y1 [(ab.mk 5 0 4 0 (w64 ((w64 ((w64 (a1+(y1.length:Int)))+1))+(y2.length:Int))))]).bind λr1 =>
(app 40 r1 y2).bind λr2 =>
some r2) <|
(a9 a0.Else (w64 ((w64 ((w64 ((w64 (a1+(y1.length:Int)))+1))+(y2.length:Int)))+1))).bind λy3 =>
(app 40 y1 [(ab.mk 5 0 4 0 (w64 ((w64 ((w64 ((w64 (a1+(y1.length:Int)))+1))+(y2.length:Int)))+1)))]).bind λr3 =>
(app 40 r3 y2).bind λr4 =>
(app 40 r4 [(ab.mk 4 0 0 0 (w64 ((w64 ((w64 ((w64 ((w64 (a1+(y1.length:Int)))+1))+(y2.length:Int)))+1))+(y3.length:Int))))]).bind λr5 =>
(app 40 r5 y3).bind λr6 =>
some r6
def d7 (k:Nat) (a9:List ae->Int->Option ((List ab))) (a8:ae->Int->Option ((List ab))) (bC:ae->Int->Option ((List ab))) (be:ae->Int->Option ((List ab))) (a0:ae) (a1:Int):Option ((List ab)):=
(cy k (Expr.mk a0.Expr.Op a0.Expr.N a0.Expr.Args) 4).bind λy1 =>
(a9 a0.Body (w64 ((w64 (a1+(y1.length:Int)))+1))).bind λy2 =>
(app 40 y1 [(ab.mk 5 0 4 0 (w64 ((w64 ((w64 ((w64 (a1+(y1.length:Int)))+1))+(y2.length:Int)))+1)))]).bind λr1 =>
(app 40 r1 y2).bind λr2 =>
(app 40 r2 [(ab.mk 4 0 0 0 a1)]).bind λr3 =>
some r3
def aO:Nat->(List ae->Int->Option ((List ab)))×(ae->Int->Option ((List ab)))×(ae->Int->Option ((List ab)))×(ae->Int->Option ((List ab)))
 | 0=>((λ_ _=>none),(λ_ _=>none),(λ_ _=>none),(λ_ _=>none))
 | k+1=>(ft k (aO k).1 (aO k).2.1 (aO k).2.2.1 (aO k).2.2.2,cU k (aO k).1 (aO k).2.1 (aO k).2.2.1 (aO k).2.2.2,iP k (aO k).1 (aO k).2.1 (aO k).2.2.1 (aO k).2.2.2,d7 k (aO k).1 (aO k).2.1 (aO k).2.2.1 (aO k).2.2.2)
def bK (k:Nat):List ae->Int->Option ((List ab)):=(aO k).1
def cd (k:Nat):ae->Int->Option ((List ab)):=(aO k).2.1
def gx (k:Nat):ae->Int->Option ((List ab)):=(aO k).2.2.1
def cI (k:Nat):ae->Int->Option ((List ab)):=(aO k).2.2.2
def cD (k:Nat) (a0:List ae):Option ((List ab)×Bool):=
(cw k a0).bind λy1 =>
sel (!y1) (some ([],false)) <|
(bK k a0 0).bind λy2 =>
(app 40 y2 [(ab.mk 10 0 0 0 0)]).bind λr1 =>
some (r1,true)
def eF (a0:aF) (k:Nat) (s1:(List (List ab))×Int):Option (((List (List ab))×Int)⊕((List (List ab)))):=
sel (decide (s1.2<(a0.Tasks.length:Int))) ((nth a0.Tasks s1.2).bind λx1 =>
(cD k x1).bind λy5 =>
(app 24 s1.1 [y5.1]).bind λr1 =>
some (.inl (r1,w64 (s1.2+1)))) <|
some (.inr s1.1)
def c9 (k:Nat) (a0:aF):Option ((List (List ab))×Bool):=
(gj k (aF.mk a0.Rooms a0.Tasks)).bind λy1 =>
sel (!y1) (some ([],false)) <|
(aC (eF a0 k) ([],0)).bind λy2 =>
some (y2,true)
def jS (a0:Int) (a1:Bool):Option (Bool):=
sel a1 ((aX a0 0 11).bind λy1 =>
some y1) <|
some (a0==0)
def ce (a0:ab) (a1:Bool) (a2:Bool) (a3:Bool):Option (Bool):=
(jS a0.Dst a1).bind λy1 =>
(sel y1 ((jS a0.A a2).bind λy2=>some y2) (some false):Option (Bool)).bind λb1 =>
(sel b1 ((jS a0.B a3).bind λy3=>some y3) (some false):Option (Bool)).bind λb2 =>
some b2
def bN (a0:Int):Option (Bool):=
(aX a0 (-2147483648) 2147483647).bind λy1 =>
some y1
def fu (a0:ab) (a1:Int):Option (Bool):=
sel (a0.Op==1) ((ce a0 true false false).bind λy1 =>
(sel y1 ((bN a0.N).bind λy2=>some y2) (some false):Option (Bool)).bind λb1 =>
some b1) <|
sel (a0.Op==2) ((ce a0 true true false).bind λy3 =>
some (y3&&(a0.N==0))) <|
sel (a0.Op==3) ((ce a0 true true true).bind λy4 =>
(sel y4 ((eE a0.N).bind λy5=>some y5) (some false):Option (Bool)).bind λb2 =>
some b2) <|
sel (a0.Op==4) ((ce a0 false false false).bind λy6 =>
some ((y6&&(decide (a0.N>=0)))&&(decide (a0.N<a1)))) <|
sel (a0.Op==5) ((ce a0 false true false).bind λy7 =>
some ((y7&&(decide (a0.N>=0)))&&(decide (a0.N<a1)))) <|
sel (a0.Op==6) ((ce a0 false true false).bind λy8 =>
(sel y8 ((aX a0.N 0 2).bind λy9=>some y9) (some false):Option (Bool)).bind λb3 =>
some b3) <|
sel (a0.Op==7) ((ce a0 true false false).bind λy10 =>
(sel y10 ((aX a0.N 0 2).bind λy11=>some y11) (some false):Option (Bool)).bind λb4 =>
some b4) <|
sel (a0.Op==9) ((ce a0 false true false).bind λy12 =>
some (y12&&(a0.N==0))) <|
(sel (a0.Op==8) (some (a0.Op==8)) <|
some (a0.Op==10):Option (Bool)).bind λy13 =>
sel y13 ((ce a0 false false false).bind λy14 =>
some (y14&&(a0.N==0))) <|
some false
def mv (a0:List ab) (s1:Int):Option (Int⊕(Bool⊕Unit)):=
sel (decide (s1<(a0.length:Int))) ((nth a0 s1).bind λx1 =>
(fu x1 (a0.length:Int)).bind λy5 =>
sel (!y5) (some (.inr (.inl false))) <|
some (.inl (w64 (s1+1)))) <|
some (.inr (.inr ()))
def aV (a0:List ab):Option (Bool):=
(aX (a0.length:Int) 1 600).bind λy1 =>
sel (!y1) (some false) <|
(aC (mv a0) 0).bind λy2 =>
iI y2 (λo3=>some o3) (λo4 =>
(nth a0 (w64 ((a0.length:Int)-1))).bind λx2 =>
(sel (x2.Op==10) (some true) ((nth a0 (w64 ((a0.length:Int)-1))).bind λx3=>some (x3.Op==4)):Option (Bool)).bind λb1 =>
some b1)
def dC (a0:List ab) (a1:Int):Option ((List Int)):=
(nth a0 a1).bind λx1 =>
sel (x1.Op==10) (some []) <|
sel (x1.Op==4) (some [x1.N]) <|
sel ((x1.Op==5)&&(decide (x1.N<(w64 (a1+1))))) (some [x1.N,w64 (a1+1)]) <|
sel ((x1.Op==5)&&(decide (x1.N>(w64 (a1+1))))) (some [w64 (a1+1),x1.N]) <|
some [w64 (a1+1)]
def gy (a0:List ab) (a1:List ai) (a2:Int):Option ((List Int)):=
(nth a0 a2).bind λx1 =>
(sel (x1.Op !=5) (some true) ((nth a1 x1.A).bind λx2=>some (x2.Kind !=1)):Option (Bool)).bind λb1 =>
sel b1 ((dC a0 a2).bind λy1 =>
some y1) <|
(nth a1 x1.A).bind λx3 =>
sel (x3.N==0) (some [x1.N]) <|
some [w64 (a2+1)]
def dn (a0:Int):Option (Int):=
sel (decide ((Int.tmod a0 4294967296)>2147483647)) (some (w64 ((Int.tmod a0 4294967296)-4294967296))) <|
sel (decide ((Int.tmod a0 4294967296)<(-2147483648))) (some (w64 ((Int.tmod a0 4294967296)+4294967296))) <|
some (Int.tmod a0 4294967296)
def mj (a0:Bool):Option (Int):=
sel a0 (some 1) <|
some 0
def iQ (a0:Int) (a1:Int) (a2:Bool):Option (Int):=
sel a2 ((shO .shr .i64 a0 (br .and .i64 a1 31)).bind λd1 =>
some d1) <|
(shO .shl .i64 a0 (br .and .i64 a1 31)).bind λd2 =>
(dn d2).bind λy1 =>
some y1
def lm (a0:Int) (a1:Int):Option (Int):=
sel (a1==0) (some (-1)) <|
(uy .i64 a0 a1).bind λd1 =>
(dn d1).bind λy1 =>
some y1
def ln (a0:Int) (a1:Int):Option (Int):=
sel (a1==0) (some a0) <|
(sI a0 a1).bind λd1 =>
some d1
def jT (a0:Int) (a1:Int) (a2:Int):Option (Int×Bool):=
(eE a0).bind λy1 =>
(sel (!y1) (some true) ((bN a1).bind λy2=>some (!y2)):Option (Bool)).bind λb1 =>
(sel b1 (some true) ((bN a2).bind λy3=>some (!y3)):Option (Bool)).bind λb2 =>
sel b2 (some (0,false)) <|
sel (a0==1) (some (br .or .i64 a1 a2,true)) <|
sel (a0==2) (some (br .xor .i64 a1 a2,true)) <|
sel (a0==3) (some (br .and .i64 a1 a2,true)) <|
sel (a0==4) ((mj (a1==a2)).bind λy4 =>
some (y4,true)) <|
sel (a0==5) ((mj (decide (a1<a2))).bind λy5 =>
some (y5,true)) <|
sel (a0==6) ((iQ a1 a2 false).bind λy6 =>
some (y6,true)) <|
sel (a0==7) ((iQ a1 a2 true).bind λy7 =>
some (y7,true)) <|
sel (a0==8) ((dn (w64 (a1+a2))).bind λy8 =>
some (y8,true)) <|
sel (a0==9) ((dn (w64 (a1-a2))).bind λy9 =>
some (y9,true)) <|
sel (a0==10) ((dn (w64 (a1*a2))).bind λy10 =>
some (y10,true)) <|
sel (a0==11) ((lm a1 a2).bind λy11 =>
some (y11,true)) <|
(ln a1 a2).bind λy12 =>
some (y12,true)
def co (a0:ab) (a1:ai) (a2:ai):Option (ai):=
sel ((a1.Kind !=1)||(a2.Kind !=1)) (some (ai.mk 2 0)) <|
(jT a0.N a1.N a2.N).bind λy1 =>
some (ai.mk 1 y1.1)
def gz (a0:ab) (a1:List ai):Option ((List ai)):=
(app 16 [] a1).bind λr1 =>
sel (a0.Op==1) ((nth r1 a0.Dst).bind λx1 =>
(upd r1 a0.Dst (ai.mk 1 a0.N)).bind λr2 =>
some r2) <|
sel (a0.Op==2) ((nth a1 a0.A).bind λx2 =>
(nth r1 a0.Dst).bind λx3 =>
(upd r1 a0.Dst x2).bind λr3 =>
some r3) <|
sel (a0.Op==7) ((nth r1 a0.Dst).bind λx4 =>
(upd r1 a0.Dst (ai.mk 2 0)).bind λr4 =>
some r4) <|
sel (a0.Op==3) ((nth a1 a0.A).bind λx5 =>
(nth a1 a0.B).bind λx6 =>
(co a0 x5 x6).bind λy1 =>
(nth r1 a0.Dst).bind λx7 =>
(upd r1 a0.Dst y1).bind λr5 =>
some r5) <|
some r1
def iR (a0:ai) (a1:ai):Option (ai):=
sel (a0.Kind==0) (some a1) <|
sel ((a1.Kind==0)||((a0.Kind==a1.Kind)&&((a0.N==a1.N)&&true))) (some a0) <|
some (ai.mk 2 0)
def ky (a1:Int) (a2:List ai) (s1:Bool×Int×(List (List ai))):Option ((Bool×Int×(List (List ai)))⊕(Bool×(List (List ai)))):=
sel (decide (s1.2.1<12)) (((nth s1.2.2 a1).bind λx1 =>
(nth x1 s1.2.1).bind λx4 =>
(nth a2 s1.2.1).bind λx5 =>
(iR x4 x5).bind λy6 =>
(nth s1.2.2 a1).bind λx6 =>
(nth x6 s1.2.1).bind λx8 =>
sel (!((y6.Kind==x8.Kind)&&((y6.N==x8.N)&&true))) ((nth x6 s1.2.1).bind λx9 =>
(upd x6 s1.2.1 y6).bind λr1 =>
some (true,(s1.2.2.set (Int.toNat a1) r1))) <|
some (s1.1,s1.2.2):Option (Bool×(List (List ai)))).bind λy4 =>
some (.inl (y4.1,w64 (s1.2.1+1),y4.2))) <|
some (.inr (s1.1,s1.2.2))
def gA (a0:List (List ai)) (a1:Int) (a2:List ai):Option (Bool×(List (List ai))):=
(aC (ky a1 a2) (false,0,a0)).bind λy1 =>
some (y1.1,y1.2)
def kz (y5:(List Int)) (y6:(List ai)) (s2:Bool×Int×(List (List ai))):Option ((Bool×Int×(List (List ai)))⊕(Bool×(List (List ai)))):=
sel (decide (s2.2.1<(y5.length:Int))) (((nth y5 s2.2.1).bind λx4 =>
(gA s2.2.2 x4 y6).bind λy11 =>
sel y11.1 (some (true,y11.2)) <|
some (s2.1,y11.2):Option (Bool×(List (List ai)))).bind λy10 =>
some (.inl (y10.1,w64 (s2.2.1+1),y10.2))) <|
some (.inr (s2.1,s2.2.2))
def kA (a0:List ab) (s1:Bool×Int×(List (List ai))):Option ((Bool×Int×(List (List ai)))⊕(Bool×(List (List ai)))):=
sel (decide (s1.2.1<(a0.length:Int))) (((nth s1.2.2 s1.2.1).bind λx1 =>
(nth x1 0).bind λx2 =>
sel (x2.Kind==0) (some (s1.1,s1.2.2)) <|
(gy a0 x1 s1.2.1).bind λy5 =>
(nth a0 s1.2.1).bind λx3 =>
(gz x3 x1).bind λy6 =>
(aC (kz y5 y6) (s1.1,0,s1.2.2)).bind λy7 =>
some (y7.1,y7.2):Option (Bool×(List (List ai)))).bind λy4 =>
some (.inl (y4.1,w64 (s1.2.1+1),y4.2))) <|
some (.inr (s1.1,s1.2.2))
def gB (a0:List ab) (a1:List (List ai)):Option (Bool×(List (List ai))):=
(aC (kA a0) (false,0,a1)).bind λy1 =>
some (y1.1,y1.2)
def lR (a0:List ab) (s1:(List (List ai))×Int):Option (((List (List ai))×Int)⊕((List (List ai)))):=
sel (decide (s1.2<(a0.length:Int))) ((mk 16 12 (ai.mk 0 0)).bind λr1 =>
(app 24 s1.1 [r1]).bind λr2 =>
some (.inl (r2,w64 (s1.2+1)))) <|
some (.inr s1.1)
def lS (s2:Int×(List (List ai))):Option ((Int×(List (List ai)))⊕((List (List ai)))):=
sel (decide (s2.1<12)) ((nth s2.2 0).bind λx1 =>
(nth x1 s2.1).bind λx2 =>
(upd x1 s2.1 (ai.mk 1 0)).bind λr3 =>
some (.inl (w64 (s2.1+1),(s2.2.set (Int.toNat 0) r3)))) <|
some (.inr s2.2)
def lU (a0:List ab) (s3:(List (List ai))):Option (((List (List ai)))⊕((List (List ai)))):=
(gB a0 s3).bind λy11 =>
sel y11.1 (some (.inl y11.2)) <|
some (.inr y11.2)
def gk (a0:List ab):Option ((List (List ai))):=
(aV a0).bind λy1 =>
sel (!y1) (some []) <|
(aC (lR a0) ([],0)).bind λy2 =>
(aC (lS) (0,y2)).bind λy5 =>
(aC (lU a0) y5).bind λy8 =>
some y8
def gC (a0:ai) (a1:Int):Option (Bool):=
some ((a0.Kind==1)&&(a0.N==a1))
def oJ (a0:List Int) (a1:Int) (s1:Int):Option (Int⊕(Bool⊕Unit)):=
sel (decide (s1<(a0.length:Int))) ((nth a0 s1).bind λx1 =>
sel (x1==a1) (some (.inr (.inl true))) <|
some (.inl (w64 (s1+1)))) <|
some (.inr (.inr ()))
def nB (a0:List Int) (a1:Int):Option (Bool):=
(aC (oJ a0 a1) 0).bind λy1 =>
iI y1 (λo3=>some o3) (λo4 =>
some false)
def gm (a0:Int) (a1:List Int):Option (Bool):=
(nB a1 a0).bind λy1 =>
some y1
def jU (a0:ab) (a1:ai) (a2:ai):Option (ab):=
(co a0 a1 a2).bind λy1 =>
sel (y1.Kind==1) (some (ab.mk 1 a0.Dst 0 0 y1.N)) <|
(gC a2 0).bind λy2 =>
(sel y2 ((gm a0.N [1,2,6,7,8,9]).bind λy3=>some y3) (some false):Option (Bool)).bind λb1 =>
sel b1 (some (ab.mk 2 a0.Dst a0.A 0 0)) <|
(gC a2 1).bind λy4 =>
(sel y4 ((gm a0.N [10,11]).bind λy5=>some y5) (some false):Option (Bool)).bind λb2 =>
sel b2 (some (ab.mk 2 a0.Dst a0.A 0 0)) <|
(gC a1 0).bind λy6 =>
(sel y6 ((gm a0.N [1,2,8]).bind λy7=>some y7) (some false):Option (Bool)).bind λb3 =>
sel b3 (some (ab.mk 2 a0.Dst a0.B 0 0)) <|
(gC a1 1).bind λy8 =>
sel (y8&&(a0.N==10)) (some (ab.mk 2 a0.Dst a0.B 0 0)) <|
(gC a1 0).bind λy9 =>
(sel y9 (some true) ((gC a2 0).bind λy10=>some y10):Option (Bool)).bind λb4 =>
(sel b4 ((gm a0.N [3,10]).bind λy11=>some y11) (some false):Option (Bool)).bind λb5 =>
sel b5 (some (ab.mk 1 a0.Dst 0 0 0)) <|
some a0
def eG (a0:ab) (a1:List ai) (a2:Int):Option (ab):=
(nth a1 0).bind λx1 =>
sel (x1.Kind==0) (some a0) <|
sel (a0.Op==2) ((nth a1 a0.A).bind λx2 =>
sel (x2.Kind==1) ((nth a1 a0.A).bind λx3 =>
some (ab.mk 1 a0.Dst 0 0 x3.N)) <|
some a0) <|
sel (a0.Op==3) ((nth a1 a0.A).bind λx4 =>
(nth a1 a0.B).bind λx5 =>
(jU a0 x4 x5).bind λy1 =>
some y1) <|
sel (a0.Op==5) ((nth a1 a0.A).bind λx6 =>
(gC x6 0).bind λy2 =>
sel y2 (some (ab.mk 4 0 0 0 a0.N)) <|
(nth a1 a0.A).bind λx7 =>
sel (x7.Kind==1) (some (ab.mk 4 0 0 0 (w64 (a2+1)))) <|
some a0) <|
some a0
def dt (a0:List ab) (y2:(List (List ai))) (s1:(List ab)×Int):Option (((List ab)×Int)⊕((List ab))):=
sel (decide (s1.2<(a0.length:Int))) ((nth y2 s1.2).bind λx1 =>
(nth a0 s1.2).bind λx3 =>
(eG x3 x1 s1.2).bind λy7 =>
(app 40 s1.1 [y7]).bind λr2 =>
some (.inl (r2,w64 (s1.2+1)))) <|
some (.inr s1.1)
def gD (a0:List ab):Option ((List ab)×Bool):=
(aV a0).bind λy1 =>
sel (!y1) (some ([],false)) <|
(gk a0).bind λy2 =>
(aC (dt a0 y2) ([],0)).bind λy3 =>
some (y3,true)
def lV (s1:(List Int)×Int):Option (((List Int)×Int)⊕((List Int))):=
sel (decide (s1.2<12)) ((app 8 s1.1 [s1.2]).bind λr1 =>
some (.inl (r1,w64 (s1.2+1)))) <|
some (.inr s1.1)
def gn:Option ((List Int)):=
(aC (lV) ([],0)).bind λy1 =>
some y1
def cq (a0:ab):Option (Int):=
(fu a0 600).bind λy1 =>
sel (!y1) (some (-1)) <|
(sel (a0.Op==1) (some (a0.Op==1)) <|
sel (a0.Op==2) (some (a0.Op==2)) <|
sel (a0.Op==3) (some (a0.Op==3)) <|
some (a0.Op==7):Option (Bool)).bind λy2 =>
sel y2 (some a0.Dst) <|
some (-1)
def kB (y1:Int) (s1:Int×(List Int)):Option ((Int×(List Int))⊕((List Int))):=
sel (decide (s1.1<12)) (((nth s1.2 s1.1).bind λx1 =>
sel (x1==y1) ((nth s1.2 s1.1).bind λx2 =>
(upd s1.2 s1.1 s1.1).bind λr2 =>
some r2) <|
some s1.2:Option ((List Int))).bind λy5 =>
some (.inl (w64 (s1.1+1),y5))) <|
some (.inr s1.2)
def gF (a0:ab) (a1:List Int):Option ((List Int)):=
(app 8 [] a1).bind λr1 =>
(cq a0).bind λy1 =>
sel (decide (y1<0)) (some r1) <|
(aC (kB y1) (0,r1)).bind λy2 =>
(nth y2 y1).bind λx3 =>
(upd y2 y1 y1).bind λr3 =>
sel (a0.Op==2) ((nth r3 y1).bind λx4 =>
(upd r3 y1 a0.A).bind λr4 =>
some r4) <|
some r3
def kC (a1:Int) (a2:List Int) (s1:Bool×Int×(List (List Int))):Option ((Bool×Int×(List (List Int)))⊕(Bool×(List (List Int)))):=
sel (decide (s1.2.1<12)) (((nth s1.2.2 a1).bind λx2 =>
(nth x2 s1.2.1).bind λx6 =>
(sel (x6 !=s1.2.1) ((nth x2 s1.2.1).bind λb_1=>(nth a2 s1.2.1).bind λb_2=>some (b_1 !=b_2)) (some false)).bind λb2 =>
sel b2 ((nth s1.2.2 a1).bind λx9 =>
(nth x9 s1.2.1).bind λx10 =>
(upd x9 s1.2.1 s1.2.1).bind λr2 =>
some (true,(s1.2.2.set (Int.toNat a1) r2))) <|
some (s1.1,s1.2.2):Option (Bool×(List (List Int)))).bind λy4 =>
some (.inl (y4.1,w64 (s1.2.1+1),y4.2))) <|
some (.inr (s1.1,s1.2.2))
def gG (a0:List (List Int)) (a1:Int) (a2:List Int):Option (Bool×(List (List Int))):=
(nth a0 a1).bind λx1 =>
sel ((x1.length:Int)==0) ((app 8 [] a2).bind λr1 =>
some (true,(a0.set (Int.toNat a1) r1))) <|
(aC (kC a1 a2) (false,0,a0)).bind λy1 =>
some (y1.1,y1.2)
def kD (y5:(List Int)) (y6:(List Int)) (s2:Bool×Int×(List (List Int))):Option ((Bool×Int×(List (List Int)))⊕(Bool×(List (List Int)))):=
sel (decide (s2.2.1<(y5.length:Int))) (((nth y5 s2.2.1).bind λx3 =>
(gG s2.2.2 x3 y6).bind λy11 =>
sel y11.1 (some (true,y11.2)) <|
some (s2.1,y11.2):Option (Bool×(List (List Int)))).bind λy10 =>
some (.inl (y10.1,w64 (s2.2.1+1),y10.2))) <|
some (.inr (s2.1,s2.2.2))
def kE (a0:List ab) (s1:Bool×Int×(List (List Int))):Option ((Bool×Int×(List (List Int)))⊕(Bool×(List (List Int)))):=
sel (decide (s1.2.1<(a0.length:Int))) (((nth s1.2.2 s1.2.1).bind λx1 =>
sel ((x1.length:Int)==0) (some (s1.1,s1.2.2)) <|
(dC a0 s1.2.1).bind λy5 =>
(nth a0 s1.2.1).bind λx2 =>
(gF x2 x1).bind λy6 =>
(aC (kD y5 y6) (s1.1,0,s1.2.2)).bind λy7 =>
some (y7.1,y7.2):Option (Bool×(List (List Int)))).bind λy4 =>
some (.inl (y4.1,w64 (s1.2.1+1),y4.2))) <|
some (.inr (s1.1,s1.2.2))
def gH (a0:List ab) (a1:List (List Int)):Option (Bool×(List (List Int))):=
(aC (kE a0) (false,0,a1)).bind λy1 =>
some (y1.1,y1.2)
def kF (a0:List ab) (s1:(List (List Int))×Int):Option (((List (List Int))×Int)⊕((List (List Int)))):=
sel (decide (s1.2<(a0.length:Int))) ((app 24 s1.1 [[]]).bind λr1 =>
some (.inl (r1,w64 (s1.2+1)))) <|
some (.inr s1.1)
def kG (a0:List ab) (s2:(List (List Int))):Option (((List (List Int)))⊕((List (List Int)))):=
(gH a0 s2).bind λy9 =>
sel y9.1 (some (.inl y9.2)) <|
some (.inr y9.2)
def kH (a0:List ab) (s3:Int×(List (List Int))):Option ((Int×(List (List Int)))⊕((List (List Int)))):=
sel (decide (s3.1<(a0.length:Int))) (((nth s3.2 s3.1).bind λx2 =>
sel ((x2.length:Int)==0) ((gn).bind λy14 =>
some (s3.2.set (Int.toNat s3.1) y14)) <|
some s3.2:Option ((List (List Int)))).bind λy13 =>
some (.inl (w64 (s3.1+1),y13))) <|
some (.inr s3.2)
def eR (a0:List ab):Option ((List (List Int))):=
(aV a0).bind λy1 =>
sel (!y1) (some []) <|
(aC (kF a0) ([],0)).bind λy2 =>
(gn).bind λy5 =>
(nth y2 0).bind λx1 =>
(aC (kG a0) (y2.set (Int.toNat 0) y5)).bind λy6 =>
(aC (kH a0) (0,y6)).bind λy10 =>
some y10
def iU (a0:ab) (a1:List Int):Option (ab):=
(sel (a0.Op==2) (some (a0.Op==2)) <|
sel (a0.Op==5) (some (a0.Op==5)) <|
sel (a0.Op==6) (some (a0.Op==6)) <|
some (a0.Op==9):Option (Bool)).bind λy1 =>
sel y1 ((nth a1 a0.A).bind λx1 =>
some (ab.mk a0.Op a0.Dst x1 a0.B a0.N)) <|
sel (a0.Op==3) ((nth a1 a0.A).bind λx2 =>
(nth a1 a0.B).bind λx3 =>
some (ab.mk a0.Op a0.Dst x2 x3 a0.N)) <|
some a0
def du (a0:List ab) (y2:(List (List Int))) (s1:(List ab)×Int):Option (((List ab)×Int)⊕((List ab))):=
sel (decide (s1.2<(a0.length:Int))) ((nth y2 s1.2).bind λx1 =>
(nth a0 s1.2).bind λx3 =>
(iU x3 x1).bind λy7 =>
(app 40 s1.1 [y7]).bind λr2 =>
some (.inl (r2,w64 (s1.2+1)))) <|
some (.inr s1.1)
def gI (a0:List ab):Option ((List ab)×Bool):=
(aV a0).bind λy1 =>
sel (!y1) (some ([],false)) <|
(eR a0).bind λy2 =>
(aC (du a0 y2) ([],0)).bind λy3 =>
some (y3,true)
def mw (a0:List ab) (s1:Int×Int):Option ((Int×Int)⊕(Int⊕Unit)):=
sel (decide (s1.2<(a0.length:Int))) ((nth a0 s1.1).bind λx1 =>
sel (x1.Op !=4) (some (.inr (.inl s1.1))) <|
(nth a0 s1.1).bind λx2 =>
some (.inl (x2.N,w64 (s1.2+1)))) <|
some (.inr (.inr ()))
def fv (a0:List ab) (a1:Int):Option (Int):=
(aC (mw a0) (a1,0)).bind λy1 =>
iI y1 (λo3=>some o3) (λo4 =>
some a1)
def dv (a0:List ab) (s1:(List ab)×Int):Option (((List ab)×Int)⊕((List ab))):=
sel (decide (s1.2<(a0.length:Int))) ((nth a0 s1.2).bind λx1 =>
(sel ((x1.Op==4)||(x1.Op==5)) ((fv a0 x1.N).bind λy6 =>
some (ab.mk x1.Op x1.Dst x1.A x1.B y6)) <|
some x1:Option (ab)).bind λy5 =>
(app 40 s1.1 [y5]).bind λr1 =>
some (.inl (r1,w64 (s1.2+1)))) <|
some (.inr s1.1)
def gJ (a0:List ab):Option ((List ab)×Bool):=
(aV a0).bind λy1 =>
sel (!y1) (some ([],false)) <|
(aC (dv a0) ([],0)).bind λy2 =>
some (y2,true)
def nb (a1:List (List Bool)) (y1:(List Int)) (s1:Int×(List Bool)) (s2:Int×(List Bool)):Option ((Int×(List Bool))⊕((List Bool))):=
sel (decide (s2.1<12)) ((nth s2.2 s2.1).bind λx1 =>
(sel x1 (some true) ((nth y1 s1.1).bind λx2=>(nth a1 x2).bind λx3=>(nth x3 s2.1).bind λx4=>some x4):Option (Bool)).bind λb1 =>
(nth s2.2 s2.1).bind λx5 =>
(upd s2.2 s2.1 b1).bind λr2 =>
some (.inl (w64 (s2.1+1),r2))) <|
some (.inr s2.2)
def nc (a1:List (List Bool)) (y1:(List Int)) (s1:Int×(List Bool)):Option ((Int×(List Bool))⊕((List Bool))):=
sel (decide (s1.1<(y1.length:Int))) ((aC (nb a1 y1 s1) (0,s1.2)).bind λy5 =>
some (.inl (w64 (s1.1+1),y5))) <|
some (.inr s1.2)
def gK (a0:List ab) (a1:List (List Bool)) (a2:Int):Option ((List Bool)):=
(mk 1 12 false).bind λr1 =>
(dC a0 a2).bind λy1 =>
(aC (nc a1 y1) (0,r1)).bind λy2 =>
some y2
def lq (a0:ab):Option ((List Int)):=
(fu a0 600).bind λy1 =>
sel (!y1) (some []) <|
(sel (a0.Op==2) (some (a0.Op==2)) <|
sel (a0.Op==5) (some (a0.Op==5)) <|
sel (a0.Op==6) (some (a0.Op==6)) <|
some (a0.Op==9):Option (Bool)).bind λy2 =>
sel y2 (some [a0.A]) <|
sel (a0.Op==3) (sel (a0.A==a0.B) (some [a0.A]) <|
some [min a0.A a0.B,max a0.A a0.B]) <|
some []
def mx (y4:(List Int)) (s1:Int×(List Bool)):Option ((Int×(List Bool))⊕((List Bool))):=
sel (decide (s1.1<(y4.length:Int))) ((nth y4 s1.1).bind λx2 =>
(nth s1.2 x2).bind λx3 =>
(upd s1.2 x2 true).bind λr3 =>
some (.inl (w64 (s1.1+1),r3))) <|
some (.inr s1.2)
def jV (a0:ab) (a1:List Bool):Option ((List Bool)):=
(app 1 [] a1).bind λr1 =>
((cq a0).bind λy2 =>
sel (decide (y2>=0)) ((cq a0).bind λy3 =>
(nth r1 y3).bind λx1 =>
(upd r1 y3 false).bind λr2 =>
some r2) <|
some r1:Option ((List Bool))).bind λy1 =>
(lq a0).bind λy4 =>
(aC (mx y4) (0,y1)).bind λy5 =>
some y5
def nM (a0:List Bool) (a1:List Bool) (s1:Int):Option (Int⊕(Bool⊕Unit)):=
sel (decide (s1<(a0.length:Int))) ((nth a0 s1).bind λx1 =>
(nth a1 s1).bind λx2 =>
sel (x1 !=x2) (some (.inr (.inl false))) <|
some (.inl (w64 (s1+1)))) <|
some (.inr (.inr ()))
def my (a0:List Bool) (a1:List Bool):Option (Bool):=
(aC (nM a0 a1) 0).bind λy1 =>
iI y1 (λo3=>some o3) (λo4 =>
some ((a0.length:Int)==(a1.length:Int)))
def eZ (a0:List ab) (s1:Bool×Int×(List (List Bool))):Option ((Bool×Int×(List (List Bool)))⊕(Bool×(List (List Bool)))):=
sel (decide (s1.2.1>=0)) (((nth a0 s1.2.1).bind λx1 =>
(gK a0 s1.2.2 s1.2.1).bind λy5 =>
(jV x1 y5).bind λy6 =>
(nth s1.2.2 s1.2.1).bind λx2 =>
(my y6 x2).bind λy7 =>
sel (!y7) (some (true,(s1.2.2.set (Int.toNat s1.2.1) y6))) <|
some (s1.1,s1.2.2):Option (Bool×(List (List Bool)))).bind λy4 =>
some (.inl (y4.1,w64 (s1.2.1-1),y4.2))) <|
some (.inr (s1.1,s1.2.2))
def dD (a0:List ab) (a1:List (List Bool)):Option (Bool×(List (List Bool))):=
(aC (eZ a0) (false,w64 ((a0.length:Int)-1),a1)).bind λy1 =>
some (y1.1,y1.2)
def jW (a0:List ab) (s1:(List (List Bool))×Int):Option (((List (List Bool))×Int)⊕((List (List Bool)))):=
sel (decide (s1.2<(a0.length:Int))) ((mk 1 12 false).bind λr1 =>
(app 24 s1.1 [r1]).bind λr2 =>
some (.inl (r2,w64 (s1.2+1)))) <|
some (.inr s1.1)
def bO (a0:List ab) (s2:(List (List Bool))):Option (((List (List Bool)))⊕((List (List Bool)))):=
(dD a0 s2).bind λy8 =>
sel y8.1 (some (.inl y8.2)) <|
some (.inr y8.2)
def eS (a0:List ab):Option ((List (List Bool))):=
(aV a0).bind λy1 =>
sel (!y1) (some []) <|
(aC (jW a0) ([],0)).bind λy2 =>
(aC (bO a0) y2).bind λy5 =>
some y5
def iV (a0:ab) (a1:List Bool):Option (Bool):=
(sel (a0.Op==1) (some (a0.Op==1)) <|
sel (a0.Op==2) (some (a0.Op==2)) <|
some (a0.Op==3):Option (Bool)).bind λy1 =>
sel y1 ((nth a1 a0.Dst).bind λx1 =>
some (!x1)) <|
some false
def dw (a0:List ab) (y2:(List (List Bool))) (s1:(List ab)×Int):Option (((List ab)×Int)⊕((List ab))):=
sel (decide (s1.2<(a0.length:Int))) ((nth a0 s1.2).bind λx1 =>
((gK a0 y2 s1.2).bind λy7 =>
(iV x1 y7).bind λy8 =>
sel y8 (some (ab.mk 4 0 0 0 (w64 (s1.2+1)))) <|
some x1:Option (ab)).bind λy6 =>
(app 40 s1.1 [y6]).bind λr1 =>
some (.inl (r1,w64 (s1.2+1)))) <|
some (.inr s1.1)
def gL (a0:List ab):Option ((List ab)×Bool):=
(aV a0).bind λy1 =>
sel (!y1) (some ([],false)) <|
(eS a0).bind λy2 =>
(aC (dw a0 y2) ([],0)).bind λy3 =>
some (y3,true)
def jx (y5:(List Int)) (s2:Bool×Int×(List Bool)):Option ((Bool×Int×(List Bool))⊕(Bool×(List Bool))):=
sel (decide (s2.2.1<(y5.length:Int))) (((nth y5 s2.2.1).bind λx2 =>
(nth s2.2.2 x2).bind λx3 =>
sel (!x3) ((nth y5 s2.2.1).bind λx4 =>
(nth s2.2.2 x4).bind λx5 =>
(upd s2.2.2 x4 true).bind λr1 =>
some (true,r1)) <|
some (s2.1,s2.2.2):Option (Bool×(List Bool))).bind λy9 =>
some (.inl (y9.1,w64 (s2.2.1+1),y9.2))) <|
some (.inr (s2.1,s2.2.2))
def jy (a0:List ab) (s1:Bool×Int×(List Bool)):Option ((Bool×Int×(List Bool))⊕(Bool×(List Bool))):=
sel (decide (s1.2.1<(a0.length:Int))) (((nth s1.2.2 s1.2.1).bind λx1 =>
sel (!x1) (some (s1.1,s1.2.2)) <|
(dC a0 s1.2.1).bind λy5 =>
(aC (jx y5) (s1.1,0,s1.2.2)).bind λy6 =>
some (y6.1,y6.2):Option (Bool×(List Bool))).bind λy4 =>
some (.inl (y4.1,w64 (s1.2.1+1),y4.2))) <|
some (.inr (s1.1,s1.2.2))
def fw (a0:List ab) (a1:List Bool):Option (Bool×(List Bool)):=
(aC (jy a0) (false,0,a1)).bind λy1 =>
some (y1.1,y1.2)
def jz (a0:List ab) (s1:(List Bool)):Option (((List Bool))⊕((List Bool))):=
(fw a0 s1).bind λy5 =>
sel y5.1 (some (.inl y5.2)) <|
some (.inr y5.2)
def cW (a0:List ab):Option ((List Bool)):=
(aV a0).bind λy1 =>
sel (!y1) (some []) <|
(mk 1 (a0.length:Int) false).bind λr1 =>
(nth r1 0).bind λx1 =>
(upd r1 0 true).bind λr2 =>
(aC (jz a0) r2).bind λy2 =>
some y2
def mz (a0:ab) (a1:Int):Option (Bool):=
(sel (a0.Op==4) (some (a0.Op==4)) <|
some (a0.Op==5):Option (Bool)).bind λy1 =>
sel y1 (some (a0.N==(w64 (a1+1)))) <|
sel (a0.Op==2) (some (a0.Dst==a0.A)) <|
some false
def nd (a0:List Bool) (a1:Int) (s1:Int×Int):Option ((Int×Int)⊕Int):=
sel (decide (s1.2<a1)) (((nth a0 s1.2).bind λx1 =>
sel x1 (some (w64 (s1.1+1))) <|
some s1.1:Option (Int)).bind λy4 =>
some (.inl (y4,w64 (s1.2+1)))) <|
some (.inr s1.1)
def lr (a0:List Bool) (a1:Int):Option (Int):=
(aC (nd a0 a1) (0,0)).bind λy1 =>
some y1
def eg (a0:List ab) (s1:Int×(List Bool)):Option ((Int×(List Bool))⊕((List Bool))):=
sel (decide (s1.1<(a0.length:Int))) ((nth s1.2 s1.1).bind λx1 =>
(sel x1 ((nth a0 s1.1).bind λx2=>(mz x2 s1.1).bind λy6=>some (!y6)) (some false):Option (Bool)).bind λb1 =>
(nth s1.2 s1.1).bind λx3 =>
(upd s1.2 s1.1 b1).bind λr1 =>
some (.inl (w64 (s1.1+1),r1))) <|
some (.inr s1.2)
def eh (a0:List ab) (y3:(List Bool)) (s2:(List ab)×Int):Option (((List ab)×Int)⊕((List ab))):=
sel (decide (s2.2<(a0.length:Int))) (((nth a0 s2.2).bind λx4 =>
(nth y3 s2.2).bind λx5 =>
sel (!x5) (some s2.1) <|
(sel ((x4.Op==4)||(x4.Op==5)) ((lr y3 x4.N).bind λy12 =>
some (ab.mk x4.Op x4.Dst x4.A x4.B y12)) <|
some x4:Option (ab)).bind λy11 =>
(app 40 s2.1 [y11]).bind λr2 =>
some r2:Option ((List ab))).bind λy10 =>
some (.inl (y10,w64 (s2.2+1)))) <|
some (.inr s2.1)
def dx (a0:List ab):Option ((List ab)×Bool):=
(aV a0).bind λy1 =>
sel (!y1) (some ([],false)) <|
(cW a0).bind λy2 =>
(aC (eg a0) (0,y2)).bind λy3 =>
(aC (eh a0 y3) ([],0)).bind λy7 =>
some (y7,true)
def oh (a0:List ab):Option ((List ab)):=
(gD a0).bind λy1 =>
(gI y1.1).bind λy2 =>
(gJ y2.1).bind λy3 =>
(gL y3.1).bind λy4 =>
(dx y4.1).bind λy5 =>
some y5.1
def bI (a1:Int) (s1:(List ab)×Int):Option (((List ab)×Int)⊕((List ab))):=
sel (decide (s1.2<a1)) ((oh s1.1).bind λy6 =>
some (.inl (y6,w64 (s1.2+1)))) <|
some (.inr s1.1)
def ch (a0:List ab) (a1:Int):Option ((List ab)×Bool):=
(aV a0).bind λy1 =>
(sel (!y1) (some true) ((aX a1 0 4).bind λy2=>some (!y2)):Option (Bool)).bind λb1 =>
sel b1 (some ([],false)) <|
(app 40 [] a0).bind λr1 =>
(aC (bI a1) (r1,0)).bind λy3 =>
some (y3,true)
def da (a0:List (List ab)) (a1:Int) (s1:(List (List ab))×Int):Option (((List (List ab))×Int)⊕(((List (List ab))×Bool)⊕((List (List ab))))):=
sel (decide (s1.2<(a0.length:Int))) ((nth a0 s1.2).bind λx1 =>
(ch x1 a1).bind λy5 =>
sel (!y5.2) (some (.inr (.inl ([],false)))) <|
(app 24 s1.1 [y5.1]).bind λr1 =>
some (.inl (r1,w64 (s1.2+1)))) <|
some (.inr (.inr s1.1))
def dy (a0:List (List ab)) (a1:Int):Option ((List (List ab))×Bool):=
(aX (a0.length:Int) 1 3).bind λy1 =>
sel (!y1) (some ([],false)) <|
(aC (da a0 a1) ([],0)).bind λy2 =>
iI y2 (λo3=>some o3) (λo4 =>
some (o4,true))
def nf (a0:List ab) (y1:(List (List Bool))) (s1:(List (List Bool))×Int):Option (((List (List Bool))×Int)⊕((List (List Bool)))):=
sel (decide (s1.2<(a0.length:Int))) ((gK a0 y1 s1.2).bind λy5 =>
(app 24 s1.1 [y5]).bind λr1 =>
some (.inl (r1,w64 (s1.2+1)))) <|
some (.inr s1.1)
def lu (a0:List ab):Option ((List (List Bool))):=
(eS a0).bind λy1 =>
(aC (nf a0 y1) ([],0)).bind λy2 =>
some y2
def jk (a0:ab) (a1:List Bool) (a2:Int) (a3:Int):Option (Bool):=
(cq a0).bind λy1 =>
(sel (y1 !=a2) (some true) ((nth a1 a3).bind λx1=>some (!x1)):Option (Bool)).bind λb1 =>
sel b1 (some false) <|
some ((a0.Op !=2)||(a0.A !=a3))
def nN (a0:List ab) (a1:List (List Bool)) (a2:Int) (a3:Int) (s1:Int):Option (Int⊕(Bool⊕Unit)):=
sel (decide (s1<(a0.length:Int))) ((nth a0 s1).bind λx1 =>
(nth a1 s1).bind λx2 =>
(jk x1 x2 a2 a3).bind λy4 =>
(sel y4 (some true) ((nth a0 s1).bind λb_1=>(nth a1 s1).bind λb_2=>(jk b_1 b_2 a3 a2).bind λb_3=>some b_3)).bind λb1 =>
sel b1 (some (.inr (.inl true))) <|
some (.inl (w64 (s1+1)))) <|
some (.inr (.inr ()))
def mA (a0:List ab) (a1:List (List Bool)) (a2:Int) (a3:Int):Option (Bool):=
sel (a2==a3) (some false) <|
(aC (nN a0 a1 a2 a3) 0).bind λy1 =>
iI y1 (λo3=>some o3) (λo4 =>
some false)
def kI (a0:List ab) (a1:List (List Bool)) (a2:List Int) (s1:Int) (s2:Bool×Int):Option ((Bool×Int)⊕Bool):=
sel (decide (s2.2<(a2.length:Int))) (((nth a2 s2.2).bind λx1 =>
(sel (x1==s1) ((mA a0 a1 s2.2 (a2.length:Int)).bind λy8=>some y8) (some false):Option (Bool)).bind λb1 =>
sel b1 (some false) <|
some s2.1:Option (Bool)).bind λy7 =>
some (.inl (y7,w64 (s2.2+1)))) <|
some (.inr s2.1)
def ng (a0:List ab) (a1:List (List Bool)) (a2:List Int) (s1:Int):Option (Int⊕(Int⊕Unit)):=
sel (decide (s1<(a2.length:Int))) ((aC (kI a0 a1 a2 s1) (true,0)).bind λy4 =>
sel y4 (some (.inr (.inl s1))) <|
some (.inl (w64 (s1+1)))) <|
some (.inr (.inr ()))
def lw (a0:List ab) (a1:List (List Bool)) (a2:List Int):Option (Int):=
(aC (ng a0 a1 a2) 0).bind λy1 =>
iI y1 (λo3=>some o3) (λo4 =>
some (a2.length:Int))
def nh (a0:List ab) (y2:(List (List Bool))) (s1:(List Int)×Int):Option (((List Int)×Int)⊕((List Int))):=
sel (decide (s1.2<12)) ((lw a0 y2 s1.1).bind λy6 =>
(app 8 s1.1 [y6]).bind λr1 =>
some (.inl (r1,w64 (s1.2+1)))) <|
some (.inr s1.1)
def jl (a0:List ab):Option ((List Int)):=
(aV a0).bind λy1 =>
sel (!y1) (some []) <|
(lu a0).bind λy2 =>
(aC (nh a0 y2) ([],0)).bind λy3 =>
some y3
def jX (a0:ab) (a1:List Int):Option (ab):=
((cq a0).bind λy2 =>
sel (decide (y2>=0)) ((nth a1 a0.Dst).bind λx1 =>
some (ab.mk a0.Op x1 a0.A a0.B a0.N)) <|
some a0:Option (ab)).bind λy1 =>
(sel (y1.Op==2) (some (y1.Op==2)) <|
sel (y1.Op==5) (some (y1.Op==5)) <|
sel (y1.Op==6) (some (y1.Op==6)) <|
some (y1.Op==9):Option (Bool)).bind λy3 =>
sel y3 ((nth a1 y1.A).bind λx2 =>
some (ab.mk y1.Op y1.Dst x2 y1.B y1.N)) <|
sel (y1.Op==3) ((nth a1 y1.A).bind λx3 =>
(nth a1 y1.B).bind λx4 =>
some (ab.mk y1.Op y1.Dst x3 x4 y1.N)) <|
some y1
def gp (a0:List ab) (y2:(List Int)) (s1:(List ab)×Int):Option (((List ab)×Int)⊕((List ab))):=
sel (decide (s1.2<(a0.length:Int))) ((nth a0 s1.2).bind λx1 =>
(jX x1 y2).bind λy6 =>
(app 40 s1.1 [y6]).bind λr1 =>
some (.inl (r1,w64 (s1.2+1)))) <|
some (.inr s1.1)
def ie (a0:List ab):Option ((List ab)×Bool):=
(aV a0).bind λy1 =>
sel (!y1) (some ([],false)) <|
(jl a0).bind λy2 =>
(aC (gp a0 y2) ([],0)).bind λy3 =>
some (y3,true)
def iW (y2:(List (List ab))×Bool) (s1:(List (List ab))×Int):Option (((List (List ab))×Int)⊕((List (List ab)))):=
sel (decide (s1.2<(y2.1.length:Int))) ((nth y2.1 s1.2).bind λx1 =>
(ie x1).bind λy6 =>
(app 24 s1.1 [y6.1]).bind λr1 =>
some (.inl (r1,w64 (s1.2+1)))) <|
some (.inr s1.1)
def fS (k:Nat) (a0:aF) (a1:Int):Option ((List (List ab))×Bool):=
(c9 k (aF.mk a0.Rooms a0.Tasks)).bind λy1 =>
sel (!y1.2) (some ([],false)) <|
(dy y1.1 a1).bind λy2 =>
sel (!y2.2) (some ([],false)) <|
(aC (iW y2) ([],0)).bind λy3 =>
some (y3,true)
def dH (a0:Int) (a1:Int) (a2:Int):Option (Int):=
sel (decide (a0>=a1)) (some a2) <|
(nth [8,9,18,19,20,21,22,23] a0).bind λx1 =>
some x1
def eT (a0:List Instr) (a1:Int) (a2:Int):Option ((List Instr)):=
sel (decide (a1<a2)) (some a0) <|
(app 40 a0 [(Instr.mk 16 0 2 7 (w64 (4*(w64 (a1-a2)))))]).bind λr1 =>
some r1
def nP (a0:Int) (s1:Int×Int):Option ((Int×Int)⊕Int):=
sel (decide (s1.2<a0)) (some (.inl (w64 (s1.1*2),w64 (s1.2+1)))) <|
some (.inr s1.1)
def cX (a0:Int):Option (Int):=
(aC (nP a0) (1,0)).bind λy1 =>
some y1
def i9 (a0:Int) (a1:Int):Option (Int):=
(aX a1 1 32).bind λy1 =>
(sel (!y1) (some true) ((cX a1).bind λy2=>(aX a0 0 (w64 (y2-1))).bind λy3=>some (!y3)):Option (Bool)).bind λb1 =>
sel b1 (some 0) <|
(cX (w64 (a1-1))).bind λy4 =>
sel (decide (a0>=y4)) ((cX a1).bind λy5 =>
some (w64 (a0-y5))) <|
some a0
def ml (a0:Int) (a1:Int) (a2:Int):Option (Int):=
(aX a0 0 4294967295).bind λy1 =>
(sel (!y1) (some true) ((aX a1 0 31).bind λy2=>some (!y2)):Option (Bool)).bind λb1 =>
(sel b1 (some true) ((aX a2 1 (w64 (32-a1))).bind λy3=>some (!y3)):Option (Bool)).bind λb2 =>
sel b2 (some 0) <|
(cX a1).bind λy4 =>
(uy .i64 a0 y4).bind λd1 =>
(cX a2).bind λy5 =>
(sI d1 y5).bind λd2 =>
some d2
def jm (a0:Int):Option (Int):=
(bN a0).bind λy1 =>
sel (!y1) (some (-1)) <|
sel (decide (a0<0)) (some (w64 (a0+4294967296))) <|
some a0
def ly (a0:Int) (a1:Int):Option ((List Instr)):=
(aX a1 (-2048) 2047).bind λy1 =>
sel y1 (some [(Instr.mk 12 a0 0 0 a1)]) <|
(jm a1).bind λy2 =>
(ml y2 0 12).bind λy3 =>
(i9 y3 12).bind λy4 =>
(dn (w64 (a1-y4))).bind λy5 =>
(jm y5).bind λy6 =>
(ml y6 12 20).bind λy7 =>
(app 40 [(Instr.mk 19 a0 0 0 y7)] [(Instr.mk 12 a0 a0 0 y4)]).bind λr1 =>
some r1
def eH (a0:Int) (a1:Int) (a2:Int):Option ((List Instr)):=
sel (decide (a0<a1)) (some []) <|
some [(Instr.mk 14 a2 2 0 (w64 (4*(w64 (a0-a1)))))]
def gq (a0:Int) (a1:Int):Option (Instr):=
some (Instr.mk 12 a0 a1 0 0)
def oK (a0:Int):Option (Int):=
(nth [7,8,6,8,11,9,10,1,2,3,4,5] (w64 (a0-1))).bind λx1 =>
some x1
def pf (a0:ab) (a1:Int):Option ((List Instr)):=
(eH a0.A a1 5).bind λy1 =>
(eH a0.B a1 6).bind λy2 =>
(app 40 y1 y2).bind λr1 =>
(dH a0.Dst a1 7).bind λy3 =>
(oK a0.N).bind λy4 =>
(dH a0.A a1 5).bind λy5 =>
(dH a0.B a1 6).bind λy6 =>
(app 40 r1 [(Instr.mk y4 y3 y5 y6 0)]).bind λr2 =>
(sel (a0.N==4) ((app 40 r2 [(Instr.mk 13 y3 y3 0 1)]).bind λr3 =>
some r3) <|
some r2:Option ((List Instr))).bind λy7 =>
(eT y7 a0.Dst a1).bind λy8 =>
some y8
def ol (a0:ab) (a1:Int) (a2:Int):Option ((List Instr)):=
(eH a0.A a1 5).bind λy1 =>
(dH a0.A a1 5).bind λy2 =>
(app 40 y1 [(Instr.mk 18 0 y2 0 8)]).bind λr1 =>
(app 40 r1 [(Instr.mk 20 0 0 0 (w64 (a2-(w64 (4*(r1.length:Int))))))]).bind λr2 =>
some r2
def eI (a0:List Instr) (a1:Int):Option ((List Instr)):=
(app 40 a0 [(Instr.mk 12 17 0 0 a1)]).bind λr1 =>
(app 40 r1 [(Instr.mk 15 1 0 0 0)]).bind λr2 =>
some r2
def kJ (a0:Int) (a1:Int):Option ((List Instr)):=
(eH a0 a1 5).bind λy1 =>
(dH a0 a1 5).bind λy2 =>
(gq 10 y2).bind λy3 =>
(app 40 y1 [y3]).bind λr1 =>
some r1
def mm (a0:Int):Option (Instr):=
some (Instr.mk 12 11 0 0 a0)
def kK (a0:ab) (a1:Int) (a2:Int):Option ((List Instr)):=
(dH a0.Dst a1 7).bind λy1 =>
sel (a0.Op==1) ((ly y1 a0.N).bind λy2 =>
(eT y2 a0.Dst a1).bind λy3 =>
some y3) <|
sel (a0.Op==2) ((eH a0.A a1 5).bind λy4 =>
(dH a0.A a1 5).bind λy5 =>
(gq y1 y5).bind λy6 =>
(app 40 y4 [y6]).bind λr1 =>
(eT r1 a0.Dst a1).bind λy7 =>
some y7) <|
sel (a0.Op==3) ((pf a0 a1).bind λy8 =>
some y8) <|
sel (a0.Op==4) (some [(Instr.mk 20 0 0 0 a2)]) <|
sel (a0.Op==5) ((ol a0 a1 a2).bind λy9 =>
some y9) <|
sel (a0.Op==6) ((kJ a0.A a1).bind λy10 =>
(mm a0.N).bind λy11 =>
(app 40 y10 [y11]).bind λr2 =>
(eI r2 1).bind λy12 =>
some y12) <|
sel (a0.Op==7) ((mm a0.N).bind λy13 =>
(eI [y13] 2).bind λy14 =>
(gq y1 10).bind λy15 =>
(app 40 y14 [y15]).bind λr3 =>
(eT r3 a0.Dst a1).bind λy16 =>
some y16) <|
sel (a0.Op==8) ((eI [] 3).bind λy17 =>
some y17) <|
sel (a0.Op==9) ((kJ a0.A a1).bind λy18 =>
(eI y18 4).bind λy19 =>
some y19) <|
(eI [] 5).bind λy20 =>
some y20
def mB (a0:List ab) (a1:Int) (s1:(List Int)×Int×Int):Option (((List Int)×Int×Int)⊕((List Int))):=
sel (decide (s1.2.2<(a0.length:Int))) ((app 8 s1.1 [s1.2.1]).bind λr1 =>
(nth a0 s1.2.2).bind λx1 =>
(kK x1 a1 0).bind λy4 =>
some (.inl (r1,w64 (s1.2.1+(y4.length:Int)),w64 (s1.2.2+1)))) <|
some (.inr s1.1)
def jY (a0:List ab) (a1:Int):Option ((List Int)):=
(aC (mB a0 a1) ([],0,0)).bind λy1 =>
some y1
def nQ (a0:List ab) (a1:Int) (y1:(List Int)) (s1:(List Instr)×Int):Option (((List Instr)×Int)⊕((List Instr))):=
sel (decide (s1.2<(a0.length:Int))) (((nth a0 s1.2).bind λx1 =>
(sel (x1.Op==4) (some true) ((nth a0 s1.2).bind λx2=>some (x2.Op==5)):Option (Bool)).bind λb1 =>
sel b1 ((nth a0 s1.2).bind λx3 =>
(nth y1 x3.N).bind λx4 =>
(nth y1 s1.2).bind λx5 =>
some (w64 (4*(w64 (x4-x5))))) <|
some 0:Option (Int)).bind λy5 =>
(nth a0 s1.2).bind λx6 =>
(kK x6 a1 y5).bind λy6 =>
(app 40 s1.1 y6).bind λr1 =>
some (.inl (r1,w64 (s1.2+1)))) <|
some (.inr s1.1)
def mC (a0:List ab) (a1:Int):Option ((List Instr)):=
(jY a0 a1).bind λy1 =>
(aC (nQ a0 a1 y1) ([],0)).bind λy2 =>
some y2
def iX (a2:Int) (y1:(List (List ab))×Bool) (s1:(List (List Instr))×Int):Option (((List (List Instr))×Int)⊕((List (List Instr)))):=
sel (decide (s1.2<(y1.1.length:Int))) ((nth y1.1 s1.2).bind λx1 =>
(mC x1 a2).bind λy6 =>
(app 24 s1.1 [y6]).bind λr1 =>
some (.inl (r1,w64 (s1.2+1)))) <|
some (.inr s1.1)
def d8 (k:Nat) (a0:aF) (a1:Int) (a2:Int):Option ((List (List Instr))×Bool):=
(fS k (aF.mk a0.Rooms a0.Tasks) a1).bind λy1 =>
(sel (!y1.2) (some true) ((aX a2 1 8).bind λy2=>some (!y2)):Option (Bool)).bind λb1 =>
sel b1 (some ([],false)) <|
(aC (iX a2 y1) ([],0)).bind λy3 =>
some (y3,true)
def nC (a0:List Int) (a1:Int):Option (Int):=
sel (decide ((w64 (a1-(a0.length:Int)))<0)) (some (-1)) <|
some (w64 (a1-(a0.length:Int)))
def gM (k:Nat) (cJ:ay->Int->Option (Int)) (dI:List ay->Int->Option (Int)) (a0:ay) (a1:Int):Option (Int):=
(dI a0.Args a1).bind λy1 =>
sel (decide (y1<0)) (some (-1)) <|
some y1
def lW (a0:List ay) (cJ:ay->Int->Option (Int)) (s1:Int×Int):Option ((Int×Int)⊕(Int⊕Int)):=
sel (decide (s1.2<(a0.length:Int))) ((nth a0 s1.2).bind λx1 =>
(cJ (ay.mk x1.Op x1.N x1.Args) s1.1).bind λy4 =>
sel (decide (y4<0)) (some (.inr (.inl (-1)))) <|
some (.inl (y4,w64 (s1.2+1)))) <|
some (.inr (.inr s1.1))
def jZ (k:Nat) (cJ:ay->Int->Option (Int)) (dI:List ay->Int->Option (Int)) (a0:List ay) (a1:Int):Option (Int):=
sel (decide ((w64 (a1-(a0.length:Int)))<0)) (some (-1)) <|
(aC (lW a0 cJ) (w64 (a1-(a0.length:Int)),0)).bind λy1 =>
iI y1 (λo3=>some o3) (λo4 =>
some o4)
def fT:Nat->(ay->Int->Option (Int))×(List ay->Int->Option (Int))
 | 0=>((λ_ _=>none),(λ_ _=>none))
 | k+1=>(gM k (fT k).1 (fT k).2,jZ k (fT k).1 (fT k).2)
def j1 (k:Nat):ay->Int->Option (Int):=(fT k).1
def mD (k:Nat):List ay->Int->Option (Int):=(fT k).2
def lX (a0:List au) (cK:au->Int->Option (Int)) (s1:Int×Int):Option ((Int×Int)⊕(Int⊕Int)):=
sel (decide (s1.2<(a0.length:Int))) ((nth a0 s1.2).bind λx1 =>
(cK (au.mk x1.Kind x1.Var x1.Box (ay.mk x1.Expr.Op x1.Expr.N x1.Expr.Args) x1.Body x1.Else) s1.1).bind λy4 =>
sel (decide (y4<0)) (some (.inr (.inl (-1)))) <|
some (.inl (y4,w64 (s1.2+1)))) <|
some (.inr (.inr s1.1))
def j2 (k:Nat) (cY:List au->Int->Option (Int)) (cK:au->Int->Option (Int)) (a0:List au) (a1:Int):Option (Int):=
sel (decide ((w64 (a1-(a0.length:Int)))<0)) (some (-1)) <|
(aC (lX a0 cK) (w64 (a1-(a0.length:Int)),0)).bind λy1 =>
iI y1 (λo3=>some o3) (λo4 =>
some o4)
def lz (k:Nat) (cY:List au->Int->Option (Int)) (cK:au->Int->Option (Int)) (a0:au) (a1:Int):Option (Int):=
(j1 k (ay.mk a0.Expr.Op a0.Expr.N a0.Expr.Args) a1).bind λy1 =>
sel (decide (y1<0)) (some (-1)) <|
(cY a0.Body y1).bind λy2 =>
sel (decide (y2<0)) (some (-1)) <|
(cY a0.Else y2).bind λy3 =>
sel (decide (y3<0)) (some (-1)) <|
some y3
def fb:Nat->(List au->Int->Option (Int))×(au->Int->Option (Int))
 | 0=>((λ_ _=>none),(λ_ _=>none))
 | k+1=>(j2 k (fb k).1 (fb k).2,lz k (fb k).1 (fb k).2)
def kL (k:Nat):List au->Int->Option (Int):=(fb k).1
def qz (k:Nat):au->Int->Option (Int):=(fb k).2
def kM (a0:List (List au)) (k:Nat) (s1:Int×Int):Option ((Int×Int)⊕(Int⊕Int)):=
sel (decide (s1.2<(a0.length:Int))) ((nth a0 s1.2).bind λx1 =>
(kL k x1 s1.1).bind λy4 =>
sel (decide (y4<0)) (some (.inr (.inl (-1)))) <|
some (.inl (y4,w64 (s1.2+1)))) <|
some (.inr (.inr s1.1))
def lC (k:Nat) (a0:List (List au)) (a1:Int):Option (Int):=
sel (decide ((w64 (a1-(a0.length:Int)))<0)) (some (-1)) <|
(aC (kM a0 k) (w64 (a1-(a0.length:Int)),0)).bind λy1 =>
iI y1 (λo3=>some o3) (λo4 =>
some o4)
def j3 (k:Nat) (a0:aR) (a1:Int):Option (Int):=
(nC a0.Rooms a1).bind λy1 =>
sel (decide (y1<0)) (some (-1)) <|
(lC k a0.Tasks y1).bind λy2 =>
sel (decide (y2<0)) (some (-1)) <|
some y2
def mF (a0:List Int) (s1:Int×(List Int)):Option ((Int×(List Int))⊕((List Int))):=
sel (decide (s1.1<(a0.length:Int))) ((nth a0 s1.1).bind λx1 =>
(nth s1.2 s1.1).bind λx2 =>
(upd s1.2 s1.1 x1).bind λr2 =>
some (.inl (w64 (s1.1+1),r2))) <|
some (.inr s1.2)
def nD (a0:List Int):Option ((List Int)):=
(mk 8 (a0.length:Int) 0).bind λr1 =>
(aC (mF a0) (0,r1)).bind λy1 =>
some y1
def gN (k:Nat) (cL:ay->Option (Expr)) (dJ:List ay->Option ((List Expr))) (a0:ay):Option (Expr):=
(dJ a0.Args).bind λy1 =>
some (Expr.mk a0.Op a0.N y1)
def lY (a0:List ay) (cL:ay->Option (Expr)) (s1:Int×(List Expr)):Option ((Int×(List Expr))⊕((List Expr))):=
sel (decide (s1.1<(a0.length:Int))) ((nth a0 s1.1).bind λx1 =>
(cL (ay.mk x1.Op x1.N x1.Args)).bind λy4 =>
(nth s1.2 s1.1).bind λx2 =>
some (.inl (w64 (s1.1+1),(s1.2.set (Int.toNat s1.1) (Expr.mk y4.Op y4.N y4.Args))))) <|
some (.inr s1.2)
def j4 (k:Nat) (cL:ay->Option (Expr)) (dJ:List ay->Option ((List Expr))) (a0:List ay):Option ((List Expr)):=
(mk 40 (a0.length:Int) (Expr.mk 0 0 [])).bind λr1 =>
(aC (lY a0 cL) (0,r1)).bind λy1 =>
some y1
def fU:Nat->(ay->Option (Expr))×(List ay->Option ((List Expr)))
 | 0=>((λ_=>none),(λ_=>none))
 | k+1=>(gN k (fU k).1 (fU k).2,j4 k (fU k).1 (fU k).2)
def j5 (k:Nat):ay->Option (Expr):=(fU k).1
def mG (k:Nat):List ay->Option ((List Expr)):=(fU k).2
def lZ (a0:List au) (cM:au->Option (ae)) (s1:Int×(List ae)):Option ((Int×(List ae))⊕((List ae))):=
sel (decide (s1.1<(a0.length:Int))) ((nth a0 s1.1).bind λx1 =>
(cM (au.mk x1.Kind x1.Var x1.Box (ay.mk x1.Expr.Op x1.Expr.N x1.Expr.Args) x1.Body x1.Else)).bind λy4 =>
(nth s1.2 s1.1).bind λx2 =>
some (.inl (w64 (s1.1+1),(s1.2.set (Int.toNat s1.1) (ae.mk y4.Kind y4.Var y4.Box (Expr.mk y4.Expr.Op y4.Expr.N y4.Expr.Args) y4.Body y4.Else))))) <|
some (.inr s1.2)
def j6 (k:Nat) (cZ:List au->Option ((List ae))) (cM:au->Option (ae)) (a0:List au):Option ((List ae)):=
(mk 112 (a0.length:Int) (ae.mk 0 0 0 (Expr.mk 0 0 []) [] [])).bind λr1 =>
(aC (lZ a0 cM) (0,r1)).bind λy1 =>
some y1
def lD (k:Nat) (cZ:List au->Option ((List ae))) (cM:au->Option (ae)) (a0:au):Option (ae):=
(j5 k (ay.mk a0.Expr.Op a0.Expr.N a0.Expr.Args)).bind λy1 =>
(cZ a0.Body).bind λy2 =>
(cZ a0.Else).bind λy3 =>
some (ae.mk a0.Kind a0.Var a0.Box (Expr.mk y1.Op y1.N y1.Args) y2 y3)
def fc:Nat->(List au->Option ((List ae)))×(au->Option (ae))
 | 0=>((λ_=>none),(λ_=>none))
 | k+1=>(j6 k (fc k).1 (fc k).2,lD k (fc k).1 (fc k).2)
def kN (k:Nat):List au->Option ((List ae)):=(fc k).1
def qA (k:Nat):au->Option (ae):=(fc k).2
def kO (a0:List (List au)) (k:Nat) (s1:Int×(List (List ae))):Option ((Int×(List (List ae)))⊕((List (List ae)))):=
sel (decide (s1.1<(a0.length:Int))) ((nth a0 s1.1).bind λx1 =>
(kN k x1).bind λy4 =>
(nth s1.2 s1.1).bind λx2 =>
some (.inl (w64 (s1.1+1),(s1.2.set (Int.toNat s1.1) y4)))) <|
some (.inr s1.2)
def lF (k:Nat) (a0:List (List au)):Option ((List (List ae))):=
(mk 24 (a0.length:Int) []).bind λr1 =>
(aC (kO a0 k) (0,r1)).bind λy1 =>
some y1
def dK (k:Nat) (a0:aR):Option (aF):=
(nD a0.Rooms).bind λy1 =>
(lF k a0.Tasks).bind λy2 =>
some (aF.mk y1 y2)
def mH (a0:Instr) (a1:Instr):Option (Bool):=
sel (a0.Op !=a1.Op) (some false) <|
sel (a0.Rd !=a1.Rd) (some false) <|
sel (a0.Rs !=a1.Rs) (some false) <|
sel (a0.Rt !=a1.Rt) (some false) <|
sel (a0.Imm !=a1.Imm) (some false) <|
some true
def ig (a0:List Instr) (a1:List Instr) (s1:Int):Option (Int⊕(Bool⊕Unit)):=
sel (decide (s1<(a0.length:Int))) ((nth a0 s1).bind λx1 =>
(nth a1 s1).bind λx2 =>
(mH x1 x2).bind λy4 =>
sel (!y4) (some (.inr (.inl false))) <|
some (.inl (w64 (s1+1)))) <|
some (.inr (.inr ()))
def lG (a0:List Instr) (a1:List Instr):Option (Bool):=
sel ((a0.length:Int) !=(a1.length:Int)) (some false) <|
(aC (ig a0 a1) 0).bind λy1 =>
iI y1 (λo3=>some o3) (λo4 =>
some true)
def gr (a0:List (List Instr)) (a1:List (List Instr)) (s1:Int):Option (Int⊕(Bool⊕Unit)):=
sel (decide (s1<(a0.length:Int))) ((nth a0 s1).bind λx1 =>
(nth a1 s1).bind λx2 =>
(lG x1 x2).bind λy4 =>
sel (!y4) (some (.inr (.inl false))) <|
some (.inl (w64 (s1+1)))) <|
some (.inr (.inr ()))
def fy (a0:List (List Instr)) (a1:List (List Instr)):Option (Bool):=
sel ((a0.length:Int) !=(a1.length:Int)) (some false) <|
(aC (gr a0 a1) 0).bind λy1 =>
iI y1 (λo3=>some o3) (λo4 =>
some true)
def j7 (a0:List Int) (a1:List Int) (s1:Int):Option (Int⊕(Bool⊕Unit)):=
sel (decide (s1<(a0.length:Int))) ((nth a0 s1).bind λx1 =>
(nth a1 s1).bind λx2 =>
sel (x1 !=x2) (some (.inr (.inl false))) <|
some (.inl (w64 (s1+1)))) <|
some (.inr (.inr ()))
def nF (a0:List Int) (a1:List Int):Option (Bool):=
sel ((a0.length:Int) !=(a1.length:Int)) (some false) <|
(aC (j7 a0 a1) 0).bind λy1 =>
iI y1 (λo3=>some o3) (λo4 =>
some true)
def gO (k:Nat) (cN:Expr->Expr->Option (Bool)) (dL:List Expr->List Expr->Option (Bool)) (a0:Expr) (a1:Expr):Option (Bool):=
sel (a0.Op !=a1.Op) (some false) <|
sel (a0.N !=a1.N) (some false) <|
(dL a0.Args a1.Args).bind λy1 =>
sel (!y1) (some false) <|
some true
def ja (a0:List Expr) (a1:List Expr) (cN:Expr->Expr->Option (Bool)) (s1:Int):Option (Int⊕(Bool⊕Unit)):=
sel (decide (s1<(a0.length:Int))) ((nth a0 s1).bind λx1 =>
(nth a1 s1).bind λx2 =>
(cN (Expr.mk x1.Op x1.N x1.Args) (Expr.mk x2.Op x2.N x2.Args)).bind λy4 =>
sel (!y4) (some (.inr (.inl false))) <|
some (.inl (w64 (s1+1)))) <|
some (.inr (.inr ()))
def j8 (k:Nat) (cN:Expr->Expr->Option (Bool)) (dL:List Expr->List Expr->Option (Bool)) (a0:List Expr) (a1:List Expr):Option (Bool):=
sel ((a0.length:Int) !=(a1.length:Int)) (some false) <|
(aC (ja a0 a1 cN) 0).bind λy1 =>
iI y1 (λo3=>some o3) (λo4 =>
some true)
def fV:Nat->(Expr->Expr->Option (Bool))×(List Expr->List Expr->Option (Bool))
 | 0=>((λ_ _=>none),(λ_ _=>none))
 | k+1=>(gO k (fV k).1 (fV k).2,j8 k (fV k).1 (fV k).2)
def iG (k:Nat):Expr->Expr->Option (Bool):=(fV k).1
def mI (k:Nat):List Expr->List Expr->Option (Bool):=(fV k).2
def jb (a0:List ae) (a1:List ae) (cP:ae->ae->Option (Bool)) (s1:Int):Option (Int⊕(Bool⊕Unit)):=
sel (decide (s1<(a0.length:Int))) ((nth a0 s1).bind λx1 =>
(nth a1 s1).bind λx2 =>
(cP (ae.mk x1.Kind x1.Var x1.Box (Expr.mk x1.Expr.Op x1.Expr.N x1.Expr.Args) x1.Body x1.Else) (ae.mk x2.Kind x2.Var x2.Box (Expr.mk x2.Expr.Op x2.Expr.N x2.Expr.Args) x2.Body x2.Else)).bind λy4 =>
sel (!y4) (some (.inr (.inl false))) <|
some (.inl (w64 (s1+1)))) <|
some (.inr (.inr ()))
def j9 (k:Nat) (c6:List ae->List ae->Option (Bool)) (cP:ae->ae->Option (Bool)) (a0:List ae) (a1:List ae):Option (Bool):=
sel ((a0.length:Int) !=(a1.length:Int)) (some false) <|
(aC (jb a0 a1 cP) 0).bind λy1 =>
iI y1 (λo3=>some o3) (λo4 =>
some true)
def lH (k:Nat) (c6:List ae->List ae->Option (Bool)) (cP:ae->ae->Option (Bool)) (a0:ae) (a1:ae):Option (Bool):=
sel (a0.Kind !=a1.Kind) (some false) <|
sel (a0.Var !=a1.Var) (some false) <|
sel (a0.Box !=a1.Box) (some false) <|
(iG k (Expr.mk a0.Expr.Op a0.Expr.N a0.Expr.Args) (Expr.mk a1.Expr.Op a1.Expr.N a1.Expr.Args)).bind λy1 =>
sel (!y1) (some false) <|
(c6 a0.Body a1.Body).bind λy2 =>
sel (!y2) (some false) <|
(c6 a0.Else a1.Else).bind λy3 =>
sel (!y3) (some false) <|
some true
def fd:Nat->(List ae->List ae->Option (Bool))×(ae->ae->Option (Bool))
 | 0=>((λ_ _=>none),(λ_ _=>none))
 | k+1=>(j9 k (fd k).1 (fd k).2,lH k (fd k).1 (fd k).2)
def kP (k:Nat):List ae->List ae->Option (Bool):=(fd k).1
def pg (k:Nat):ae->ae->Option (Bool):=(fd k).2
def ij (a0:List (List ae)) (a1:List (List ae)) (k:Nat) (s1:Int):Option (Int⊕(Bool⊕Unit)):=
sel (decide (s1<(a0.length:Int))) ((nth a0 s1).bind λx1 =>
(nth a1 s1).bind λx2 =>
(kP k x1 x2).bind λy4 =>
sel (!y4) (some (.inr (.inl false))) <|
some (.inl (w64 (s1+1)))) <|
some (.inr (.inr ()))
def lI (k:Nat) (a0:List (List ae)) (a1:List (List ae)):Option (Bool):=
sel ((a0.length:Int) !=(a1.length:Int)) (some false) <|
(aC (ij a0 a1 k) 0).bind λy1 =>
iI y1 (λo3=>some o3) (λo4 =>
some true)
def kc (k:Nat) (a0:aF) (a1:aF):Option (Bool):=
(nF a0.Rooms a1.Rooms).bind λy1 =>
sel (!y1) (some false) <|
(lI k a0.Tasks a1.Tasks).bind λy2 =>
sel (!y2) (some false) <|
some true
def ik (s1:Int×Int×(List Int)):Option ((Int×Int×(List Int))⊕(Int×(List Int))):=
sel (decide (s1.2.1<(s1.2.2.length:Int))) ((nth s1.2.2 s1.2.1).bind λx1 =>
(upd s1.2.2 s1.2.1 s1.1).bind λr1 =>
some (.inl (w64 (s1.1+1),w64 (s1.2.1+1),r1))) <|
some (.inr (s1.1,s1.2.2))
def lJ (a0:List Int) (a1:Int):Option (Int×(List Int)):=
(aC (ik) (a1,0,a0)).bind λy1 =>
some (y1.1,y1.2)
def gu (ff:List Expr->Int->Option (Int×(List Expr))) (s1:Int×Int×(List Expr)):Option ((Int×Int×(List Expr))⊕(Int×(List Expr))):=
sel (decide (s1.2.1<(s1.2.2.length:Int))) ((nth s1.2.2 s1.2.1).bind λx1 =>
(ff x1.Args (w64 ((w64 (s1.1+1))+1))).bind λy4 =>
some (.inl (y4.1,w64 (s1.2.1+1),(s1.2.2.set (Int.toNat s1.2.1) (Expr.mk s1.1 (w64 (s1.1+1)) y4.2))))) <|
some (.inr (s1.1,s1.2.2))
def il (k:Nat) (ff:List Expr->Int->Option (Int×(List Expr))) (a0:List Expr) (a1:Int):Option (Int×(List Expr)):=
(aC (gu ff) (a1,0,a0)).bind λy1 =>
some (y1.1,y1.2)
def oL:Nat->(List Expr->Int->Option (Int×(List Expr)))
 | 0=>((λ_ _=>none))
 | k+1=>(il k (oL k))
def fz (k:Nat):List Expr->Int->Option (Int×(List Expr)):=(oL k)
def dS (dz:List ae->Int->Option (Int×(List ae))) (k:Nat) (s1:Int×Int×(List ae)):Option ((Int×Int×(List ae))⊕(Int×(List ae))):=
sel (decide (s1.2.1<(s1.2.2.length:Int))) ((nth s1.2.2 s1.2.1).bind λx1 =>
(fz k x1.Expr.Args (w64 ((w64 ((w64 ((w64 ((w64 (s1.1+1))+1))+1))+1))+1))).bind λy4 =>
(dz x1.Body y4.1).bind λy5 =>
(dz x1.Else y5.1).bind λy6 =>
some (.inl (y6.1,w64 (s1.2.1+1),(s1.2.2.set (Int.toNat s1.2.1) (ae.mk s1.1 (w64 (s1.1+1)) (w64 ((w64 (s1.1+1))+1)) (Expr.mk (w64 ((w64 ((w64 (s1.1+1))+1))+1)) (w64 ((w64 ((w64 ((w64 (s1.1+1))+1))+1))+1)) y4.2) y5.2 y6.2))))) <|
some (.inr (s1.1,s1.2.2))
def im (k:Nat) (dz:List ae->Int->Option (Int×(List ae))) (a0:List ae) (a1:Int):Option (Int×(List ae)):=
(aC (dS dz k) (a1,0,a0)).bind λy1 =>
some (y1.1,y1.2)
def oM:Nat->(List ae->Int->Option (Int×(List ae)))
 | 0=>((λ_ _=>none))
 | k+1=>(im k (oM k))
def fC (k:Nat):List ae->Int->Option (Int×(List ae)):=(oM k)
def dA (k:Nat) (s1:Int×Int×(List (List ae))):Option ((Int×Int×(List (List ae)))⊕(Int×(List (List ae)))):=
sel (decide (s1.2.1<(s1.2.2.length:Int))) ((nth s1.2.2 s1.2.1).bind λx1 =>
(fC k x1 s1.1).bind λy4 =>
some (.inl (y4.1,w64 (s1.2.1+1),(s1.2.2.set (Int.toNat s1.2.1) y4.2)))) <|
some (.inr (s1.1,s1.2.2))
def jc (k:Nat) (a0:List (List ae)) (a1:Int):Option (Int×(List (List ae))):=
(aC (dA k) (a1,0,a0)).bind λy1 =>
some (y1.1,y1.2)
def io (k:Nat) (a0:aF) (a1:Int):Option (Int×(List Int)×(List (List ae))):=
(lJ a0.Rooms a1).bind λy1 =>
(jc k a0.Tasks y1.1).bind λy2 =>
some (y2.1,y1.2,y2.2)
def fD (s1:Int×Int×(List Instr)):Option ((Int×Int×(List Instr))⊕(Int×(List Instr))):=
sel (decide (s1.2.1<(s1.2.2.length:Int))) ((nth s1.2.2 s1.2.1).bind λx1 =>
(upd s1.2.2 s1.2.1 (Instr.mk s1.1 x1.Rd x1.Rs x1.Rt x1.Imm)).bind λr1 =>
(nth r1 s1.2.1).bind λx2 =>
(upd r1 s1.2.1 (Instr.mk x2.Op (w64 (s1.1+1)) x2.Rs x2.Rt x2.Imm)).bind λr2 =>
(nth r2 s1.2.1).bind λx3 =>
(upd r2 s1.2.1 (Instr.mk x3.Op x3.Rd (w64 ((w64 (s1.1+1))+1)) x3.Rt x3.Imm)).bind λr3 =>
(nth r3 s1.2.1).bind λx4 =>
(upd r3 s1.2.1 (Instr.mk x4.Op x4.Rd x4.Rs (w64 ((w64 ((w64 (s1.1+1))+1))+1)) x4.Imm)).bind λr4 =>
(nth r4 s1.2.1).bind λx5 =>
(upd r4 s1.2.1 (Instr.mk x5.Op x5.Rd x5.Rs x5.Rt (w64 ((w64 ((w64 ((w64 (s1.1+1))+1))+1))+1)))).bind λr5 =>
some (.inl (w64 ((w64 ((w64 ((w64 ((w64 (s1.1+1))+1))+1))+1))+1),w64 (s1.2.1+1),r5))) <|
some (.inr (s1.1,s1.2.2))
def fW (a0:List Instr) (a1:Int):Option (Int×(List Instr)):=
(aC (fD) (a1,0,a0)).bind λy1 =>
some (y1.1,y1.2)
def eo (s1:Int×Int×(List (List Instr))):Option ((Int×Int×(List (List Instr)))⊕(Int×(List (List Instr)))):=
sel (decide (s1.2.1<(s1.2.2.length:Int))) ((nth s1.2.2 s1.2.1).bind λx1 =>
(fW x1 s1.1).bind λy4 =>
some (.inl (y4.1,w64 (s1.2.1+1),(s1.2.2.set (Int.toNat s1.2.1) y4.2)))) <|
some (.inr (s1.1,s1.2.2))
def ip (a0:List (List Instr)) (a1:Int):Option (Int×(List (List Instr))):=
(aC (eo) (a1,0,a0)).bind λy1 =>
some (y1.1,y1.2)
def fE (a0:List Instr) (s1:Int×Int):Option ((Int×Int)⊕(Int⊕Int)):=
sel (decide (s1.2<(a0.length:Int))) ((nth a0 s1.2).bind λx1 =>
sel (x1.Op !=s1.1) (some (.inr (.inl (-1)))) <|
(nth a0 s1.2).bind λx2 =>
sel (x2.Rd !=(w64 (s1.1+1))) (some (.inr (.inl (-1)))) <|
(nth a0 s1.2).bind λx3 =>
sel (x3.Rs !=(w64 ((w64 (s1.1+1))+1))) (some (.inr (.inl (-1)))) <|
(nth a0 s1.2).bind λx4 =>
sel (x4.Rt !=(w64 ((w64 ((w64 (s1.1+1))+1))+1))) (some (.inr (.inl (-1)))) <|
(nth a0 s1.2).bind λx5 =>
sel (x5.Imm !=(w64 ((w64 ((w64 ((w64 (s1.1+1))+1))+1))+1))) (some (.inr (.inl (-1)))) <|
some (.inl (w64 ((w64 ((w64 ((w64 ((w64 (s1.1+1))+1))+1))+1))+1),w64 (s1.2+1)))) <|
some (.inr (.inr s1.1))
def fX (a0:List Instr) (a1:Int):Option (Int):=
(aC (fE a0) (a1,0)).bind λy1 =>
iI y1 (λo3=>some o3) (λo4 =>
some o4)
def et (a0:List (List Instr)) (s1:Int×Int):Option ((Int×Int)⊕(Int⊕Int)):=
sel (decide (s1.2<(a0.length:Int))) ((nth a0 s1.2).bind λx1 =>
(fX x1 s1.1).bind λy4 =>
sel (decide (y4<0)) (some (.inr (.inl (-1)))) <|
some (.inl (y4,w64 (s1.2+1)))) <|
some (.inr (.inr s1.1))
def fg (a0:List (List Instr)) (a1:Int):Option (Int):=
(aC (et a0) (a1,0)).bind λy1 =>
iI y1 (λo3=>some o3) (λo4 =>
some o4)
def eJ (k:Nat) (a0:aR) (a1:Int) (a2:Int):Option (Bool):=
(j3 k (aR.mk a0.Rooms a0.Tasks) 1048576).bind λy1 =>
sel (decide (y1<0)) (some true) <|
(dK k (aR.mk a0.Rooms a0.Tasks)).bind λy2 =>
(d8 k (aF.mk y2.Rooms y2.Tasks) a1 a2).bind λy3 =>
(dK k (aR.mk a0.Rooms a0.Tasks)).bind λy4 =>
(dc k (aF.mk y4.Rooms y4.Tasks) a1 a2).bind λy5 =>
(fy y5.1 y3.1).bind λy6 =>
sel ((!y6)||(y5.2 !=y3.2)) (some false) <|
(dK k (aR.mk a0.Rooms a0.Tasks)).bind λy7 =>
(kc k (aF.mk y4.Rooms y4.Tasks) (aF.mk y7.Rooms y7.Tasks)).bind λy8 =>
sel (!y8) (some false) <|
(io k (aF.mk y4.Rooms y4.Tasks) 1).bind λy9 =>
(sel (decide (y9.1<0)) (some true) ((fy y5.1 y3.1).bind λy10=>some (!y10)):Option (Bool)).bind λb1 =>
sel (b1||(y5.2 !=y3.2)) (some false) <|
(ip y5.1 1).bind λy11 =>
(fg y11.2 1).bind λy12 =>
sel (decide (y12<0)) (some false) <|
sel (y12 !=y11.1) (some false) <|
(dK k (aR.mk a0.Rooms a0.Tasks)).bind λy13 =>
(dc k (aF.mk y13.Rooms y13.Tasks) a1 a2).bind λy14 =>
(fy y14.1 y3.1).bind λy15 =>
sel ((!y15)||(y14.2 !=y3.2)) (some false) <|
(fg y11.2 1).bind λy16 =>
sel (decide (y16<0)) (some false) <|
sel (y16 !=y11.1) (some false) <|
some true
end
end Go.Proofs.YtfpngipcclmliaaGreatDoor.N
namespace Go.Proofs.YtfpngipcclmliaaGreatDoor.X
noncomputable section
variable {σ τ ρ ρ' α:Type}
theorem Dg (x:Int):w64 x=if 9223372036854775808<=x%18446744073709551616 then x%18446744073709551616-18446744073709551616 else x%18446744073709551616:=by
 show IntKind.wrap .i64 x=_
 simp [IntKind.wrap,IntKind.signed,IntKind.bits]
theorem jp {x:Int} (h1 : -9223372036854775808<=x) (h2:x<=9223372036854775807):w64 x=x:=by
 rw [Dg]
 split <;> omega
theorem BW {f:σ->Option (σ⊕ρ)} (st:Nat->σ) (n:Nat) {r:ρ} (h:∀ i,i<n->f (st i)=some (.inl (st (i+1)))) (he:f (st n)=some (.inr r)):aC f (st 0)=some r:=by
 have key:∀ m,m<=n->aC f (st (n-m))=some r:=by
  intro m
  induction m with
  | zero=>intro _; rw [bz]; simp [he]
  | succ m ih =>
   intro hm
   rw [bz,h (n-(m+1)) (by omega)]
   have:=ih (by omega)
   rw [show n-m=n-(m+1)+1 by omega] at this
   exact this
 have:=key n (Nat.le_refl n)
 rwa [Nat.sub_self] at this
theorem Dh {f:σ->Option (σ⊕ρ)} (I:σ->Prop) (μ:σ->Nat) (Q:ρ->Prop) (h:∀ s,I s->(∃ s',f s=some (.inl s')/\I s'/\μ s'<μ s)\/(∃ r,f s=some (.inr r)/\Q r)):∀ {s:σ},I s->∃ r,aC f s=some r/\Q r:=by
 have key:∀ n s,μ s<=n->I s->∃ r,aC f s=some r/\Q r:=by
  intro n
  induction n with
  | zero =>
   intro s hs hI
   rcases h s hI with ⟨s',_,_,h3⟩ | ⟨r,h1,h2⟩
   ·omega
   ·exact ⟨r,by rw [bz,h1],h2⟩
  | succ n ih =>
   intro s hs hI
   rcases h s hI with ⟨s',h1,h2,h3⟩ | ⟨r,h1,h2⟩
   ·obtain ⟨r,k1,k2⟩:=ih s' (by omega) h2
    exact ⟨r,by rw [bz,h1]; exact k1,k2⟩
   ·exact ⟨r,by rw [bz,h1],h2⟩
 exact λ{s} hI=>key _ s (Nat.le_refl _) hI
theorem Ah {f:σ->Option (σ⊕ρ)} {g:τ->Option (τ⊕ρ')} (R:σ->τ->Prop) (μ:σ->Nat) (Q:ρ->ρ'->Prop)
  (h:∀ s t,R s t->(∃ s' t',f s=some (.inl s')/\g t=some (.inl t')/\R s' t'/\μ s'<μ s)\/(∃ r r',f s=some (.inr r)/\g t=some (.inr r')/\Q r r')):∀ {s:σ} {t:τ},R s t->∃ r r',aC f s=some r/\aC g t=some r'/\Q r r':=by
 have key:∀ n s t,μ s<=n->R s t->∃ r r',aC f s=some r/\aC g t=some r'/\Q r r':=by
  intro n
  induction n with
  | zero =>
   intro s t hs hI
   rcases h s t hI with ⟨s',t',_,_,_,h3⟩ | ⟨r,r',h1,h2,h3⟩
   ·omega
   ·exact ⟨r,r',by rw [bz,h1],by rw [bz,h2],h3⟩
  | succ n ih =>
   intro s t hs hI
   rcases h s t hI with ⟨s',t',h1,h2,h3,h4⟩ | ⟨r,r',h1,h2,h3⟩
   ·obtain ⟨r,r',k1,k2,k3⟩:=ih s' t' (by omega) h3
    exact ⟨r,r',by rw [bz,h1]; exact k1,by rw [bz,h2]; exact k2,k3⟩
   ·exact ⟨r,r',by rw [bz,h1],by rw [bz,h2],h3⟩
 exact λ{s t} hI=>key _ s t (Nat.le_refl _) hI
theorem iq {l:List α} {i:Nat} (h:i<l.length):nth l (i:Int)=some l[i]:=by
 unfold nth
 rw [if_neg (by omega)]
 simp [List.getElem?_eq_getElem h]
theorem yZ {l:List α} {i:Nat} (h:i<l.length) (x:α):upd l (i:Int) x=some (l.set i x):=by
 unfold upd
 rw [if_pos ⟨by omega,by omega⟩]
 simp
theorem Di {bytes:Nat} {l m:List α} (h:(l.length+m.length)*bytes<=140737488355328):app bytes l m=some (l++m):=by
 unfold app EN
 rw [Nat.ble_eq_true_of_le h]
theorem BX {bytes n:Nat} {z:α} (h:n*bytes<=281474976710656):mk bytes (n:Int) z=some (List.replicate n z):=by
 unfold mk
 rw [if_neg (by omega),show ((n:Int)).toNat=n by omega,Nat.ble_eq_true_of_le h]
theorem bc {α:Type} {b:Bool} (h:b=true) (x y:α):sel b x y=x:=by subst h; rfl
theorem aj {α:Type} {b:Bool} (h:b=false) (x y:α):sel b x y=y:=by subst h; rfl
theorem nl {i:Nat} (h:i<=9223372036854775806):w64 ((i:Int)+1)=((i+1:Nat):Int):=by rw [jp (by omega) (by omega)]; omega
theorem rx {f:Int->Option (Int⊕(Bool⊕Unit))} {l:List α} (hl:l.length<=9223372036854775806) (h:∀ (i:Nat) (hi:i<l.length),f (i:Int)=some (.inl (w64 ((i:Int)+1)))) (he:f (l.length:Int)=some (.inr (.inr ()))):aC f 0=some (.inr ()):=by
 have:=BW (f:=f) (λi=>(i:Int)) l.length (λi hi=>by rw [h i hi,nl (by omega)]) he
 exact this
def qB (mk:α->Int->Option (Int×α)):List α->Int->Option (Int×List α)
 | [],k=>some (k,[])
 | x::xs,k=>match mk x k with
  | some (k1,x')=>match qB mk xs k1 with
   | some (k2,xs')=>some (k2,x'::xs')
   | none=>none
  | none=>none
theorem ry {f:Int×Int×List α->Option ((Int×Int×List α)⊕(Int×List α))} (mk:α->Int->Option (Int×α))
  (h:∀ k (l:List α) (i:Nat) (hi:i<l.length) k' x',mk l[i] k=some (k',x')->l.length<=9223372036854775806->f (k,(i:Int),l)=some (.inl (k',((i+1:Nat):Int),l.set i x')))
  (he:∀ k (l:List α),f (k,(l.length:Int),l)=some (.inr (k,l))):∀ {l:List α} {k:Int} {r:Int×List α},l.length<=9223372036854775806->qB mk l k=some r->aC f (k,0,l)=some r:=by
 have key:∀ (l pre:List α) (k:Int) (r:Int×List α),(pre++l).length<=9223372036854775806->qB mk l k=some r->aC f (k,(pre.length:Int),pre++l)=some (r.1,pre++r.2):=by
  intro l
  induction l with
  | nil =>
   intro pre k r hl hm
   simp only [qB,Option.some.injEq] at hm
   subst hm
   rw [bz,List.append_nil,he]
  | cons x xs ih =>
   intro pre k r hl hm
   simp only [qB] at hm
   split at hm
   ·rename_i k1 x' h1
    split at hm
    ·rename_i k2 xs' h2
     simp only [Option.some.injEq] at hm
     subst hm
     have hlt:pre.length<(pre++x::xs).length:=by simp
     have hg:(pre++x::xs)[pre.length]'hlt=x:=by simp
     rw [bz,h k (pre++x::xs) pre.length hlt k1 x' (by rw [hg]; exact h1) hl]
     have:=ih (pre++[x']) k1 (k2,xs') (by simpa using hl) h2
     simp only [List.length_append,List.length_singleton,List.append_assoc,List.singleton_append] at this
     simp only
     rw [show (pre++x::xs).set pre.length x'=pre++x'::xs by simp]
     exact this
    ·cases hm
   ·cases hm
 intro l k r hl hm
 have:=key l [] k r (by simpa using hl) hm
 simpa using this
def Ai (hd:α->Int->Int->Prop):List α->Int->Int->Prop
 | [],k,k'=>k'=k
 | x::xs,k,k'=>∃ k1,hd x k k1/\Ai hd xs k1 k'
theorem yE {f:Int×Int->Option ((Int×Int)⊕(Int⊕Int))} {l:List α} (hd:α->Int->Int->Prop) (hl:l.length<=9223372036854775806)
  (h:∀ k (i:Nat) (hi:i<l.length) k',hd l[i] k k'->f (k,(i:Int))=some (.inl (k',((i+1:Nat):Int)))) (he:∀ k,f (k,(l.length:Int))=some (.inr (.inr k))):∀ {k k':Int},Ai hd l k k'->aC f (k,0)=some (.inr k'):=by
 have key:∀ (xs pre:List α) (k k':Int),pre++xs=l->Ai hd xs k k'->aC f (k,(pre.length:Int))=some (.inr k'):=by
  intro xs
  induction xs with
  | nil =>
   intro pre k k' hp hh
   have:k'=k:=hh
   subst this
   rw [List.append_nil] at hp
   subst hp
   rw [bz,he]
  | cons x xs ih =>
   intro pre k k' hp ⟨k1,h1,h2⟩
   have hlt:pre.length<l.length:=by rw [<-hp]; simp
   have hg:l[pre.length]'hlt=x:=by subst hp; simp
   rw [bz,h k pre.length hlt k1 (by rw [hg]; exact h1)]
   have:=ih (pre++[x]) k1 k' (by rw [<-hp]; simp) h2
   simpa using this
 intro k k' hh
 exact key l [] k k' rfl hh
def MH (mk:α->Int->Option (Int×α)) (hd:α->Int->Int->Prop) (sz:α->Nat):Prop:=
 ∀ x (k:Int),1<=k->k+sz x<=1000000000000->∃ x',mk x k=some (k+sz x,x')/\hd x' k (k+sz x)
def szs (sz:α->Nat):List α->Nat
 | []=>0
 | x::xs=>sz x+szs sz xs
theorem MH.list {mk:α->Int->Option (Int×α)} {hd:α->Int->Int->Prop} {sz:α->Nat} (h:MH mk hd sz):∀ (l:List α) (k:Int),1<=k->k+szs sz l<=1000000000000->∃ l',qB mk l k=some (k+szs sz l,l')/\Ai hd l' k (k+szs sz l)/\l'.length=l.length
 | [],k,_,_=>⟨[],by simp [qB,szs],by simp [Ai,szs],rfl⟩
 | x::xs,k,h1,h2=>by
  simp only [szs] at h2
  obtain ⟨x',k1,k2⟩:=h x k h1 (by omega)
  obtain ⟨l',k3,k4,k5⟩:=MH.list h xs (k+sz x) (by omega) (by omega)
  refine ⟨x'::l',?_,⟨_,k2,?_⟩,by simp [k5]⟩
  ·simp only [qB,k1,k3,szs]
   congr 2
   omega
  ·rw [show k+(szs sz (x::xs):Nat)=k+sz x+szs sz xs by simp only [szs]; omega]
   exact k4
theorem BZ:∀ (l:List α),szs (λ_=>1) l=l.length
 | []=>rfl
 | x::xs=>by simp only [szs,BZ xs,List.length_cons]; omega
end
noncomputable section
variable {α β σ ρ:Type} {Q:α->Prop} {x y:Option α} {b:Bool} {l m:List α} {i:Int}
def Tot (x:Option α) (Q:α->Prop):Prop:=∃ r,x=some r/\Q r
theorem Tot.pure {r:α} (h:Q r):Tot (some r) Q:=⟨r,rfl,h⟩
theorem Tot.bind {x:Option β} {f:β->Option α} {P:β->Prop} (h:Tot x P) (k:∀ r,P r->Tot (f r) Q):Tot (x.bind f) Q:=by
 obtain ⟨r,rfl,hr⟩:=h
 exact k r hr
theorem Tot.mono {P:α->Prop} (h:Tot x P) (k:∀ r,P r->Q r):Tot x Q:=by
 obtain ⟨r,e,hr⟩:=h
 exact ⟨r,e,k r hr⟩
theorem Tot.sel (ht:b=true->Tot x Q) (hf:b=false->Tot y Q):Tot (X.sel b x y) Q:=by
 cases b
 ·exact hf rfl
 ·exact ht rfl
theorem Tot.st (h:b=true) (k:Tot x Q):Tot (X.sel b x y) Q:=by subst h; exact k
theorem Tot.sf (h:b=false) (k:Tot y Q):Tot (X.sel b x y) Q:=by subst h; exact k
theorem Tot.both {A B:Type} {s:A⊕B} {f:A->Option α} {g:B->Option α} (hl:∀ a,s=.inl a->Tot (f a) Q) (hr:∀ a,s=.inr a->Tot (g a) Q):Tot (X.iI s f g) Q:=by
 cases s
 ·exact hl _ rfl
 ·exact hr _ rfl
theorem Tot.eq {r:α} (h:Tot x (λz=>z=r)):x=some r:=by
 obtain ⟨z,e,rfl⟩:=h
 exact e
theorem Tot.of {r:α} (h:x=some r) (k:Q r):Tot x Q:=⟨r,h,k⟩
theorem Tot.nth (h0:0<=i) (h1:i<l.length):Tot (X.nth l i) (λz=>l[i.toNat]?=some z/\z∈l):=by
 have h2:i.toNat<l.length:=by omega
 refine ⟨l[i.toNat],?_,List.getElem?_eq_getElem h2,List.getElem_mem h2⟩
 unfold X.nth
 rw [if_neg (by omega),List.getElem?_eq_getElem h2]
theorem Tot.upd {z:α} (h0:0<=i) (h1:i<l.length):Tot (X.upd l i z) (λr=>r=l.set i.toNat z):=by
 refine ⟨_,?_,rfl⟩
 unfold X.upd
 rw [if_pos ⟨h0,h1⟩]
theorem Tot.app {bytes:Nat} (h:(l.length+m.length)*bytes<=140737488355328):Tot (X.app bytes l m) (λr=>r=l++m):=⟨_,Di h,rfl⟩
theorem Tot.mk {bytes:Nat} {n:Int} {z:α} (h0:0<=n) (h:n.toNat*bytes<=281474976710656):Tot (X.mk bytes n z) (λr=>r=List.replicate n.toNat z):=by
 refine ⟨_,?_,rfl⟩
 unfold X.mk
 rw [if_neg (by omega),Nat.ble_eq_true_of_le h]
theorem Tot.cut {lo hi:Int} (h:0<=lo/\lo<=hi/\hi<=l.length):Tot (X.cut l lo hi) (λr=>r=(l.take hi.toNat).drop lo.toNat):=by
 refine ⟨_,?_,rfl⟩
 unfold X.cut
 rw [if_pos h]
theorem Tot.rem {a c:Int} (h:c≠0):Tot (sI a c) (λr=>r=a.tmod c):=⟨_,by unfold sI; rw [if_neg h],rfl⟩
theorem Tot.quo {k:IntKind} {a c:Int} (h:c≠0):Tot (uy k a c) (λr=>r=nY k (a.tdiv c)):=⟨_,by unfold uy; rw [if_neg h],rfl⟩
theorem Tot.iter {f:σ->Option (σ⊕α)} (I:σ->Prop) (μ:σ->Nat) {s:σ} (h0:I s)
  (h:∀ s,I s->Tot (f s) (λz=>match z with | .inl s'=>I s'/\μ s'<μ s | .inr r=>Q r)):Tot (X.aC f s) Q:=by
 obtain ⟨r,h1,h2⟩:=Dh I μ Q (λs hs=>by
  obtain ⟨z,e,hz⟩:=h s hs
  cases z with
  | inl s'=>exact .inl ⟨s',e,hz.1,hz.2⟩
  | inr r=>exact .inr ⟨r,e,hz⟩) h0
 exact ⟨r,h1,h2⟩
theorem Tot.inl {ρ:Type} {r:σ} {P:σ⊕ρ->Prop} (h:P (.inl r)):Tot (some (.inl r)) P:=⟨_,rfl,h⟩
theorem Tot.inr {ρ:Type} {r:ρ} {P:σ⊕ρ->Prop} (h:P (.inr r)):Tot (some (.inr r)) P:=⟨_,rfl,h⟩
theorem Tot.and {P:α->Prop} (h:Tot x P) (k:Tot x Q):Tot x (λr=>P r/\Q r):=by
 obtain ⟨r,rfl,hr⟩:=h
 obtain ⟨r',e,hr'⟩:=k
 injection e with e
 subst e
 exact ⟨r,rfl,hr,hr'⟩
theorem ax {i:Int} (h0:0<=i) (h:i<=9223372036854775806):w64 (i+1)=i+1:=jp (by omega) (by omega)
theorem aM {i:Int} (h0 : -4611686018427387904<=i) (h:i<=4611686018427387904):w64 i=i:=jp (by omega) (by omega)
theorem rz {a z:α} {k:Nat} (h:a∈l.set k z):a∈l\/a=z:=List.mem_or_eq_of_mem_set h
end
end Go.Proofs.YtfpngipcclmliaaGreatDoor.X
namespace Go.Proofs.YtfpngipcclmliaaGreatDoor.N
open Go.Proofs.YtfpngipcclmliaaGreatDoor.X
noncomputable section
theorem n6 (n a b:Int):aX n a b=some (decide (a<=n)&&decide (n<=b)):=rfl
def Wd (n:Int):Prop:=-2147483648<=n/\n<=2147483647
instance (n:Int):Decidable (Wd n):=instDecidableAnd
theorem za (n:Int):bN n=some (decide (Wd n)):=by
 unfold bN
 rw [n6]
 simp only [ob9]
 congr 1
 unfold Wd
 by_cases h1 : -2147483648<=n <;> by_cases h2:n<=2147483647 <;> simp [h1,h2]
theorem qC (n:Int):Tot (dn n) Wd:=by
 unfold dn
 have h1 : -4294967296<n.tmod 4294967296:=by
  rcases Int.le_total 0 n with h | h
  ·have:=Int.tmod_nonneg 4294967296 h; omega
  ·have:=Int.tmod_nonneg 4294967296 (show 0 <= -n by omega); rw [Int.neg_tmod] at this
   have:=Int.tmod_lt_of_pos (-n) (show (0:Int)<4294967296 by omega); rw [Int.neg_tmod] at this; omega
 have h2:=Int.tmod_lt_of_pos n (show (0:Int)<4294967296 by omega)
 refine .sel (λh=>.pure ?_) λh=>.sel (λh'=>.pure ?_) λh'=>.pure ?_
 all_goals simp only [decide_eq_true_eq,decide_eq_false_iff_not] at *
 ·rw [aM (by omega) (by omega)]; unfold Wd; omega
 ·rw [aM (by omega) (by omega)]; unfold Wd; omega
 ·unfold Wd; omega
def By (b:List Int):Prop:=b.length<=2000/\∀ x∈b,0<=x/\x<=255
def Dr {α:Type} (x:Option (α×Int)) (m:Int) (Q:α->Prop):Prop:=Tot x λr=>0<=r.2/\r.2<=m/\Q r.1
theorem Bf {a c:Nat} (ha:a<9223372036854775808) (hc:c<9223372036854775808):br .xor .i64 (a:Int) (c:Int)=((a ^^^ c:Nat):Int):=by
 have h1:∀ n:Nat,n<9223372036854775808->(BitVec.ofInt 64 (n:Int)).toNat=n:=λn hn=>by
  simp only [BitVec.ofInt_natCast,BitVec.toNat_ofNat]
  exact Nat.mod_eq_of_lt (by omega)
 show IntKind.wrap .i64 ((BitVec.ofInt 64 (a:Int) ^^^ BitVec.ofInt 64 (c:Int)).toNat:Int)=_
 rw [BitVec.toNat_xor,h1 a ha,h1 c hc]
 have:=Nat.xor_lt_two_pow (n:=63) ha hc
 exact jp (x:=((a ^^^ c:Nat):Int)) (by omega) (by omega)
theorem FL {b:List Int} {p n:Int} (hb:By b) (h0:0<=p) (hp:p<=1000000000) (hn:1<=n) (hn':n<=1000000):Tot (qy ⟨b,p⟩ n) λr=>r.2=p+1/\0<=r.1/\r.1<n:=by
 obtain ⟨hl,hx⟩:=hb
 have e1:w64 (p+1)=p+1:=aM (by omega) (by omega)
 have e2:w64 (p+1-1)=p:=by rw [aM (by omega) (by omega)]; omega
 unfold qy
 simp only [e1,e2]
 refine .sel (λ_=>.pure ⟨rfl,by omega,by omega⟩) λhh=>?_
 simp only [Bool.or_eq_false_iff,decide_eq_false_iff_not,beq_eq_false_iff_ne] at hh
 have hl0:0<(b.length:Int):=by omega
 refine .sel (λh=>?_) λh=>?_
 ·simp only [decide_eq_true_eq] at h
  refine .bind (.nth h0 h) λx ⟨_,hm⟩=>?_
  have:=hx x hm
  refine .bind (.rem (by omega)) λd hd=>.pure ⟨rfl,?_,?_⟩
  all_goals (rw [aM (by omega) (by omega)] at hd; subst hd)
  ·exact Int.tmod_nonneg _ (by omega)
  ·exact Int.tmod_lt_of_pos _ (by omega)
 ·refine .bind (.rem (by omega)) λd hd=>?_
  have hd1:0<=d/\d<b.length:=by subst hd; exact ⟨Int.tmod_nonneg _ h0,Int.tmod_lt_of_pos _ hl0⟩
  refine .bind (.nth hd1.1 hd1.2) λx ⟨_,hm⟩=>?_
  have hx1:=hx x hm
  refine .bind (.rem (by omega)) λd' hd'=>?_
  have e3:w64 (w64 (p*7)+3)=p*7+3:=by rw [aM (i:=p*7) (by omega) (by omega),aM (by omega) (by omega)]
  have hd2:0<=d'/\d'<b.length:=by rw [e3] at hd'; subst hd'; exact ⟨Int.tmod_nonneg _ (by omega),Int.tmod_lt_of_pos _ hl0⟩
  refine .bind (.nth hd2.1 hd2.2) λx' ⟨_,hm'⟩=>?_
  have hx2:=hx x' hm'
  refine .bind (.quo (by omega)) λq hq=>?_
  have hq1:0<=q/\q<=p:=by
   have h1:0<=p.tdiv b.length:=Int.tdiv_nonneg h0 (by omega)
   have h2:p.tdiv b.length<=p:=by
    obtain ⟨k,rfl⟩:=Int.eq_ofNat_of_zero_le h0
    exact Int.ofNat_le.2 (Nat.div_le_self k b.length)
   have:q=w64 (p.tdiv b.length):=hq
   rw [aM (by omega) (by omega)] at this
   omega
  have hv:∃ m:Nat,w64 (w64 (w64 (w64 (w64 x*131)+w64 (w64 x'*1117))+w64 (p*29))+w64 (q*53))=(m:Int)/\m<1000000000000:=by
   rw [aM (i:=x) (by omega) (by omega),aM (i:=x') (by omega) (by omega),aM (i:=x*131) (by omega) (by omega),aM (i:=x'*1117) (by omega) (by omega),aM (i:=p*29) (by omega) (by omega),aM (i:=q*53) (by omega) (by omega),
    aM (i:=x*131+x'*1117) (by omega) (by omega),aM (i:=x*131+x'*1117+p*29) (by omega) (by omega),aM (i:=x*131+x'*1117+p*29+q*53) (by omega) (by omega)]
   exact ⟨(x*131+x'*1117+p*29+q*53).toNat,by omega,by omega⟩
  obtain ⟨m,hm1,hm2⟩:=hv
  rw [hm1]
  have hdiv:w64 (Int.tdiv (m:Int) 64)=((m/64:Nat):Int):=by
   rw [show Int.tdiv (m:Int) 64=((m/64:Nat):Int) from rfl]
   exact aM (by omega) (by omega)
  rw [hdiv,Bf (by omega) (by omega)]
  refine .bind (.rem (by omega)) λd2 hd2=>.pure ⟨rfl,?_,?_⟩
  all_goals subst hd2
  ·exact Int.tmod_nonneg _ (by omega)
  ·exact Int.tmod_lt_of_pos _ (by omega)
theorem Dr.bind {α β:Type} {x:Option (α×Int)} {f:α×Int->Option (β×Int)} {m m':Int} {P:α->Prop} {Q:β->Prop} (h:Dr x m P) (k:∀ a p,P a->0<=p->p<=m->Dr (f (a,p)) m' Q):Dr (x.bind f) m' Q:=
 Tot.bind h λr hr=>k r.1 r.2 hr.2.2 hr.1 hr.2.1
theorem Dr.mono {α:Type} {x:Option (α×Int)} {m m':Int} {P Q:α->Prop} (h:Dr x m P) (hm:m<=m') (k:∀ a,P a->Q a):Dr x m' Q:=Tot.mono h λr hr=>⟨hr.1,by omega,k _ hr.2.2⟩
def Rg (r:Int):Prop:=0<=r/\r<=11
instance (r:Int):Decidable (Rg r):=instDecidableAnd
def QOk (m:Int) (q:ab):Prop:=
 (q.Op=1/\Rg q.Dst/\q.A=0/\q.B=0/\Wd q.N)\/(q.Op=2/\Rg q.Dst/\Rg q.A/\q.B=0/\q.N=0)\/(q.Op=3/\Rg q.Dst/\Rg q.A/\Rg q.B/\1<=q.N/\q.N<=12) \/
 (q.Op=4/\q.Dst=0/\q.A=0/\q.B=0/\0<=q.N/\q.N<m)\/(q.Op=5/\q.Dst=0/\Rg q.A/\q.B=0/\0<=q.N/\q.N<m) \/
 (q.Op=6/\q.Dst=0/\Rg q.A/\q.B=0/\0<=q.N/\q.N<=2)\/(q.Op=7/\Rg q.Dst/\q.A=0/\q.B=0/\0<=q.N/\q.N<=2) \/
 (q.Op=9/\q.Dst=0/\Rg q.A/\q.B=0/\q.N=0)\/((q.Op=8\/q.Op=10)/\q.Dst=0/\q.A=0/\q.B=0/\q.N=0)
instance (m:Int) (q:ab):Decidable (QOk m q):=by unfold QOk; infer_instance
theorem Fc (x:Int) (u:Bool):jS x u=some (if u then decide (Rg x) else x==0):=by
 unfold jS
 cases u
 ·rfl
 ·simp only [n6,sel,ob9,if_true]
  congr 1
  unfold Rg
  by_cases h1:0<=x <;> by_cases h2:x<=11 <;> simp [h1,h2]
theorem Ef (q:ab) (u v w:Bool):ce q u v w=some ((if u then decide (Rg q.Dst) else q.Dst==0)&&((if v then decide (Rg q.A) else q.A==0)&&(if w then decide (Rg q.B) else q.B==0))):=by
 unfold ce
 simp only [Fc,ob9]
 cases h1:(if u then decide (Rg q.Dst) else q.Dst==0) <;> cases h2:(if v then decide (Rg q.A) else q.A==0) <;> simp [sel]
theorem pQ (n:Int):eE n=some (decide (1<=n/\n<=12)):=by
 unfold eE
 rw [n6]
 simp only [ob9]
 congr 1
 by_cases h1:1<=n <;> by_cases h2:n<=12 <;> simp [h1,h2]
theorem B0 (b v:Bool):sel b (some v) (some false)=some (b&&v):=by cases b <;> rfl
theorem Dj (b v:Bool):sel b (some b) (some v)=some (b||v):=by cases b <;> rfl
theorem zb (q:ab) (m:Int):fu q m=some (decide (QOk m q)):=by
 refine Tot.eq ?_
 unfold fu
 simp only [Ef,za,pQ,n6,ob9,B0,Dj]
 have key:∀ b:Bool,(b=true↔QOk m q)->Tot (some b) (λz=>z=decide (QOk m q)):=λb h=>.pure (by
  cases b
  ·exact (decide_eq_false λhq=>by simpa using h.2 hq).symm
  ·exact (decide_eq_true (h.1 rfl)).symm)
 refine .sel (λh=>key _ ?_) λh1=>.sel (λh=>key _ ?_) λh2=>.sel (λh=>key _ ?_) λh3=>.sel (λh=>key _ ?_) λh4=>.sel (λh=>key _ ?_) λh5=>.sel (λh=>key _ ?_) λh6=>.sel (λh=>key _ ?_) λh7=>.sel (λh=>key _ ?_) λh8=>key _ ?_
 all_goals
  simp only [beq_iff_eq,beq_eq_false_iff_ne,Bool.or_eq_true,Bool.or_eq_false_iff,ne_eq] at *
  simp [QOk, *,and_assoc]
def Bg (eQ:List ab):Prop:=∃ q,eQ.getLast?=some q/\(q.Op=10\/q.Op=4)
structure COk (eQ:List ab):Prop where
 one:1<=eQ.length
 max:eQ.length<=600
 q:∀ q∈eQ,QOk eQ.length q
 last:Bg eQ
theorem sr (eQ:List ab) (hl:eQ.length<=4611686018427387904):Tot (aV eQ) λb=>b=true↔COk eQ:=by
 unfold aV
 simp only [n6,ob9]
 refine .sel (λh=>.pure ?_) λh=>?_
 ·simp only [Bool.not_eq_true',Bool.and_eq_false_iff,decide_eq_false_iff_not] at h
  exact ⟨λh=>by simp at h,λhc=>by have:=hc.one; have:=hc.max; omega⟩
 simp only [Bool.not_eq_false',Bool.and_eq_true,decide_eq_true_eq] at h
 refine .bind (P:=λz=>match z with | .inl b=>b=false/\¬ COk eQ | .inr _=>∀ q∈eQ,QOk eQ.length q) (.iter (λi:Int=>0<=i/\i<=eQ.length/\∀ (j:Nat) (q:ab),(j:Int)<i->eQ[j]?=some q->QOk eQ.length q) (λi=>(eQ.length-i).toNat) ⟨by omega,by omega,λj q h=>by omega⟩ λi ⟨h0,h1,h2⟩=>?_) λz hz=>?_
 ·unfold mv
  refine .sel (λh=>?_) λh=>.inr ?_
  ·simp only [decide_eq_true_eq] at h
   refine .bind (.nth h0 h) λq ⟨hq,hm⟩=>?_
   rw [zb,ob9]
   refine .sel (λhv=>.inr ⟨rfl,λhc=>?_⟩) λhv=>.inl ?_
   ·simp only [Bool.not_eq_true',decide_eq_false_iff_not] at hv
    exact hv (hc.q q hm)
   ·simp only [Bool.not_eq_false',decide_eq_true_eq] at hv
    rw [ax h0 (by omega)]
    refine ⟨⟨by omega,by omega,λj q' hj hq'=>?_⟩,by omega⟩
    by_cases e:(j:Int)=i
    ·have:j=i.toNat:=by omega
     subst this
     rw [hq] at hq'
     injection hq' with hq'
     exact hq'▸hv
    ·exact h2 j q' (by omega) hq'
  ·simp only [decide_eq_false_iff_not] at h
   intro q hq
   obtain ⟨j,hj,rfl⟩:=List.getElem_of_mem hq
   exact h2 j _ (by omega) (List.getElem?_eq_getElem hj)
 ·refine .both (λb e=>?_) λ_ e=>?_
  ·subst e
   exact .pure ⟨λh=>by rw [hz.1] at h; simp at h,λh=>absurd h hz.2⟩
  ·subst e
   have hq:∀ q∈eQ,QOk eQ.length q:=hz
   rw [aM (by omega) (by omega)]
   refine .bind (.nth (by omega) (by omega)) λx ⟨hx,_⟩=>?_
   have hgl:eQ.getLast?=some x:=by rw [List.getLast?_eq_getElem?]; rw [<-hx]; congr 1; omega
   have hlast:Bg eQ↔(x.Op=10\/x.Op=4):=⟨λ⟨y,h1,h2⟩=>by rw [hgl] at h1; injection h1 with h1; exact h1▸h2,λh=>⟨x,hgl,h⟩⟩
   refine .bind (P:=λb=>b=true↔(x.Op=10\/x.Op=4)) (.sel (λh=>.pure ?_) λh=>.bind (.nth (by omega) (by omega)) λy ⟨hy,_⟩=>.pure ?_) λb hb=>.pure ⟨λh=>⟨by omega,by omega,hq,hlast.2 (hb.1 h)⟩,λhc=>hb.2 (hlast.1 hc.last)⟩
   ·simp only [beq_iff_eq] at h; simp [h]
   ·rw [hx] at hy
    injection hy with hy
    subst hy
    simp only [beq_eq_false_iff_ne,ne_eq] at h
    simp [h]
theorem aQ {eQ:List ab} (h:COk eQ):aV eQ=some true:=by
 obtain ⟨b,e,hb⟩:=sr eQ (by have:=h.max; omega)
 rw [e,hb.2 h]
theorem vR {eQ:List ab} (hl:eQ.length<=4611686018427387904) (h:¬ COk eQ):aV eQ=some false:=by
 obtain ⟨b,e,hb⟩:=sr eQ hl
 cases b
 ·exact e
 ·exact absurd (hb.1 rfl) h
theorem COk.nxt {eQ:List ab} (h:COk eQ) {i:Nat} {q:ab} (hi:eQ[i]?=some q) (h1:q.Op≠10) (h2:q.Op≠4):i+1<eQ.length:=by
 obtain ⟨x,hx,hx'⟩:=h.last
 have hlt:i<eQ.length:=by
  rcases Nat.lt_or_ge i eQ.length with h | h
  ·exact h
  ·rw [List.getElem?_eq_none h] at hi; cases hi
 rcases Nat.lt_or_ge (i+1) eQ.length with h3 | h3
 ·exact h3
 ·rw [List.getLast?_eq_getElem?,show eQ.length-1=i by omega,hi] at hx
  injection hx with hx
  subst hx
  rcases hx' with h | h
  ·exact absurd h h1
  ·exact absurd h h2
theorem wZ {eQ:List ab} (h:COk eQ) {i:Int} (h0:0<=i) (h1:i<eQ.length):Tot (dC eQ i) λl=>l.length<=2/\∀ x∈l,0<=x/\x<eQ.length:=by
 unfold dC
 refine .bind (.nth h0 h1) λq ⟨hq,hm⟩=>?_
 have hv:=h.q q hm
 have hlen:=h.max
 have h2:q.Op≠10->q.Op≠4->i+1<eQ.length:=λha hb=>by have:=h.nxt hq ha hb; omega
 rw [ax h0 (by omega)]
 refine .sel (λh=>.pure (by simp)) λe1=>.sel (λh=>.pure ?_) λe2=>?_
 ·simp only [beq_iff_eq] at h
  simp only [List.length_singleton,List.mem_singleton,forall_eq]
  unfold QOk at hv
  omega
 simp only [beq_eq_false_iff_ne,ne_eq] at e1 e2
 have h3:=h2 e1 e2
 refine .sel (λh=>.pure ?_) λ_=>.sel (λh=>.pure ?_) λ_=>.pure (by simp; omega)
 all_goals
  simp only [Bool.and_eq_true,beq_iff_eq,decide_eq_true_eq] at h
  simp only [List.length_cons,List.length_nil,List.mem_cons,List.not_mem_nil,or_false,forall_eq_or_imp,forall_eq]
  unfold QOk at hv
  omega
end
noncomputable section
theorem sN (v:BitVec 64):IntKind.wrap .i64 (v.toNat:Int)=v.toInt:=by
 have h1:IntKind.wrap .i64 (v.toNat:Int)=w64 (v.toNat:Int):=rfl
 rw [h1,Dg,BitVec.toInt_eq_toNat_cond]
 have:=v.isLt
 split <;> split <;> omega
theorem rC {n:Int} (h:Wd n):BitVec.ofInt 64 n=(BitVec.ofInt 32 n).signExtend 64:=by
 apply BitVec.eq_of_toInt_eq
 rw [BitVec.toInt_signExtend_of_le (by omega),BitVec.toInt_ofInt,BitVec.toInt_ofInt]
 unfold Wd at h
 rw [Int.bmod_def,Int.bmod_def]
 omega
theorem w4 (v:BitVec 32):Wd (v.signExtend 64).toInt:=by
 rw [BitVec.toInt_signExtend_of_le (by omega)]
 have h1:=BitVec.toInt_lt (x:=v)
 have h2:=BitVec.le_toInt (x:=v)
 unfold Wd
 omega
theorem Eg {a b:Int} (ha:Wd a) (hb:Wd b):Wd (br .or .i64 a b):=by
 show Wd (IntKind.wrap .i64 ((BitVec.ofInt 64 a ||| BitVec.ofInt 64 b).toNat:Int))
 rw [sN,rC ha,rC hb,<-BitVec.signExtend_or]
 exact w4 _
theorem Dk {a b:Int} (ha:Wd a) (hb:Wd b):Wd (br .and .i64 a b):=by
 show Wd (IntKind.wrap .i64 ((BitVec.ofInt 64 a &&& BitVec.ofInt 64 b).toNat:Int))
 rw [sN,rC ha,rC hb,<-BitVec.signExtend_and]
 exact w4 _
theorem Dl {a b:Int} (ha:Wd a) (hb:Wd b):Wd (br .xor .i64 a b):=by
 show Wd (IntKind.wrap .i64 ((BitVec.ofInt 64 a ^^^ BitVec.ofInt 64 b).toNat:Int))
 rw [sN,rC ha,rC hb,<-BitVec.signExtend_xor]
 exact w4 _
theorem ER (b:Int):0<=br .and .i64 b 31/\br .and .i64 b 31<=31:=by
 have e:br .and .i64 b 31=IntKind.wrap .i64 ((BitVec.ofInt 64 b &&& BitVec.ofInt 64 31).toNat:Int):=rfl
 have h1:(BitVec.ofInt 64 b &&& BitVec.ofInt 64 31).toNat<=31:=by
  rw [BitVec.toNat_and]
  exact Nat.le_trans Nat.and_le_right (by decide)
 have h2:IntKind.wrap .i64 ((BitVec.ofInt 64 b &&& BitVec.ofInt 64 31).toNat:Int)=w64 ((BitVec.ofInt 64 b &&& BitVec.ofInt 64 31).toNat:Int):=rfl
 rw [e,h2,aM (by omega) (by omega)]
 omega
theorem uA {op a b:Int} (hop:1<=op/\op<=12) (ha:Wd a) (hb:Wd b):Tot (jT op a b) λr=>Wd r.1:=by
 unfold jT
 rw [pQ,decide_eq_true hop]
 simp only [ob9,za,decide_eq_true ha,decide_eq_true hb,Bool.not_true]
 simp only [sel,ob9]
 have w0:Wd 0:=by unfold Wd; omega
 have w1:Wd 1:=by unfold Wd; omega
 refine .sel (λ_=>.pure (Eg ha hb)) λ_=>.sel (λ_=>.pure (Dl ha hb)) λ_=>.sel (λ_=>.pure (Dk ha hb)) λ_=>.sel (λ_=>.bind (P:=Wd) ?_ λr h=>.pure h) λ_=>.sel (λ_=>.bind (P:=Wd) ?_ λr h=>.pure h) λ_ =>
  .sel (λ_=>.bind (P:=Wd) ?_ λr h=>.pure h) λ_=>.sel (λ_=>.bind (P:=Wd) ?_ λr h=>.pure h) λ_=>.sel (λ_=>.bind (qC _) λr h=>.pure h) λ_=>.sel (λ_=>.bind (qC _) λr h=>.pure h) λ_=>.sel (λ_=>.bind (qC _) λr h=>.pure h) λ_ =>
  .sel (λ_=>.bind (P:=Wd) ?_ λr h=>.pure h) λ_=>.bind (P:=Wd) ?_ λr h=>.pure h
 ·exact .sel (λ_=>.pure w1) λ_=>.pure w0
 ·exact .sel (λ_=>.pure w1) λ_=>.pure w0
 ·unfold iQ
  refine .sf rfl (.bind (P:=λ_=>True) ?_ λd _=>.bind (qC _) λr h=>.pure h)
  unfold shO
  rw [if_neg (by have:=ER b; omega)]
  exact .pure trivial
 ·unfold iQ
  refine .st rfl (.bind (P:=Wd) ?_ λd h=>.pure h)
  have h31:=ER b
  unfold shO
  rw [if_neg (by omega)]
  refine .pure ?_
  have hp:0<(2:Int)^(min (br .and .i64 b 31).toNat (IntKind.bits .i64)):=Int.pow_pos (by omega)
  generalize (2:Int)^(min (br .and .i64 b 31).toNat (IntKind.bits .i64))=c at hp
  rw [Int.fdiv_eq_ediv_of_nonneg _ (by omega)]
  unfold Wd at *
  constructor
  ·rw [Int.le_ediv_iff_mul_le hp]
   have : -2147483648*c <= -2147483648*1:=Int.mul_le_mul_of_nonpos_left (by omega) (by omega)
   omega
  ·have:a/c<=2147483647:=by
    rw [<-Int.lt_add_one_iff,Int.ediv_lt_iff_lt_mul hp]
    have:(2147483647+1)*1<=(2147483647+1)*c:=Int.mul_le_mul_of_nonneg_left (by omega) (by omega)
    omega
   exact this
 ·unfold lm
  refine .sel (λ_=>.pure (by unfold Wd; omega)) λh=>?_
  simp only [beq_eq_false_iff_ne,ne_eq] at h
  exact .bind (.quo h) λd _=>.bind (qC _) λr h=>.pure h
 ·unfold ln
  refine .sel (λ_=>.pure ha) λh=>?_
  simp only [beq_eq_false_iff_ne,ne_eq] at h
  refine .bind (.rem h) λd hd=>.pure ?_
  subst hd
  have h1:(a.tmod b).natAbs<=a.natAbs:=by rw [Int.natAbs_tmod]; exact Nat.mod_le _ _
  unfold Wd at *
  rcases Int.le_total 0 a with h2 | h2
  ·have:=Int.tmod_nonneg b h2; omega
  ·have:a.tmod b<=0:=by have:=Int.tmod_nonneg b (show 0 <= -a by omega); rw [Int.neg_tmod] at this; omega
   omega
theorem pR {α:Type} (g:α->Nat):∀ {l:List α} {i:Nat} {a:α} (x:α),l[i]?=some a->((l.set i x).map g).sum+g a=(l.map g).sum+g x
 | [],_,_,_,h=>by simp at h
 | y::r,0,a,x,h=>by
  have:y=a:=by simpa using h
  subst this
  simp only [List.set_cons_zero,List.map_cons,List.sum_cons]
  omega
 | y::r,i+1,a,x,h=>by
  have:=pR g x (show r[i]?=some a by simpa using h)
  simp only [List.set_cons_succ,List.map_cons,List.sum_cons]
  omega
def FOk (f:ai):Prop:=(f.Kind=0/\f.N=0)\/(f.Kind=1/\Wd f.N)\/(f.Kind=2/\f.N=0)
def w5 (l:List ai):Prop:=l.length=12/\∀ f∈l,FOk f
def AOk (n:Nat) (all:List (List ai)):Prop:=all.length=n/\∀ l∈all,w5 l
def fm (f:ai):Nat:=(2-f.Kind).toNat
def fsm (l:List ai):Nat:=(l.map fm).sum
def am (all:List (List ai)):Nat:=(all.map fsm).sum
theorem w5.set {l:List ai} {i:Nat} {f:ai} (h:w5 l) (hf:FOk f):w5 (l.set i f):=⟨by rw [List.length_set]; exact h.1,λg hg=>(rz hg).elim (h.2 g) λe=>e▸hf⟩
theorem AOk.set {n:Nat} {all:List (List ai)} {i:Nat} {l:List ai} (h:AOk n all) (hl:w5 l):AOk n (all.set i l):=⟨by rw [List.length_set]; exact h.1,λg hg=>(rz hg).elim (h.2 g) λe=>e▸hl⟩
theorem Dm {a b:ai} (ha:FOk a) (hb:FOk b):Tot (iR a b) λf=>FOk f/\fm f<=fm a/\(f.Kind≠a.Kind\/f.N≠a.N->fm f<fm a):=by
 unfold iR
 refine .sel (λh=>.pure ⟨hb,?_⟩) λh=>.sel (λh'=>.pure ⟨ha,by omega,λh=>by omega⟩) λh'=>.pure ⟨.inr (.inr ⟨rfl,rfl⟩),?_⟩
 ·simp only [beq_iff_eq] at h
  unfold fm; unfold FOk at ha hb
  constructor
  ·omega
  ·intro _; omega
 ·simp only [beq_eq_false_iff_ne,ne_eq,Bool.or_eq_false_iff,Bool.and_eq_false_iff,Bool.and_true] at h h'
  unfold fm; unfold FOk at ha hb
  simp only
  constructor
  ·omega
  ·intro _; omega
theorem Cu {n:Nat} {all:List (List ai)} {i:Int} {fs:List ai} (h:AOk n all) (h0:0<=i) (h1:i<n) (hf:w5 fs):Tot (gA all i fs) λr=>AOk n r.2/\am r.2<=am all/\(r.1=true->am r.2<am all):=by
 unfold gA
 refine .bind (.iter (λs=>0<=s.2.1/\s.2.1<=12/\AOk n s.2.2/\am s.2.2<=am all/\(s.1=true->am s.2.2<am all)) (λs=>(12-s.2.1).toNat) ⟨by simp,by simp,h,by simp,by simp⟩ λs hs=>?_) λr (hr:AOk n r.2/\am r.2<=am all/\(r.1=true->am r.2<am all))=>.pure hr
 obtain ⟨jq,r,a⟩:=s
 obtain ⟨g0,g1,g2,g3,g4⟩:=hs
 simp only at g0 g1 g2 g3 g4
 unfold ky
 refine .sel (λhlt=>?_) λhlt=>.inr ⟨g2,g3,g4⟩
 simp only [decide_eq_true_eq] at hlt
 refine .bind (P:=λz=>AOk n z.2/\am z.2<=am all/\(z.1=true->am z.2<am all)) ?_ λz hz=>.inl ⟨⟨?_,?_,hz⟩,?_⟩
 ·refine .bind (.nth h0 (by rw [g2.1]; exact h1)) λl ⟨hl,hm⟩=>?_
  have hlo:=g2.2 l hm
  refine .bind (.nth g0 (by rw [hlo.1]; omega)) λx ⟨hx,hxm⟩=>.bind (.nth g0 (by rw [hf.1]; omega)) λy ⟨hy,hym⟩=>?_
  refine .bind (Dm (hlo.2 x hxm) (hf.2 y hym)) λf hfj=>.bind (.nth h0 (by rw [g2.1]; exact h1)) λl' ⟨hl',_⟩=>?_
  obtain rfl:l=l':=o9 (hl.symm.trans hl')
  refine .bind (.nth g0 (by rw [hlo.1]; omega)) λx' ⟨hx',_⟩=>?_
  obtain rfl:x=x':=o9 (hx.symm.trans hx')
  refine .sel (λhne=>?_) λ_=>.pure ⟨g2,g3,g4⟩
  refine .bind (.nth g0 (by rw [hlo.1]; omega)) λ_ _=>.bind (.upd g0 (by rw [hlo.1]; omega)) λl2 hl2=>.pure ?_
  subst hl2
  have hlt2:fm f<fm x:=by
   refine hfj.2.2 ?_
   by_cases e1:f.Kind=x.Kind
   ·right; intro e2; simp [e1,e2] at hne
   ·exact .inl e1
  have e1:fsm (l.set r.toNat f)+fm x=fsm l+fm f:=pR fm f hx
  have e2:am (a.set i.toNat (l.set r.toNat f))+fsm l=am a+fsm (l.set r.toNat f):=pR fsm _ hl
  exact ⟨g2.set (hlo.set hfj.1),by simp only; omega,λ_=>by simp only; omega⟩
 ·rw [ax g0 (by omega)]; simp only; omega
 ·rw [ax g0 (by omega)]; simp only; omega
 ·rw [ax g0 (by omega)]; simp only; omega
theorem Cv {eQ:List ab} {q:ab} {m:Int} {fs:List ai} (hq:QOk m q) (hf:w5 fs):Tot (gz q fs) w5:=by
 unfold gz
 refine .bind (.app (by simp [hf.1])) λl hl=>?_
 rw [List.nil_append] at hl
 subst hl
 have h12:=hf.1
 have rg:∀ {x:Int},Rg x->0<=x/\x<l.length:=λh=>by unfold Rg at h; omega
 refine .sel (λh=>?_) λ_=>.sel (λh=>?_) λ_=>.sel (λh=>?_) λ_=>.sel (λh=>?_) λ_=>.pure hf
 all_goals (simp only [beq_iff_eq] at h; unfold QOk at hq; simp [h] at hq)
 ·exact .bind (.nth (rg hq.1).1 (rg hq.1).2) λ_ _=>.bind (.upd (rg hq.1).1 (rg hq.1).2) λr hr=>.pure (hr▸hf.set (.inr (.inl ⟨rfl,hq.2.2.2⟩)))
 ·exact .bind (.nth (rg hq.2.1).1 (rg hq.2.1).2) λx hx=>.bind (.nth (rg hq.1).1 (rg hq.1).2) λ_ _=>.bind (.upd (rg hq.1).1 (rg hq.1).2) λr hr=>.pure (hr▸hf.set (hf.2 x hx.2))
 ·exact .bind (.nth (rg hq.1).1 (rg hq.1).2) λ_ _=>.bind (.upd (rg hq.1).1 (rg hq.1).2) λr hr=>.pure (hr▸hf.set (.inr (.inr ⟨rfl,rfl⟩)))
 ·refine .bind (.nth (rg hq.2.1).1 (rg hq.2.1).2) λx hx=>.bind (.nth (rg hq.2.2.1).1 (rg hq.2.2.1).2) λy hy=>.bind (P:=FOk) ?_ λf hf'=>.bind (.nth (rg hq.1).1 (rg hq.1).2) λ_ _=>.bind (.upd (rg hq.1).1 (rg hq.1).2) λr hr=>.pure (hr▸hf.set hf')
  have hx':=hf.2 x hx.2
  have hy':=hf.2 y hy.2
  unfold co
  refine .sel (λ_=>.pure (.inr (.inr ⟨rfl,rfl⟩))) λhk=>?_
  simp only [Bool.or_eq_false_iff,bne_eq_false_iff_eq] at hk
  have hxw:Wd x.N:=by rcases hx' with h | h | h <;> first | exact h.2 | omega
  have hyw:Wd y.N:=by rcases hy' with h | h | h <;> first | exact h.2 | omega
  exact .bind (uA hq.2.2.2 hxw hyw) λr hr=>.pure (.inr (.inl ⟨rfl,hr⟩))
theorem Cw {eQ:List ab} {fs:List ai} {i:Int} (hc:COk eQ) (hf:w5 fs) (h0:0<=i) (h1:i<eQ.length):Tot (gy eQ fs i) λl=>l.length<=2/\∀ x∈l,0<=x/\x<eQ.length:=by
 unfold gy
 refine .bind (.nth h0 h1) λq ⟨hq,hm⟩=>?_
 have hv:=hc.q q hm
 have hl:=hc.max
 have h12:=hf.1
 refine .bind (P:=λb=>b=false->q.Op=5) (.sel (λh=>.pure (by simp)) λh=>?_) λb hb=>.sel (λ_=>.bind (wZ hc h0 h1) λr hr=>.pure hr) λhbf=>?_
 ·simp only [bne_eq_false_iff_eq] at h
  refine .bind (.nth (l:=fs) ?_ ?_) λx _=>.pure λ_=>h
  all_goals (unfold QOk at hv; simp [h] at hv; unfold Rg at hv; omega)
 ·have h5:=hb hbf
  have hn:=hc.nxt hq (by omega) (by omega)
  unfold QOk at hv
  simp [h5] at hv
  refine .bind (.nth (l:=fs) (by unfold Rg at hv; omega) (by unfold Rg at hv; omega)) λx _=>.sel (λ_=>.pure (by simp; omega)) λ_=>.pure ?_
  rw [ax h0 (by omega)]
  simp
  omega
theorem yF {eQ:List ab} {all:List (List ai)} (hc:COk eQ) (h:AOk eQ.length all):Tot (gB eQ all) λr=>AOk eQ.length r.2/\am r.2<=am all/\(r.1=true->am r.2<am all):=by
 unfold gB
 have hl:=hc.max
 refine .bind (.iter (λs=>0<=s.2.1/\s.2.1<=(eQ.length:Int)/\AOk eQ.length s.2.2/\am s.2.2<=am all/\(s.1=true->am s.2.2<am all)) (λs=>((eQ.length:Int)-s.2.1).toNat) ⟨by simp,by simp,h,by simp,by simp⟩ λs hs=>?_) λr (hr:AOk eQ.length r.2/\am r.2<=am all/\(r.1=true->am r.2<am all))=>.pure hr
 obtain ⟨jq,i,a⟩:=s
 obtain ⟨g0,g1,g2,g3,g4⟩:=hs
 simp only at g0 g1 g2 g3 g4
 unfold kA
 refine .sel (λhlt=>?_) λhlt=>.inr ⟨g2,g3,g4⟩
 simp only [decide_eq_true_eq] at hlt
 refine .bind (P:=λz=>AOk eQ.length z.2/\am z.2<=am all/\(z.1=true->am z.2<am all)) ?_ λz hz=>.inl ⟨⟨?_,?_,hz⟩,?_⟩
 ·refine .bind (.nth g0 (by rw [g2.1]; exact hlt)) λl ⟨hl',hm⟩=>?_
  have hlo:=g2.2 l hm
  refine .bind (.nth (by omega) (by rw [hlo.1]; omega)) λx _=>.sel (λ_=>.pure ⟨g2,g3,g4⟩) λ_=>?_
  refine .bind (Cw hc hlo g0 hlt) λes he=>.bind (.nth g0 hlt) λq ⟨hq,hqm⟩=>.bind (Cv (eQ:=eQ) (hc.q q hqm) hlo) λaf haf=>?_
  refine .bind (.iter (λs=>0<=s.2.1/\s.2.1<=(es.length:Int)/\AOk eQ.length s.2.2/\am s.2.2<=am all/\(s.1=true->am s.2.2<am all)) (λs=>((es.length:Int)-s.2.1).toNat) ⟨by simp,by simp,g2,g3,g4⟩ λs hs=>?_) λr (hr:AOk eQ.length r.2/\am r.2<=am all/\(r.1=true->am r.2<am all))=>.pure hr
  obtain ⟨fresh',j,a'⟩:=s
  obtain ⟨k0,k1,k2,k3,k4⟩:=hs
  simp only at k0 k1 k2 k3 k4
  unfold kz
  refine .sel (λhlt'=>?_) λ_=>.inr ⟨k2,k3,k4⟩
  simp only [decide_eq_true_eq] at hlt'
  refine .bind (P:=λz=>AOk eQ.length z.2/\am z.2<=am all/\(z.1=true->am z.2<am all)) ?_ λz hz=>.inl ⟨⟨?_,?_,hz⟩,?_⟩
  ·refine .bind (.nth k0 hlt') λe ⟨_,hem⟩=>.bind (Cu (all:=a') k2 (he.2 e hem).1 (he.2 e hem).2 haf) λr hr=>.sel (λhr1=>.pure ⟨hr.1,by simp only; omega,λ_=>by have:=hr.2.2 hr1; simp only; omega⟩) λ_=>.pure ⟨hr.1,by simp only; omega,λh=>by have:=k4 h; simp only; omega⟩
  all_goals (rw [ax k0 (by omega)]; simp only; omega)
 all_goals (rw [ax g0 (by omega)]; simp only; omega)
theorem Cx {eQ:List ab} (hc:COk eQ):Tot (gk eQ) (AOk eQ.length):=by
 unfold gk
 rw [aQ hc,ob9]
 have hl:=hc.max
 have h1:=hc.one
 refine .sf rfl ?_
 refine .bind (P:=AOk eQ.length) (.iter (λs=>0<=s.2/\s.2<=(eQ.length:Int)/\AOk s.2.toNat s.1) (λs=>((eQ.length:Int)-s.2).toNat) ⟨by simp,by simp,by simp [AOk]⟩ λs hs=>?_) λa0 ha0=>.bind (P:=AOk eQ.length) (.iter (λs=>0<=s.1/\s.1<=12/\AOk eQ.length s.2) (λs=>(12-s.1).toNat) ⟨by simp,by simp,ha0⟩ λs hs=>?_) λa1 ha1 =>
  .bind (P:=AOk eQ.length) (.iter (λs=>AOk eQ.length s) am ha1 λs hs=>?_) λr hr=>.pure hr
 ·obtain ⟨a,i⟩:=s
  obtain ⟨g0,g1,g2⟩:=hs
  simp only at g0 g1 g2
  unfold lR
  refine .sel (λhlt=>?_) λhlt=>.inr ?_
  ·simp only [decide_eq_true_eq] at hlt
   refine .bind (.mk (by omega) (by omega)) λl hl'=>.bind (.app (by simp [g2.1]; omega)) λr hr=>.inl ?_
   subst hr hl'
   rw [ax g0 (by omega)]
   refine ⟨⟨by simp only; omega,by simp only; omega,by simp [g2.1]; omega,λl hl'=>?_⟩,by simp only; omega⟩
   simp only [List.mem_append,List.mem_singleton] at hl'
   rcases hl' with h | rfl
   ·exact g2.2 l h
   ·exact ⟨by simp,λf hf=>by rw [(List.mem_replicate.1 hf).2]; exact .inl ⟨rfl,rfl⟩⟩
  ·simp only [decide_eq_false_iff_not] at hlt
   rw [show i.toNat=eQ.length by omega] at g2
   exact g2
 ·obtain ⟨r,a⟩:=s
  obtain ⟨g0,g1,g2⟩:=hs
  simp only at g0 g1 g2
  unfold lS
  refine .sel (λhlt=>?_) λhlt=>.inr g2
  simp only [decide_eq_true_eq] at hlt
  refine .bind (.nth (by omega) (by rw [g2.1]; omega)) λl ⟨_,hm⟩=>?_
  have hlo:=g2.2 l hm
  refine .bind (.nth g0 (by rw [hlo.1]; omega)) λ_ _=>.bind (.upd g0 (by rw [hlo.1]; omega)) λl' hl'=>.inl ?_
  subst hl'
  rw [ax g0 (by omega)]
  exact ⟨⟨by simp only; omega,by simp only; omega,g2.set (hlo.set (.inr (.inl ⟨rfl,by unfold Wd; simp⟩)))⟩,by simp only; omega⟩
 ·unfold lU
  exact .bind (yF hc hs) λr hr=>.sel (λh=>.inl ⟨hr.1,hr.2.2 h⟩) λ_=>.inr hr.1
end
noncomputable section
theorem mJ {f:List ab×Int->Option ((List ab×Int)⊕List ab)} {n:Nat} (P:Nat->ab->Prop) (hn:n<=600)
  (h:∀ (i:Int) (out:List ab),0<=i->i<n->out.length=i.toNat->Tot (f (out,i)) λz=>∃ q',z=.inl (out++[q'],i+1)/\P i.toNat q')
  (he:∀ out,f (out,(n:Int))=some (.inr out)):Tot (aC f ([],0)) λout=>out.length=n/\∀ i q',out[i]?=some q'->P i q':=by
 refine .iter (λs=>0<=s.2/\s.2<=(n:Int)/\s.1.length=s.2.toNat/\∀ i q',s.1[i]?=some q'->P i q') (λs=>((n:Int)-s.2).toNat) ⟨by simp,by simp,by simp,by simp⟩ λs hs=>?_
 obtain ⟨out,i⟩:=s
 obtain ⟨h0,h1,h2,h3⟩:=hs
 simp only at h0 h1 h2 h3
 by_cases hlt:i<n
 ·refine (h i out h0 hlt h2).mono λz hz=>?_
  obtain ⟨q',rfl,hp⟩:=hz
  refine ⟨⟨by simp only; omega,by simp only; omega,by simp [h2]; omega,λj q hj=>?_⟩,by simp only; omega⟩
  simp only at hj
  rcases Nat.lt_or_ge j out.length with hj' | hj'
  ·rw [List.getElem?_append_left hj'] at hj; exact h3 j q hj
  ·rw [List.getElem?_append_right hj'] at hj
   have:j=i.toNat:=by
    rcases Nat.eq_zero_or_pos (j-out.length) with h | h
    ·omega
    ·rw [List.getElem?_eq_none (by simp; omega)] at hj; cases hj
   subst this
   rw [h2,Nat.sub_self] at hj
   simp only [List.getElem?_cons_zero,Option.some.injEq] at hj
   exact hj▸hp
 ·have:i=n:=by omega
  subst this
  rw [he]
  exact .pure ⟨by omega,h3⟩
def FM (eQ out:List ab):Prop:=out.length=eQ.length/\∀ (i:Nat) (q':ab),out[i]?=some q'->∃ q:ab,eQ[i]?=some q/\QOk eQ.length q'/\(q.Op=10\/q.Op=4->q'.Op=10\/q'.Op=4)
theorem COk.alike {eQ out:List ab} (hc:COk eQ) (h:FM eQ out):COk out:=by
 obtain ⟨h1,h2⟩:=h
 refine ⟨by rw [h1]; exact hc.one,by rw [h1]; exact hc.max,λq hq=>?_,?_⟩
 ·obtain ⟨j,hj,rfl⟩:=List.getElem_of_mem hq
  obtain ⟨_,_,h3,_⟩:=h2 j _ (List.getElem?_eq_getElem hj)
  rw [h1]; exact h3
 ·obtain ⟨x,hx,hx'⟩:=hc.last
  have hlt:eQ.length-1<out.length:=by have:=hc.one; omega
  obtain ⟨q,hq,_,h4⟩:=h2 (eQ.length-1) _ (List.getElem?_eq_getElem hlt)
  rw [List.getLast?_eq_getElem?] at hx
  rw [hx] at hq
  injection hq with hq
  subst hq
  exact ⟨_,by rw [List.getLast?_eq_getElem?,h1]; exact List.getElem?_eq_getElem hlt,h4 hx'⟩
theorem Rg.lt {x:Int} (h:Rg x) {α:Type} {l:List α} (hl:l.length=12):0<=x/\x<l.length:=by unfold Rg at h; omega
theorem Eh (l:List Int) (n:Int) (hl:l.length<=1000):Tot (nB l n) λb=>b=l.contains n:=by
 unfold nB
 refine .bind (P:=λz=>match z with | .inl b=>b=true/\n∈l | .inr _=>n∉l) (.iter (λi:Int=>0<=i/\i<=l.length/\∀ (j:Nat) (x:Int),(j:Int)<i->l[j]?=some x->x≠n) (λi=>(l.length-i).toNat) ⟨by omega,by omega,λj q h=>by omega⟩ λi ⟨h0,h1,h2⟩=>?_) λz hz=>?_
 ·unfold oJ
  refine .sel (λh=>?_) λh=>.inr ?_
  ·simp only [decide_eq_true_eq] at h
   refine .bind (.nth h0 h) λx ⟨hx,hm⟩=>.sel (λhe=>.inr ?_) λhe=>.inl ?_
   ·simp only [beq_iff_eq] at he; subst he; exact ⟨rfl,hm⟩
   ·simp only [beq_eq_false_iff_ne,ne_eq] at he
    rw [ax h0 (by omega)]
    refine ⟨⟨by omega,by omega,λj y hj hy=>?_⟩,by omega⟩
    by_cases e:(j:Int)=i
    ·obtain rfl:j=i.toNat:=by omega
     rw [hx] at hy; injection hy with hy; exact hy▸he
    ·exact h2 j y (by omega) hy
  ·simp only [decide_eq_false_iff_not] at h
   intro hm
   obtain ⟨j,hj,rfl⟩:=List.getElem_of_mem hm
   exact h2 j _ (by omega) (List.getElem?_eq_getElem hj) rfl
 ·refine .both (λb e=>?_) λ_ e=>?_
  ·subst e; exact .pure (by rw [hz.1]; simpa using hz.2)
  ·subst e; exact .pure (by simpa using (show n∉l from hz))
theorem B1 (f:ai) (n:Int):gC f n=some (f.Kind==1&&f.N==n):=rfl
theorem B2 (n:Int) (l:List Int) (hl:l.length<=1000):Tot (gm n l) λb=>b=l.contains n:=.bind (Eh l n hl) λb hb=>.pure hb
theorem Ei {q:ab} {m:Int} {x y:ai} (hq:QOk m q) (h3:q.Op=3) (hx:FOk x) (hy:FOk y):Tot (jU q x y) (QOk m):=by
 have hv:=hq
 unfold QOk at hv
 simp [h3] at hv
 obtain ⟨hd,ha,hb,hn⟩:=hv
 have cp:∀ r,Rg r->QOk m (ab.mk 2 q.Dst r 0 0):=λr hr=>.inr (.inl ⟨rfl,hd,hr,rfl,rfl⟩)
 have ct:∀ r,Wd r->QOk m (ab.mk 1 q.Dst 0 0 r):=λr hr=>.inl ⟨rfl,hd,rfl,rfl,hr⟩
 have an:∀ (c:Bool) (l:List Int),l.length<=1000->Tot ((sel c ((gm q.N l).bind λy3=>some y3) (some false):Option Bool)) λ_=>True:=λc l hl=>.sel (λ_=>.bind (B2 _ _ hl) λ_ _=>.pure trivial) λ_=>.pure trivial
 unfold jU
 simp only [B1,ob9]
 refine .bind (P:=λf=>f.Kind=1->Wd f.N) ?_ λf hf=>.sel (λh=>.pure (ct _ (hf (by simpa using h)))) λ_=>.bind (an _ _ (by simp)) λ_ _=>.sel (λ_=>.pure (cp _ ha)) λ_=>.bind (an _ _ (by simp)) λ_ _=>.sel (λ_=>.pure (cp _ ha)) λ_=>.bind (an _ _ (by simp)) λ_ _=>.sel (λ_=>.pure (cp _ hb)) λ_ =>
  .sel (λ_=>.pure (cp _ hb)) λ_=>.bind (P:=λ_=>True) (.sel (λ_=>.pure trivial) λ_=>.pure trivial) λ_ _=>.bind (an _ _ (by simp)) λ_ _=>.sel (λ_=>.pure (ct _ (by unfold Wd; omega))) λ_=>.pure hq
 unfold co
 refine .sel (λ_=>.pure (by simp)) λhk=>?_
 simp only [Bool.or_eq_false_iff,bne_eq_false_iff_eq] at hk
 unfold FOk at hx hy
 have hxw:Wd x.N:=by rcases hx with h | h | h <;> first | exact h.2 | omega
 have hyw:Wd y.N:=by rcases hy with h | h | h <;> first | exact h.2 | omega
 exact .bind (uA hn hxw hyw) λr hr=>.pure λ_=>hr
theorem w6 {eQ:List ab} (hc:COk eQ) {q:ab} {i:Int} (h0:0<=i) (hi:eQ[i.toNat]?=some q) {fs:List ai} (hf:w5 fs):Tot (eG q fs i) λq'=>QOk eQ.length q'/\(q.Op=10\/q.Op=4->q'.Op=10\/q'.Op=4):=by
 have hv:=hc.q q (List.mem_of_getElem? hi)
 have hl:=hc.max
 have wd:∀ {f:ai},FOk f->f.Kind=1->Wd f.N:=λ{f} hx hk=>by unfold FOk at hx; rcases hx with h | h | h <;> first | exact h.2 | omega
 unfold eG
 refine .bind (.nth (by omega) (by rw [hf.1]; omega)) λ_ _=>.sel (λ_=>.pure ⟨hv,id⟩) λ_=>.sel (λh=>?_) λ_=>.sel (λh=>?_) λ_=>.sel (λh=>?_) λ_=>.pure ⟨hv,id⟩
 all_goals (simp only [beq_iff_eq] at h; have hw:=hv; unfold QOk at hw; simp [h] at hw)
 ·refine .bind (.nth (hw.2.1.lt hf.1).1 (hw.2.1.lt hf.1).2) λx ⟨hx,hm⟩=>.sel (λhk=>?_) λ_=>.pure ⟨hv,id⟩
  simp only [beq_iff_eq] at hk
  refine .bind (.nth (hw.2.1.lt hf.1).1 (hw.2.1.lt hf.1).2) λy ⟨hy,_⟩=>?_
  obtain rfl:x=y:=o9 (hx.symm.trans hy)
  exact .pure ⟨.inl ⟨rfl,hw.1,rfl,rfl,wd (hf.2 x hm) hk⟩,λh'=>by omega⟩
 ·refine .bind (.nth (hw.2.1.lt hf.1).1 (hw.2.1.lt hf.1).2) λx ⟨_,hx⟩=>.bind (.nth (hw.2.2.1.lt hf.1).1 (hw.2.2.1.lt hf.1).2) λy ⟨_,hy⟩=>.bind (Ei hv h (hf.2 x hx) (hf.2 y hy)) λr hr=>.pure ⟨hr,λh'=>by omega⟩
 ·have hn:=hc.nxt hi (by omega) (by omega)
  refine .bind (.nth (hw.2.1.lt hf.1).1 (hw.2.1.lt hf.1).2) λx ⟨_,hx⟩=>?_
  rw [B1,ob9]
  refine .sel (λ_=>.pure ⟨.inr (.inr (.inr (.inl ⟨rfl,rfl,rfl,rfl,hw.2.2.2⟩))),λh'=>by omega⟩) λ_=>.bind (.nth (hw.2.1.lt hf.1).1 (hw.2.1.lt hf.1).2) λy _=>.sel (λ_=>.pure ⟨?_,λh'=>by omega⟩) λ_=>.pure ⟨hv,id⟩
  rw [ax h0 (by omega)]
  exact .inr (.inr (.inr (.inl ⟨rfl,rfl,rfl,rfl,by simp only; omega,by simp only; omega⟩)))
def uB (f:List ab->Option (List ab×Bool)):Prop:=∀ {eQ:List ab},COk eQ->Tot (f eQ) λr=>COk r.1/\r.2=true/\r.1.length<=eQ.length
theorem Aj:uB gD:=λ{eQ} hc=>by
 unfold gD
 rw [aQ hc,ob9]
 have hl:=hc.max
 refine .sf rfl (.bind (Cx hc) λfs hfs=>.bind (mJ (n:=eQ.length) (λi q'=>∃ q:ab,eQ[i]?=some q/\QOk eQ.length q'/\(q.Op=10\/q.Op=4->q'.Op=10\/q'.Op=4)) hc.max (λi out h0 h1 h2=>?_) λout=>?_) λout ho=>.pure ⟨hc.alike ho,rfl,by rw [ho.1]; exact Nat.le_refl _⟩)
 ·unfold dt
  refine .st (by simpa using h1) (.bind (.nth h0 (by rw [hfs.1]; exact h1)) λl ⟨_,hm⟩=>.bind (.nth h0 h1) λq ⟨hq,_⟩=>.bind (w6 hc h0 hq (hfs.2 l hm)) λq' hq'=>.bind (.app (by simp [h2]; omega)) λr hr=>.pure ⟨q',?_,q,hq,hq'⟩)
  rw [ax h0 (by omega),hr]
 ·unfold dt; rw [aj (by simp)]
def w7:Nat->List Int->Nat
 | _,[]=>0
 | k,x::r=>(if x=(k:Int) then 0 else 1)+w7 (k+1) r
theorem B3:∀ (l:List Int) (k:Nat),w7 k l<=l.length
 | [],_=>Nat.le_refl _
 | x::r,k=>by have:=B3 r (k+1); simp only [w7,List.length_cons]; split <;> omega
theorem Ak:∀ {l:List Int} {k i:Nat} {a:Int},l[i]?=some a->a≠((k+i:Nat):Int)->w7 k (l.set i ((k+i:Nat):Int))<w7 k l
 | [],_,_,_,h,_=>by simp at h
 | x::r,k,0,a,h,hne=>by
  have:x=a:=by simpa using h
  subst this
  simp only [List.set_cons_zero,w7,Nat.add_zero] at *
  rw [if_pos trivial,if_neg hne]
  omega
 | x::r,k,i+1,a,h,hne=>by
  have e:k+(i+1)=(k+1)+i:=by omega
  rw [e] at hne ⊢
  have:=Ak (l:=r) (k:=k+1) (i:=i) (by simpa using h) hne
  simp only [List.set_cons_succ,w7]
  omega
def mV (l:List Int):Prop:=l.length=12/\∀ x∈l,Rg x
def FN (l:List Int):Prop:=l=[]\/mV l
def oo (n:Nat) (all:List (List Int)):Prop:=all.length=n/\∀ l∈all,FN l
def cm (l:List Int):Nat:=if l=[] then 13 else w7 0 l
def cam (all:List (List Int)):Nat:=(all.map cm).sum
theorem mV.set {l:List Int} {i:Nat} {x:Int} (h:mV l) (hx:Rg x):mV (l.set i x):=⟨by rw [List.length_set]; exact h.1,λg hg=>(rz hg).elim (h.2 g) λe=>e▸hx⟩
theorem oo.set {n:Nat} {all:List (List Int)} {i:Nat} {l:List Int} (h:oo n all) (hl:FN l):oo n (all.set i l):=⟨by rw [List.length_set]; exact h.1,λg hg=>(rz hg).elim (h.2 g) λe=>e▸hl⟩
theorem mV.ne {l:List Int} (h:mV l):l≠[]:=by rintro rfl; have:=h.1; simp at this
theorem mV.cm {l:List Int} (h:mV l):cm l=w7 0 l/\cm l<=12:=by
 unfold N.cm
 rw [if_neg h.ne]
 exact ⟨rfl,by have:=B3 l 0; rw [h.1] at this; exact this⟩
theorem Al:Tot gn mV:=by
 unfold gn
 refine .bind (P:=mV) (.iter (λs=>0<=s.2/\s.2<=12/\s.1.length=s.2.toNat/\∀ x∈s.1,Rg x) (λs=>(12-s.2).toNat) ⟨by simp,by simp,by simp,by simp⟩ λs hs=>?_) λr hr=>.pure hr
 obtain ⟨l,i⟩:=s
 obtain ⟨g0,g1,g2,g3⟩:=hs
 simp only at g0 g1 g2 g3
 unfold lV
 refine .sel (λh=>?_) λh=>.inr (show mV l from ?_)
 ·simp only [decide_eq_true_eq] at h
  refine .bind (.app (by simp [g2]; omega)) λr hr=>.inl ?_
  subst hr
  rw [ax g0 (by omega)]
  refine ⟨⟨by simp only; omega,by simp only; omega,by simp [g2]; omega,λx hx=>?_⟩,by simp only; omega⟩
  simp only [List.mem_append,List.mem_singleton] at hx
  rcases hx with h | rfl
  ·exact g3 x h
  ·unfold Rg; omega
 ·simp only [decide_eq_false_iff_not] at h
  exact ⟨by omega,g3⟩
theorem QOk.mono {q:ab} {m m':Int} (h:QOk m q) (hm:m<=m'):QOk m' q:=by
 unfold QOk at *
 rcases h with h | h | h | h | h | h | h | h | h
 ·exact .inl h
 ·exact .inr (.inl h)
 ·exact .inr (.inr (.inl h))
 ·exact .inr (.inr (.inr (.inl ⟨h.1,h.2.1,h.2.2.1,h.2.2.2.1,h.2.2.2.2.1,by omega⟩)))
 ·exact .inr (.inr (.inr (.inr (.inl ⟨h.1,h.2.1,h.2.2.1,h.2.2.2.1,h.2.2.2.2.1,by omega⟩))))
 ·exact .inr (.inr (.inr (.inr (.inr (.inl h)))))
 ·exact .inr (.inr (.inr (.inr (.inr (.inr (.inl h))))))
 ·exact .inr (.inr (.inr (.inr (.inr (.inr (.inr (.inl h)))))))
 ·exact .inr (.inr (.inr (.inr (.inr (.inr (.inr (.inr h)))))))
theorem zd (q:ab) {m:Int} (h:QOk m q) (hm:m<=600):cq q=some (if q.Op=1\/q.Op=2\/q.Op=3\/q.Op=7 then q.Dst else -1):=by
 have h6:QOk 600 q:=h.mono hm
 unfold cq
 rw [zb,decide_eq_true h6,ob9,Bool.not_true,aj rfl]
 by_cases h1:q.Op=1
 ·simp [h1,sel]
 by_cases h2:q.Op=2
 ·simp [h2,sel]
 by_cases h3:q.Op=3
 ·simp [h3,sel]
 by_cases h7:q.Op=7
 ·simp [h7,sel]
 rw [if_neg (by omega),aj (by simpa using h1),aj (by simpa using h2),aj (by simpa using h3),ob9,aj (by simpa using h7)]
theorem Dn {q:ab} {m:Int} (h:QOk m q) (hm:m<=600):Tot (cq q) λr=>r = -1\/Rg r:=by
 refine .of (zd q h hm) ?_
 unfold QOk at h
 split
 ·rename_i h'; right; unfold Rg at *; omega
 ·exact .inl rfl
theorem Bh {q:ab} {m:Int} {l:List Int} (hq:QOk m q) (hm:m<=600) (hl:mV l):Tot (gF q l) mV:=by
 unfold gF
 refine .bind (.app (by simp [hl.1])) λr hr=>?_
 rw [List.nil_append] at hr
 subst hr
 refine .bind (Dn hq hm) λd hd=>.sel (λ_=>.pure hl) λhneg=>?_
 simp only [decide_eq_false_iff_not] at hneg
 have hd':Rg d:=hd.resolve_left (by omega)
 refine .bind (P:=mV) (.iter (λs=>0<=s.1/\s.1<=12/\mV s.2) (λs=>(12-s.1).toNat) ⟨by simp,by simp,hl⟩ λs hs=>?_) λl2 h2=>.bind (.nth (hd'.lt h2.1).1 (hd'.lt h2.1).2) λ_ _=>.bind (.upd (hd'.lt h2.1).1 (hd'.lt h2.1).2) λl3 h3=>?_
 ·obtain ⟨i,l'⟩:=s
  obtain ⟨g0,g1,g2⟩:=hs
  simp only at g0 g1 g2
  unfold kB
  refine .sel (λh=>?_) λ_=>.inr g2
  simp only [decide_eq_true_eq] at h
  have hi:0<=i/\i<l'.length:=by rw [g2.1]; omega
  refine .bind (P:=mV) (.bind (.nth hi.1 hi.2) λx _=>.sel (λ_=>.bind (.nth hi.1 hi.2) λ_ _=>.bind (.upd hi.1 hi.2) λr hr=>.pure ?_) λ_=>.pure g2) λr hr=>.inl ?_
  ·subst hr; exact g2.set (by unfold Rg; omega)
  ·rw [ax g0 (by omega)]; exact ⟨⟨by simp only; omega,by simp only; omega,hr⟩,by simp only; omega⟩
 ·subst h3
  have h3':=h2.set (i:=d.toNat) hd'
  refine .sel (λh=>?_) λ_=>.pure h3'
  simp only [beq_iff_eq] at h
  unfold QOk at hq; simp [h] at hq
  exact .bind (.nth (hd'.lt h3'.1).1 (hd'.lt h3'.1).2) λ_ _=>.bind (.upd (hd'.lt h3'.1).1 (hd'.lt h3'.1).2) λr hr=>.pure (hr▸h3'.set hq.2.1)
theorem Bi {n:Nat} {all:List (List Int)} {i:Int} {cs:List Int} (h:oo n all) (h0:0<=i) (h1:i<n) (hf:mV cs):Tot (gG all i cs) λr=>oo n r.2/\cam r.2<=cam all/\(r.1=true->cam r.2<cam all):=by
 have hin:i<all.length:=by rw [h.1]; exact h1
 unfold gG
 refine .bind (.nth h0 hin) λl0 ⟨hl0,hm0⟩=>.sel (λhe=>?_) λhne=>?_
 ·refine .bind (.app (by simp [hf.1])) λr hr=>.pure ?_
  rw [List.nil_append] at hr
  subst hr
  have e0:l0=[]:=by simpa using he
  subst e0
  have e2:cam (all.set i.toNat r)+N.cm []=cam all+N.cm r:=pR N.cm _ hl0
  have e3:N.cm []=13:=by decide
  have e4:=hf.cm.2
  exact ⟨h.set (.inr hf),by simp only; omega,λ_=>by simp only; omega⟩
 have hl0':mV l0:=(h.2 l0 hm0).resolve_left (by rintro rfl; simp at hne)
 refine .bind (.iter (λs=>0<=s.2.1/\s.2.1<=12/\oo n s.2.2/\(∃ l,s.2.2[i.toNat]?=some l/\mV l)/\cam s.2.2<=cam all/\(s.1=true->cam s.2.2<cam all)) (λs=>(12-s.2.1).toNat) ⟨by simp,by simp,h,⟨l0,hl0,hl0'⟩,by simp,by simp⟩ λs hs=>?_) λr (hr:oo n r.2/\cam r.2<=cam all/\(r.1=true->cam r.2<cam all))=>.pure hr
 obtain ⟨jq,r,a⟩:=s
 obtain ⟨g0,g1,g2,⟨l,hl,hlo⟩,g3,g4⟩:=hs
 simp only at g0 g1 g2 g3 g4 hl
 unfold kC
 refine .sel (λhlt=>?_) λhlt=>.inr ⟨g2,g3,g4⟩
 simp only [decide_eq_true_eq] at hlt
 have hia:i<a.length:=by rw [g2.1]; exact h1
 have hrl:r<l.length:=by rw [hlo.1]; exact hlt
 refine .bind (P:=λz=>oo n z.2/\(∃ l,z.2[i.toNat]?=some l/\mV l)/\cam z.2<=cam all/\(z.1=true->cam z.2<cam all)) ?_ λz hz=>.inl ⟨⟨?_,?_,hz⟩,?_⟩
 ·refine .bind (.nth h0 hia) λl' ⟨hl',_⟩=>?_
  obtain rfl:l=l':=o9 (hl.symm.trans hl')
  refine .bind (.nth g0 hrl) λx ⟨hx,hxm⟩=>.bind (P:=λb=>b=true->x≠r) (.sel (λhne=>.bind (.nth g0 hrl) λ_ _=>.bind (.nth g0 (by rw [hf.1]; exact hlt)) λ_ _=>.pure λ_=>by simpa using hne) λ_=>.pure (by simp)) λb hb=>.sel (λhbt=>?_) λ_=>.pure ⟨g2,⟨l,hl,hlo⟩,g3,g4⟩
  have hxr:=hb hbt
  refine .bind (.nth h0 hia) λl' ⟨hl',_⟩=>?_
  obtain rfl:l=l':=o9 (hl.symm.trans hl')
  refine .bind (.nth g0 hrl) λ_ _=>.bind (.upd g0 hrl) λl2 hl2=>.pure ?_
  subst hl2
  have hr':Rg r:=by unfold Rg; omega
  have hset:=hlo.set (i:=r.toNat) hr'
  have e1:w7 0 (l.set r.toNat r)<w7 0 l:=by
   have:=Ak (l:=l) (k:=0) (i:=r.toNat) hx (by omega)
   rwa [show ((0+r.toNat:Nat):Int)=r by omega] at this
  have e2:cam (a.set i.toNat (l.set r.toNat r))+N.cm l=cam a+N.cm (l.set r.toNat r):=pR N.cm _ hl
  rw [hlo.cm.1,hset.cm.1] at e2
  exact ⟨g2.set (.inr hset),⟨_,by simp only; rw [List.getElem?_set_self (by omega)],hset⟩,by simp only; omega,λ_=>by simp only; omega⟩
 all_goals (rw [ax g0 (by omega)]; simp only; omega)
theorem w8 {eQ:List ab} {all:List (List Int)} (hc:COk eQ) (h:oo eQ.length all):Tot (gH eQ all) λr=>oo eQ.length r.2/\cam r.2<=cam all/\(r.1=true->cam r.2<cam all):=by
 unfold gH
 have hl:=hc.max
 refine .bind (.iter (λs=>0<=s.2.1/\s.2.1<=(eQ.length:Int)/\oo eQ.length s.2.2/\cam s.2.2<=cam all/\(s.1=true->cam s.2.2<cam all)) (λs=>((eQ.length:Int)-s.2.1).toNat) ⟨by simp,by simp,h,by simp,by simp⟩ λs hs=>?_) λr (hr:oo eQ.length r.2/\cam r.2<=cam all/\(r.1=true->cam r.2<cam all))=>.pure hr
 obtain ⟨jq,i,a⟩:=s
 obtain ⟨g0,g1,g2,g3,g4⟩:=hs
 simp only at g0 g1 g2 g3 g4
 unfold kE
 refine .sel (λhlt=>?_) λhlt=>.inr ⟨g2,g3,g4⟩
 simp only [decide_eq_true_eq] at hlt
 refine .bind (P:=λz=>oo eQ.length z.2/\cam z.2<=cam all/\(z.1=true->cam z.2<cam all)) ?_ λz hz=>.inl ⟨⟨?_,?_,hz⟩,?_⟩
 ·refine .bind (.nth g0 (by rw [g2.1]; exact hlt)) λl ⟨hl',hm⟩=>.sel (λ_=>.pure ⟨g2,g3,g4⟩) λhne=>?_
  have hlo:mV l:=(g2.2 l hm).resolve_left (by rintro rfl; simp at hne)
  refine .bind (wZ hc g0 hlt) λes he=>.bind (.nth g0 hlt) λq ⟨hq,hqm⟩=>.bind (Bh (hc.q q hqm) (by omega) hlo) λaf haf=>?_
  refine .bind (.iter (λs=>0<=s.2.1/\s.2.1<=(es.length:Int)/\oo eQ.length s.2.2/\cam s.2.2<=cam all/\(s.1=true->cam s.2.2<cam all)) (λs=>((es.length:Int)-s.2.1).toNat) ⟨by simp,by simp,g2,g3,g4⟩ λs hs=>?_) λr (hr:oo eQ.length r.2/\cam r.2<=cam all/\(r.1=true->cam r.2<cam all))=>.pure hr
  obtain ⟨fresh',j,a'⟩:=s
  obtain ⟨k0,k1,k2,k3,k4⟩:=hs
  simp only at k0 k1 k2 k3 k4
  unfold kD
  refine .sel (λhlt'=>?_) λ_=>.inr ⟨k2,k3,k4⟩
  simp only [decide_eq_true_eq] at hlt'
  refine .bind (P:=λz=>oo eQ.length z.2/\cam z.2<=cam all/\(z.1=true->cam z.2<cam all)) ?_ λz hz=>.inl ⟨⟨?_,?_,hz⟩,?_⟩
  ·refine .bind (.nth k0 hlt') λe ⟨_,hem⟩=>.bind (Bi (all:=a') k2 (he.2 e hem).1 (he.2 e hem).2 haf) λr hr=>.sel (λhr1=>.pure ⟨hr.1,by simp only; omega,λ_=>by have:=hr.2.2 hr1; simp only; omega⟩) λ_=>.pure ⟨hr.1,by simp only; omega,λh=>by have:=k4 h; simp only; omega⟩
  all_goals (rw [ax k0 (by omega)]; simp only; omega)
 all_goals (rw [ax g0 (by omega)]; simp only; omega)
theorem Bj {eQ:List ab} (hc:COk eQ):Tot (eR eQ) λall=>all.length=eQ.length/\∀ l∈all,mV l:=by
 unfold eR
 rw [aQ hc,ob9]
 have hl:=hc.max
 have h1:=hc.one
 refine .sf rfl (.bind (P:=oo eQ.length) (.iter (λs=>0<=s.2/\s.2<=(eQ.length:Int)/\oo s.2.toNat s.1) (λs=>((eQ.length:Int)-s.2).toNat) ⟨by simp,by simp,by simp [oo]⟩ λs hs=>?_) λa0 ha0=>.bind Al λsf hsf=>.bind (.nth (by omega) (by rw [ha0.1]; omega)) λ_ _ =>
  .bind (P:=oo eQ.length) (.iter (λs=>oo eQ.length s) cam (ha0.set (.inr hsf)) λs hs=>?_) λa1 ha1=>.bind (P:=λall=>all.length=eQ.length/\∀ l∈all,mV l) (.iter (λs=>0<=s.1/\s.1<=(eQ.length:Int)/\oo eQ.length s.2/\∀ (j:Nat) l,(j:Int)<s.1->s.2[j]?=some l->mV l) (λs=>((eQ.length:Int)-s.1).toNat) ⟨by simp,by simp,ha1,λj l h=>by simp only at h; omega⟩ λs hs=>?_) λr hr=>.pure hr)
 ·obtain ⟨a,i⟩:=s
  obtain ⟨g0,g1,g2⟩:=hs
  simp only at g0 g1 g2
  unfold kF
  refine .sel (λhlt=>?_) λhlt=>.inr ?_
  ·simp only [decide_eq_true_eq] at hlt
   refine .bind (.app (by simp [g2.1]; omega)) λr hr=>.inl ?_
   subst hr
   rw [ax g0 (by omega)]
   refine ⟨⟨by simp only; omega,by simp only; omega,by simp [g2.1]; omega,λl hl'=>?_⟩,by simp only; omega⟩
   simp only [List.mem_append,List.mem_singleton] at hl'
   rcases hl' with h | rfl
   ·exact g2.2 l h
   ·exact .inl rfl
  ·simp only [decide_eq_false_iff_not] at hlt
   rw [show i.toNat=eQ.length by omega] at g2
   exact g2
 ·unfold kG
  exact .bind (w8 hc hs) λr hr=>.sel (λh=>.inl ⟨hr.1,hr.2.2 h⟩) λ_=>.inr hr.1
 ·obtain ⟨i,a⟩:=s
  obtain ⟨g0,g1,g2,g3⟩:=hs
  simp only at g0 g1 g2 g3
  unfold kH
  refine .sel (λhlt=>?_) λhlt=>.inr (show a.length=eQ.length/\∀ l∈a,mV l from ?_)
  ·simp only [decide_eq_true_eq] at hlt
   have hia:i<a.length:=by rw [g2.1]; exact hlt
   refine .bind (P:=λz=>oo eQ.length z/\∀ (j:Nat) l,(j:Int)<i+1->z[j]?=some l->mV l) (.bind (.nth g0 hia) λl ⟨hl',hm⟩=>.sel (λhe=>.bind Al λsf hsf=>.pure ⟨g2.set (.inr hsf),λj l2 hj hl2=>?_⟩) λhne=>.pure ⟨g2,λj l2 hj hl2=>?_⟩) λz hz=>.inl ?_
   ·by_cases e:j=i.toNat
    ·subst e
     have hlt3:i.toNat<a.length:=by omega
     rw [List.getElem?_set_self hlt3] at hl2
     injection hl2 with hl2
     exact hl2▸hsf
    ·rw [List.getElem?_set_ne (λh=>e h.symm)] at hl2
     exact g3 j l2 (by omega) hl2
   ·by_cases e:j=i.toNat
    ·subst e
     rw [hl'] at hl2
     injection hl2 with hl2
     subst hl2
     exact (g2.2 l hm).resolve_left (by rintro rfl; simp at hne)
    ·exact g3 j l2 (by omega) hl2
   ·rw [ax g0 (by omega)]
    exact ⟨⟨by simp only; omega,by simp only; omega,hz⟩,by simp only; omega⟩
  ·simp only [decide_eq_false_iff_not] at hlt
   refine ⟨g2.1,λl hm=>?_⟩
   obtain ⟨j,hj,rfl⟩:=List.getElem_of_mem hm
   exact g3 j _ (by have:=g2.1; omega) (List.getElem?_eq_getElem hj)
theorem Dp {q:ab} {m:Int} {cs:List Int} (hq:QOk m q) (hf:mV cs):Tot (iU q cs) λq'=>QOk m q'/\q'.Op=q.Op:=by
 have hv:=hq
 unfold QOk at hv
 unfold iU
 refine .bind (P:=λb=>b=true↔(q.Op=2\/q.Op=5\/q.Op=6\/q.Op=9)) (.sel (λh=>.pure ?_) λh=>.sel (λh'=>.pure ?_) λh'=>.sel (λh''=>.pure ?_) λh''=>.pure ?_) λb hb=>.sel (λhbt=>?_) λhbf=>.sel (λh=>?_) λ_=>.pure ⟨hq,rfl⟩
 ·simp only [beq_iff_eq] at *; simp [h]
 ·simp only [beq_iff_eq] at *; simp [h']
 ·simp only [beq_iff_eq] at *; simp [h'']
 ·simp only [beq_eq_false_iff_ne,ne_eq] at *; simp [h,h',h'']
 ·have ha:Rg q.A:=by have:=hb.1 hbt; unfold Rg at *; omega
  refine .bind (.nth (ha.lt hf.1).1 (ha.lt hf.1).2) λx ⟨_,hm⟩=>.pure ⟨?_,rfl⟩
  have hx:=hf.2 x hm
  rcases hb.1 hbt with h | h | h | h <;> simp [h] at hv <;> simp [QOk,h,hv,hx]
 ·simp only [beq_iff_eq] at h
  simp [h] at hv
  exact .bind (.nth (hv.2.1.lt hf.1).1 (hv.2.1.lt hf.1).2) λx ⟨_,hm⟩=>.bind (.nth (hv.2.2.1.lt hf.1).1 (hv.2.2.1.lt hf.1).2) λy ⟨_,hm'⟩=>.pure ⟨.inr (.inr (.inl ⟨h,hv.1,hf.2 x hm,hf.2 y hm',hv.2.2.2⟩)),rfl⟩
theorem Am:uB gI:=λ{eQ} hc=>by
 unfold gI
 rw [aQ hc,ob9]
 have hl:=hc.max
 refine .sf rfl (.bind (Bj hc) λcs hcs=>.bind (mJ (n:=eQ.length) (λi q'=>∃ q:ab,eQ[i]?=some q/\QOk eQ.length q'/\(q.Op=10\/q.Op=4->q'.Op=10\/q'.Op=4)) hc.max (λi out h0 h1 h2=>?_) λout=>?_) λout ho=>.pure ⟨hc.alike ho,rfl,by rw [ho.1]; exact Nat.le_refl _⟩)
 ·unfold du
  refine .st (by simpa using h1) (.bind (.nth h0 (by rw [hcs.1]; exact h1)) λl ⟨_,hm⟩=>.bind (.nth h0 h1) λq ⟨hq,hqm⟩=>.bind (Dp (hc.q q hqm) (hcs.2 l hm)) λq' hq'=>.bind (.app (by simp [h2]; omega)) λr hr=>.pure ⟨q',?_,q,hq,hq'.1,λh=>by rw [hq'.2]; exact h⟩)
  rw [ax h0 (by omega),hr]
 ·unfold du; rw [aj (by simp)]
theorem sO {eQ:List ab} (hc:COk eQ) {x:Int} (h0:0<=x) (h1:x<eQ.length):Tot (fv eQ x) λy=>0<=y/\y<eQ.length:=by
 have hl:=hc.max
 unfold fv
 refine .bind (P:=λz=>match z with | .inl y=>0<=y/\y<(eQ.length:Int) | .inr _=>True) (.iter (λs=>0<=s.2/\s.2<=(eQ.length:Int)/\0<=s.1/\s.1<(eQ.length:Int)) (λs=>((eQ.length:Int)-s.2).toNat) ⟨by simp,by simp,h0,h1⟩ λs hs=>?_) λz hz=>.both (λy e=>by subst e; exact .pure hz) λ_ _=>.pure ⟨h0,h1⟩
 obtain ⟨y,i⟩:=s
 obtain ⟨g0,g1,g2,g3⟩:=hs
 simp only at g0 g1 g2 g3
 unfold mw
 refine .sel (λhlt=>?_) λhlt=>.inr trivial
 simp only [decide_eq_true_eq] at hlt
 refine .bind (.nth g2 g3) λq ⟨hq,hm⟩=>.sel (λ_=>.inr ⟨g2,g3⟩) λh4=>.bind (.nth g2 g3) λq' ⟨hq',_⟩=>.inl ?_
 obtain rfl:q=q':=o9 (hq.symm.trans hq')
 simp only [bne_eq_false_iff_eq] at h4
 have hv:=hc.q q hm
 unfold QOk at hv
 simp [h4] at hv
 rw [ax g0 (by omega)]
 exact ⟨⟨by simp only; omega,by simp only; omega,hv.2.2.2.1,hv.2.2.2.2⟩,by simp only; omega⟩
theorem An:uB gJ:=λ{eQ} hc=>by
 unfold gJ
 rw [aQ hc,ob9]
 have hl:=hc.max
 refine .sf rfl (.bind (mJ (n:=eQ.length) (λi q'=>∃ q:ab,eQ[i]?=some q/\QOk eQ.length q'/\(q.Op=10\/q.Op=4->q'.Op=10\/q'.Op=4)) hc.max (λi out h0 h1 h2=>?_) λout=>?_) λout ho=>.pure ⟨hc.alike ho,rfl,by rw [ho.1]; exact Nat.le_refl _⟩)
 ·unfold dv
  refine .st (by simpa using h1) (.bind (.nth h0 h1) λq ⟨hq,hqm⟩=>.bind (P:=λq'=>QOk eQ.length q'/\q'.Op=q.Op) ?_ λq' hq'=>.bind (.app (by simp [h2]; omega)) λr hr=>.pure ⟨q',?_,q,hq,hq'.1,λh=>by rw [hq'.2]; exact h⟩)
  ·have hv:=hc.q q hqm
   have hw:=hv
   unfold QOk at hw
   refine .sel (λh=>?_) λ_=>.pure ⟨hv,rfl⟩
   simp only [Bool.or_eq_true,beq_iff_eq] at h
   have hr:0<=q.N/\q.N<eQ.length:=by rcases h with h | h <;> simp [h] at hw <;> omega
   refine .bind (sO hc hr.1 hr.2) λy hy=>.pure ⟨?_,rfl⟩
   rcases h with h | h <;> simp [h] at hw <;> simp [QOk,h,hw,hy]
  ·rw [ax h0 (by omega),hr]
 ·unfold dv; rw [aj (by simp)]
end

end Go.Proofs.YtfpngipcclmliaaGreatDoor.N
