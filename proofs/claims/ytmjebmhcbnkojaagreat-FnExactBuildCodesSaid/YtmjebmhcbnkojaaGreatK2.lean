/- Printed by a program of mine: what the program's functions compute, as plain Lean functions. Plain laws of the natural functions' words: repetitions, numbers th -/
import Derived.Test.YtmjebmhcbnkojaaGreatK1
import Derived.Test.YtmjebmhcbnkojaaGreatProg
set_option linter.unusedVariables false
set_option linter.unusedSimpArgs false
set_option maxRecDepth 100000
set_option maxHeartbeats 4000000
namespace Go.Proofs.YtmjebmhcbnkojaaGreat.N
open Go.Proofs.YtmjebmhcbnkojaaGreat.X
noncomputable section
structure Dt where
 b:List Int
 p:Int
structure Expr where
 Op:Int
 N:Int
 Args:List Expr
mutual
def bB:Expr->D
 | ⟨x0,x1,x2⟩=>.agg [.int .i64 x0,.int .i64 x1,.row 77 3 (wG x2)]
def wG:List Expr->List D
 | []=>[]
 | x::r=>bB x::wG r
end
theorem uv:∀ l,wG l=l.map bB
 | []=>rfl
 | x::r=>by rw [wG,uv r,List.map]
theorem f9 (x:Expr):bB x=.agg [.int .i64 x.Op,.int .i64 x.N,.row 77 3 (x.Args.map bB)]:=by
 cases x; simp only [bB,uv]
theorem B8 (x:Expr):(bB x).sz=3:=by simp only [f9,D.sz,D.szs]
structure ae where
 Kind:Int
 Var:Int
 Box:Int
 Expr:Expr
 Body:List ae
 Else:List ae
mutual
def aL:ae->D
 | ⟨x0,x1,x2,x3,x4,x5⟩=>.agg [.int .i64 x0,.int .i64 x1,.int .i64 x2,bB x3,.row 80 8 (uw x4),.row 80 8 (uw x5)]
def uw:List ae->List D
 | []=>[]
 | x::r=>aL x::uw r
end
theorem ux:∀ l,uw l=l.map aL
 | []=>rfl
 | x::r=>by rw [uw,ux r,List.map]
theorem np (x:ae):aL x=.agg [.int .i64 x.Kind,.int .i64 x.Var,.int .i64 x.Box,bB x.Expr,.row 80 8 (x.Body.map aL),.row 80 8 (x.Else.map aL)]:=by
 cases x; simp only [aL,ux]
theorem CU (x:ae):(aL x).sz=8:=by simp only [np,D.sz,D.szs,B8]
structure aJ where
 Rooms:List Int
 Tasks:List (List ae)
structure ab where
 Op:Int
 Dst:Int
 A:Int
 B:Int
 N:Int
def ah (x:ab):D:=.agg [.int .i64 x.Op,.int .i64 x.Dst,.int .i64 x.A,.int .i64 x.B,.int .i64 x.N]
abbrev ib (b:Ar Int):List Value:=arC 12 (λ(x:Int)=>[.int .u16 x]) b
theorem wH (b:Ar Int):(ib b).length=12:=eC (k:=1) λ_=>rfl
theorem AD:∀ x:Int,([.int .u16 x]:List Value).all (·.oneCell')=true:=λ_=>rfl
structure pL where
 variable_:Bool
 box:Bool
 expr:Bool
 body:Bool
 other:Bool
structure ai where
 Kind:Int
 N:Int
def aV (x:ai):D:=.agg [.int .i64 x.Kind,.int .i64 x.N]
abbrev kS (b:Ar ai):List Value:=arC 12 (λ(x:ai)=>[.int .i64 x.Kind,.int .i64 x.N]) b
theorem kV (b:Ar ai):(kS b).length=24:=eC (k:=2) λ_=>rfl
theorem uy:∀ x:ai,([.int .i64 x.Kind,.int .i64 x.N]:List Value).all (·.oneCell')=true:=λ_=>rfl
abbrev cT (b:Ar Int):List Value:=arC 12 (λ(x:Int)=>[.int .i64 x]) b
theorem eV (b:Ar Int):(cT b).length=12:=eC (k:=1) λ_=>rfl
theorem oe:∀ x:Int,([.int .i64 x]:List Value).all (·.oneCell')=true:=λ_=>rfl
structure ax where
 Op:Int
 N:Int
 Args:List ax
mutual
def gS:ax->D
 | ⟨x0,x1,x2⟩=>.agg [.int .i64 x0,.int .i64 x1,.row 141 3 (q8 x2)]
def q8:List ax->List D
 | []=>[]
 | x::r=>gS x::q8 r
end
theorem oL:∀ l,q8 l=l.map gS
 | []=>rfl
 | x::r=>by rw [q8,oL r,List.map]
theorem uz (x:ax):gS x=.agg [.int .i64 x.Op,.int .i64 x.N,.row 141 3 (x.Args.map gS)]:=by
 cases x; simp only [gS,oL]
structure aq where
 Kind:Int
 Var:Int
 Box:Int
 Expr:ax
 Body:List aq
 Else:List aq
mutual
def cB:aq->D
 | ⟨x0,x1,x2,x3,x4,x5⟩=>.agg [.int .i64 x0,.int .i64 x1,.int .i64 x2,gS x3,.row 143 8 (pD x4),.row 143 8 (pD x5)]
def pD:List aq->List D
 | []=>[]
 | x::r=>cB x::pD r
end
theorem nq:∀ l,pD l=l.map cB
 | []=>rfl
 | x::r=>by rw [pD,nq r,List.map]
theorem yr (x:aq):cB x=.agg [.int .i64 x.Kind,.int .i64 x.Var,.int .i64 x.Box,gS x.Expr,.row 143 8 (x.Body.map cB),.row 143 8 (x.Else.map cB)]:=by
 cases x; simp only [cB,nq]
structure aN where
 Rooms:List Int
 Tasks:List (List aq)
def qz (x:aN):D:=.agg [.row 3 1 (x.Rooms.map (D.int .i64)),.row 108 1 (x.Tasks.map (λ(l:List aq)=>D.row 143 8 (l.map cB)))]
theorem T.t3:aQ Tryz.prog 3=some (false,some (.int .i64 0),1,8):=by kernel_rfl
theorem T.u3:Tryz.prog.underlying 3=some (.int .i64):=by kernel_rfl
theorem T.mix:Tryz.prog.follows .mixedOrders=true:=by kernel_rfl
theorem T.u23:Tryz.prog.underlying 23=some (.slice 3):=by kernel_rfl
theorem T.t77:aQ Tryz.prog 77=some (true,some (.agg #[.int .i64 0,.int .i64 0,.slice none 0 0]),3,40):=by kernel_rfl
theorem T.u75:Tryz.prog.underlying 75=some (.slice 77):=by kernel_rfl
theorem T.t80:aQ Tryz.prog 80=some (true,some (.agg #[.int .i64 0,.int .i64 0,.int .i64 0,.int .i64 0,.int .i64 0,.slice none 0 0,.slice none 0 0,.slice none 0 0]),8,112):=by kernel_rfl
theorem T.u36:Tryz.prog.underlying 36=some (.slice 80):=by kernel_rfl
theorem T.f80_4:gR Tryz.prog 80 4=some (6,1,false):=by kernel_rfl
theorem T.t36:aQ Tryz.prog 36=some (false,some (.slice none 0 0),1,24):=by kernel_rfl
theorem T.f80_5:gR Tryz.prog 80 5=some (7,1,false):=by kernel_rfl
theorem T.t26:aQ Tryz.prog 26=some (true,some (.agg #[.slice none 0 0,.slice none 0 0]),2,48):=by kernel_rfl
theorem T.u24:Tryz.prog.underlying 24=some (.slice 36):=by kernel_rfl
theorem T.f26_1:gR Tryz.prog 26 1=some (1,1,false):=by kernel_rfl
theorem T.t24:aQ Tryz.prog 24=some (false,some (.slice none 0 0),1,24):=by kernel_rfl
theorem T.f26_0:gR Tryz.prog 26 0=some (0,1,false):=by kernel_rfl
theorem T.t23:aQ Tryz.prog 23=some (false,some (.slice none 0 0),1,24):=by kernel_rfl
theorem T.t4:aQ Tryz.prog 4=some (false,some (.bool false),1,1):=by kernel_rfl
theorem T.f62_1:gR Tryz.prog 62 1=some (1,1,false):=by kernel_rfl
theorem T.f62_2:gR Tryz.prog 62 2=some (2,1,false):=by kernel_rfl
theorem T.f62_3:gR Tryz.prog 62 3=some (3,1,false):=by kernel_rfl
theorem T.f62_4:gR Tryz.prog 62 4=some (4,1,false):=by kernel_rfl
theorem T.f62_0:gR Tryz.prog 62 0=some (0,1,false):=by kernel_rfl
theorem T.t62:aQ Tryz.prog 62=some (true,some (.agg #[.int .i64 0,.int .i64 0,.int .i64 0,.int .i64 0,.int .i64 0]),5,40):=by kernel_rfl
theorem T.s62:we Tryz.prog 62=some ([(0,1),(1,1),(2,1),(3,1),(4,1)],[.int .i64 0,.int .i64 0,.int .i64 0,.int .i64 0,.int .i64 0]):=by kernel_rfl
theorem T.e62:qi Tryz.prog 62=some [(0,.int .i64),(1,.int .i64),(2,.int .i64),(3,.int .i64),(4,.int .i64)]:=by kernel_rfl
theorem T.u33:Tryz.prog.underlying 33=some (.slice 62):=by kernel_rfl
theorem T.u134:Tryz.prog.underlying 134=some (.slice 99):=by kernel_rfl
theorem T.t99:aQ Tryz.prog 99=some (false,some (.int .u16 0),1,2):=by kernel_rfl
theorem T.t104:aQ Tryz.prog 104=some (true,some (.agg #[.int .u16 0,.int .u16 0,.int .u16 0,.int .u16 0,.int .u16 0,.int .u16 0,.int .u16 0,.int .u16 0,.int .u16 0,.int .u16 0,.int .u16 0,.int .u16 0]),12,24):=by kernel_rfl
theorem T.u104:Tryz.prog.underlying 104=some (.array 12 99):=by kernel_rfl
theorem T.f77_0:gR Tryz.prog 77 0=some (0,1,false):=by kernel_rfl
theorem T.f77_1:gR Tryz.prog 77 1=some (1,1,false):=by kernel_rfl
theorem T.f77_2:gR Tryz.prog 77 2=some (2,1,false):=by kernel_rfl
theorem T.t75:aQ Tryz.prog 75=some (false,some (.slice none 0 0),1,24):=by kernel_rfl
theorem T.f80_0:gR Tryz.prog 80 0=some (0,1,false):=by kernel_rfl
theorem T.f80_3:gR Tryz.prog 80 3=some (3,3,true):=by kernel_rfl
theorem T.f80_1:gR Tryz.prog 80 1=some (1,1,false):=by kernel_rfl
theorem T.f80_2:gR Tryz.prog 80 2=some (2,1,false):=by kernel_rfl
theorem T.t175:aQ Tryz.prog 175=some (true,some (.agg #[.bool false,.bool false,.bool false,.bool false,.bool false]),5,5):=by kernel_rfl
theorem T.f175_0:gR Tryz.prog 175 0=some (0,1,false):=by kernel_rfl
theorem T.f175_2:gR Tryz.prog 175 2=some (2,1,false):=by kernel_rfl
theorem T.f175_3:gR Tryz.prog 175 3=some (3,1,false):=by kernel_rfl
theorem T.f175_4:gR Tryz.prog 175 4=some (4,1,false):=by kernel_rfl
theorem T.f175_1:gR Tryz.prog 175 1=some (1,1,false):=by kernel_rfl
theorem T.u29:Tryz.prog.underlying 29=some (.slice 33):=by kernel_rfl
theorem T.t33:aQ Tryz.prog 33=some (false,some (.slice none 0 0),1,24):=by kernel_rfl
theorem T.u21:Tryz.prog.underlying 21=some (.int .i32):=by kernel_rfl
theorem T.t92:aQ Tryz.prog 92=some (true,some (.agg #[.int .i64 0,.int .i64 0,.int .i64 0,.int .i64 0,.int .i64 0,.int .i64 0,.int .i64 0,.int .i64 0,.int .i64 0,.int .i64 0,.int .i64 0,.int .i64 0,.int .i64 0,.int .i64 0,.int .i64 0,.int .i64 0,.int .i64 0,.int .i64 0,.int .i64 0,.int .i64 0,.int .i64 0,.int .i64 0,.int .i64 0,.int .i64 0]),24,192):=by kernel_rfl
theorem T.s90:we Tryz.prog 90=some ([(0,1),(1,1)],[.int .i64 0,.int .i64 0]):=by kernel_rfl
theorem T.t90:aQ Tryz.prog 90=some (true,some (.agg #[.int .i64 0,.int .i64 0]),2,16):=by kernel_rfl
theorem T.u92:Tryz.prog.underlying 92=some (.array 12 90):=by kernel_rfl
theorem T.f90_0:gR Tryz.prog 90 0=some (0,1,false):=by kernel_rfl
theorem T.f90_1:gR Tryz.prog 90 1=some (1,1,false):=by kernel_rfl
theorem T.e90:qi Tryz.prog 90=some [(0,.int .i64),(1,.int .i64)]:=by kernel_rfl
theorem T.u87:Tryz.prog.underlying 87=some (.slice 92):=by kernel_rfl
theorem T.q92:Tryz.prog.eqGuardType Tryz.prog.depth 92=false:=by kernel_rfl
theorem T.t97:aQ Tryz.prog 97=some (true,some (.agg #[.int .i64 0,.int .i64 0,.int .i64 0,.int .i64 0,.int .i64 0,.int .i64 0,.int .i64 0,.int .i64 0,.int .i64 0,.int .i64 0,.int .i64 0,.int .i64 0]),12,96):=by kernel_rfl
theorem T.u97:Tryz.prog.underlying 97=some (.array 12 3):=by kernel_rfl
theorem T.u94:Tryz.prog.underlying 94=some (.slice 97):=by kernel_rfl
theorem T.u102:Tryz.prog.underlying 102=some (.slice 4):=by kernel_rfl
theorem T.q97:Tryz.prog.eqGuardType Tryz.prog.depth 97=false:=by kernel_rfl
theorem T.u63:Tryz.prog.underlying 63=some (.slice 38):=by kernel_rfl
theorem T.t38:aQ Tryz.prog 38=some (false,some (.nilFunc),1,8):=by kernel_rfl
theorem T.u166:Tryz.prog.underlying 166=some (.slice 90):=by kernel_rfl
theorem T.u163:Tryz.prog.underlying 163=some (.slice 166):=by kernel_rfl
theorem T.t166:aQ Tryz.prog 166=some (false,some (.slice none 0 0),1,24):=by kernel_rfl
theorem T.u167:Tryz.prog.underlying 167=some (.slice 23):=by kernel_rfl
theorem T.u119:Tryz.prog.underlying 119=some (.slice 102):=by kernel_rfl
theorem T.t102:aQ Tryz.prog 102=some (false,some (.slice none 0 0),1,24):=by kernel_rfl
theorem T.u4:Tryz.prog.underlying 4=some (.bool):=by kernel_rfl
theorem T.f141_2:gR Tryz.prog 141 2=some (2,1,false):=by kernel_rfl
theorem T.t139:aQ Tryz.prog 139=some (false,some (.slice none 0 0),1,24):=by kernel_rfl
theorem T.u139:Tryz.prog.underlying 139=some (.slice 141):=by kernel_rfl
theorem T.t141:aQ Tryz.prog 141=some (true,some (.agg #[.int .i64 0,.int .i64 0,.slice none 0 0]),3,40):=by kernel_rfl
theorem T.u108:Tryz.prog.underlying 108=some (.slice 143):=by kernel_rfl
theorem T.t143:aQ Tryz.prog 143=some (true,some (.agg #[.int .i64 0,.int .i64 0,.int .i64 0,.int .i64 0,.int .i64 0,.slice none 0 0,.slice none 0 0,.slice none 0 0]),8,112):=by kernel_rfl
theorem T.f143_3:gR Tryz.prog 143 3=some (3,3,true):=by kernel_rfl
theorem T.f143_4:gR Tryz.prog 143 4=some (6,1,false):=by kernel_rfl
theorem T.t108:aQ Tryz.prog 108=some (false,some (.slice none 0 0),1,24):=by kernel_rfl
theorem T.f143_5:gR Tryz.prog 143 5=some (7,1,false):=by kernel_rfl
theorem T.u42:Tryz.prog.underlying 42=some (.slice 108):=by kernel_rfl
theorem T.f44_0:gR Tryz.prog 44 0=some (0,1,false):=by kernel_rfl
theorem T.f44_1:gR Tryz.prog 44 1=some (1,1,false):=by kernel_rfl
theorem T.t42:aQ Tryz.prog 42=some (false,some (.slice none 0 0),1,24):=by kernel_rfl
theorem T.f141_0:gR Tryz.prog 141 0=some (0,1,false):=by kernel_rfl
theorem T.f141_1:gR Tryz.prog 141 1=some (1,1,false):=by kernel_rfl
theorem T.f143_0:gR Tryz.prog 143 0=some (0,1,false):=by kernel_rfl
theorem T.f143_1:gR Tryz.prog 143 1=some (1,1,false):=by kernel_rfl
theorem T.f143_2:gR Tryz.prog 143 2=some (2,1,false):=by kernel_rfl
theorem T.t44:aQ Tryz.prog 44=some (true,some (.agg #[.slice none 0 0,.slice none 0 0]),2,48):=by kernel_rfl
def oM (a0:Dt) (a1:Int):Option (Int×Int):=
sel ((decide (a1<1))||((a0.b.length:Int)==0)) (some (0,w64 (a0.p+1))) <|
sel (decide ((w64 ((w64 (a0.p+1))-1))<(a0.b.length:Int))) ((nth a0.b (w64 ((w64 (a0.p+1))-1))).bind λx1 =>
(sh (w64 (x1)) a1).bind λd1 =>
some (d1,w64 (a0.p+1))) <|
(sh (w64 ((w64 (a0.p+1))-1)) (a0.b.length:Int)).bind λd2 =>
(nth a0.b d2).bind λx2 =>
(sh (w64 ((w64 ((w64 ((w64 (a0.p+1))-1))*7))+3)) (a0.b.length:Int)).bind λd3 =>
(nth a0.b d3).bind λx3 =>
(vL .i64 (w64 ((w64 (a0.p+1))-1)) (a0.b.length:Int)).bind λd4 =>
(sh (bj .xor .i64 (w64 ((w64 ((w64 ((w64 ((w64 (x2))*131))+(w64 ((w64 (x3))*1117))))+(w64 ((w64 ((w64 (a0.p+1))-1))*29))))+(w64 (d4*53)))) (w64 (Int.tdiv (w64 ((w64 ((w64 ((w64 ((w64 (x2))*131))+(w64 ((w64 (x3))*1117))))+(w64 ((w64 ((w64 (a0.p+1))-1))*29))))+(w64 (d4*53)))) 64))) a1).bind λd5 =>
some (d5,w64 (a0.p+1))
def gf (a0:List ae) (dB:List ae->Option (Int)) (s1:Int×Int):Option ((Int×Int)⊕Int):=
sel (decide (s1.2<(a0.length:Int))) ((nth a0 s1.2).bind λx1 =>
(nth a0 s1.2).bind λx2 =>
(dB x1.Body).bind λy4 =>
(dB x2.Else).bind λy5 =>
some (.inl (w64 ((w64 ((w64 (s1.1+1))+y4))+y5),w64 (s1.2+1)))) <|
some (.inr s1.1)
def ca (k:Nat) (dB:List ae->Option (Int)) (a0:List ae):Option (Int):=
(aB (gf a0 dB) (0,0)).bind λy1 =>
some y1
def nr:Nat->(List ae->Option (Int))
 | 0=>((λ_=>none))
 | k+1=>(ca k (nr k))
def bW (k:Nat):List ae->Option (Int):=(nr k)
def kL (a0:Int):Option (Bool):=
some ((decide (a0>=0))&&(decide (a0<12)))
def iK (a0:Int):Option (Bool):=
some ((decide (a0>=(-2147483648)))&&(decide (a0<=2147483647)))
def ju (a0:Int):Option (Bool):=
some ((decide (a0>=1))&&(decide (a0<=12)))
def iL (a0:ab) (a1:Int):Option (Bool):=
(kL a0.Dst).bind λy1 =>
(kL a0.A).bind λy2 =>
(kL a0.B).bind λy3 =>
sel (a0.Op==1) ((sel (((a0.Op==1)&&((a0.Dst==a0.Dst)&&((a0.A==0)&&((a0.B==0)&&((a0.N==a0.N)&&true)))))&&y1) ((iK a0.N).bind λy4=>some y4) (some false):Option (Bool)).bind λb1 =>
some b1) <|
sel (a0.Op==2) (some ((((a0.Op==2)&&((a0.Dst==a0.Dst)&&((a0.A==a0.A)&&((a0.B==0)&&((a0.N==0)&&true)))))&&y1)&&y2)) <|
sel (a0.Op==3) ((sel ((y1&&y2)&&y3) ((ju a0.N).bind λy5=>some y5) (some false):Option (Bool)).bind λb2 =>
some b2) <|
sel (a0.Op==4) (some ((((a0.Op==4)&&((a0.Dst==0)&&((a0.A==0)&&((a0.B==0)&&((a0.N==a0.N)&&true)))))&&(decide (a0.N>=0)))&&(decide (a0.N<a1)))) <|
sel (a0.Op==5) (some (((((a0.Op==5)&&((a0.Dst==0)&&((a0.A==a0.A)&&((a0.B==0)&&((a0.N==a0.N)&&true)))))&&y2)&&(decide (a0.N>=0)))&&(decide (a0.N<a1)))) <|
sel (a0.Op==6) (some (((((a0.Op==6)&&((a0.Dst==0)&&((a0.A==a0.A)&&((a0.B==0)&&((a0.N==a0.N)&&true)))))&&y2)&&(decide (a0.N>=0)))&&(decide (a0.N<3)))) <|
sel (a0.Op==7) (some (((((a0.Op==7)&&((a0.Dst==a0.Dst)&&((a0.A==0)&&((a0.B==0)&&((a0.N==a0.N)&&true)))))&&y1)&&(decide (a0.N>=0)))&&(decide (a0.N<3)))) <|
sel (a0.Op==9) (some (((a0.Op==9)&&((a0.Dst==0)&&((a0.A==a0.A)&&((a0.B==0)&&((a0.N==0)&&true)))))&&y2)) <|
(sel (a0.Op==8) (some (a0.Op==8)) <|
some (a0.Op==10):Option (Bool)).bind λy6 =>
sel y6 (some ((a0.Op==a0.Op)&&((a0.Dst==0)&&((a0.A==0)&&((a0.B==0)&&((a0.N==0)&&true)))))) <|
some false
def kW (a0:List ab) (s1:Int):Option (Int⊕(Bool⊕Unit)):=
sel (decide (s1<(a0.length:Int))) ((nth a0 s1).bind λx1 =>
(iL x1 (a0.length:Int)).bind λy4 =>
sel (!y4) (some (.inr (.inl false))) <|
some (.inl (w64 (s1+1)))) <|
some (.inr (.inr ()))
def ba (a0:List ab):Option (Bool):=
sel ((decide ((a0.length:Int)<1))||(decide ((a0.length:Int)>600))) (some false) <|
(aB (kW a0) 0).bind λy1 =>
ia y1 (λo3=>some o3) (λo4 =>
(nth a0 (w64 ((a0.length:Int)-1))).bind λx2 =>
some ((x2.Op==10)||(x2.Op==4)))
def aA (a0:List ab):Option ((List ab)):=
(app 40 [] a0).bind λr1 =>
some r1
def iM (a0:ab):Option (Int):=
(sel (a0.Op==2) (some (a0.Op==2)) <|
sel (a0.Op==5) (some (a0.Op==5)) <|
sel (a0.Op==6) (some (a0.Op==6)) <|
some (a0.Op==9):Option (Bool)).bind λy1 =>
sel y1 ((shO .shl .u16 1 a0.A).bind λd1 =>
some d1) <|
sel (a0.Op==3) ((shO .shl .u16 1 a0.A).bind λd2 =>
(shO .shl .u16 1 a0.B).bind λd3 =>
some (bj .or .u16 d2 d3)) <|
some 0
def dU (a0:ab):Option (Int):=
(sel (a0.Op==1) (some (a0.Op==1)) <|
sel (a0.Op==2) (some (a0.Op==2)) <|
sel (a0.Op==3) (some (a0.Op==3)) <|
some (a0.Op==7):Option (Bool)).bind λy1 =>
sel y1 (some a0.Dst) <|
some (-1)
def gP (a0:ab) (a1:Int):Option ((List Int)):=
sel (a0.Op==10) (some []) <|
sel (a0.Op==4) (some [a0.N]) <|
sel ((a0.Op==5)&&(decide (a0.N<(w64 (a1+1))))) (some [a0.N,w64 (a1+1)]) <|
sel ((a0.Op==5)&&(decide (a0.N>(w64 (a1+1))))) (some [w64 (a1+1),a0.N]) <|
some [w64 (a1+1)]
def kM (a1:List Int) (y1:(List Int)) (s1:Int×Int):Option ((Int×Int)⊕Int):=
sel (decide (s1.2<(y1.length:Int))) ((nth y1 s1.2).bind λx2 =>
(nth a1 x2).bind λx3 =>
some (.inl (bj .or .u16 s1.1 x3,w64 (s1.2+1)))) <|
some (.inr s1.1)
def dC (a0:List ab) (a1:List Int) (a2:Int):Option (Int):=
(nth a0 a2).bind λx1 =>
(gP x1 a2).bind λy1 =>
(aB (kM a1 y1) (0,0)).bind λy2 =>
some y2
def cU (a0:List ab) (s2:Bool×Int×(List Int)):Option ((Bool×Int×(List Int))⊕(Bool×(List Int))):=
sel (decide (s2.2.1>=0)) (((dC a0 s2.2.2 s2.2.1).bind λy8 =>
((nth a0 s2.2.1).bind λx1 =>
(dU x1).bind λy10 =>
sel (decide (y10>=0)) ((shO .shl .u16 1 y10).bind λd1 =>
some (bj .andNot .u16 y8 d1)) <|
some y8:Option (Int)).bind λy9 =>
(nth a0 s2.2.1).bind λx2 =>
(iM x2).bind λy11 =>
(nth s2.2.2 s2.2.1).bind λx3 =>
sel ((bj .or .u16 y9 y11) !=x3) ((nth s2.2.2 s2.2.1).bind λx4 =>
(upd s2.2.2 s2.2.1 (bj .or .u16 y9 y11)).bind λr2 =>
some (true,r2)) <|
some (s2.1,s2.2.2):Option (Bool×(List Int))).bind λy7 =>
some (.inl (y7.1,w64 (s2.2.1-1),y7.2))) <|
some (.inr (s2.1,s2.2.2))
def bz (a0:List ab) (s1:Bool×(List Int)):Option ((Bool×(List Int))⊕((List Int))):=
sel s1.1 ((aB (cU a0) (false,w64 ((a0.length:Int)-1),s1.2)).bind λy4 =>
some (.inl (y4.1,y4.2))) <|
some (.inr s1.2)
def dD (a0:List ab):Option ((List Int)):=
(mk 2 (a0.length:Int) 0).bind λr1 =>
(aB (bz a0) (true,r1)).bind λy1 =>
some y1
def cQ (a0:Int) (a1:Int):Option (Bool):=
(shO .shr .u16 a0 a1).bind λd1 =>
some ((bj .and .u16 d1 1)==1)
def jU (a0:Int) (s1:(List Int)×Int):Option (((List Int)×Int)⊕((List Int))):=
sel (decide (s1.2<12)) (((cQ a0 s1.2).bind λy5 =>
sel y5 ((app 8 s1.1 [s1.2]).bind λr1 =>
some r1) <|
some s1.1:Option ((List Int))).bind λy4 =>
some (.inl (y4,w64 (s1.2+1)))) <|
some (.inr s1.1)
def gg (a0:Int):Option ((List Int)):=
(aB (jU a0) ([],0)).bind λy1 =>
some y1
def jv (y6:Int) (y9:(List Int)) (s2:Int×(Ar Int)):Option ((Int×(Ar Int))⊕((Ar Int))):=
sel (decide (s2.1<(y9.length:Int))) ((nth y9 s2.1).bind λx4 =>
(cn 12 s2.2 x4).bind λx5 =>
(shO .shl .u16 1 y6).bind λd3 =>
(cn 12 s2.2 x4).bind λx6 =>
some (.inl (w64 (s2.1+1),(mn s2.2 x4 (bj .or .u16 x5 d3))))) <|
some (.inr s2.2)
def lS (a0:List ab) (y1:(List Int)) (s1:Int×(Ar Int)):Option ((Int×(Ar Int))⊕((Ar Int))):=
sel (decide (s1.1<(a0.length:Int))) (((nth a0 s1.1).bind λx1 =>
(dU x1).bind λy6 =>
sel (decide (y6<0)) (some s1.2) <|
(shO .shl .u16 1 y6).bind λd1 =>
(dC a0 y1 s1.1).bind λy7 =>
(sel (x1.Op==2) ((shO .shl .u16 1 x1.A).bind λd2 =>
some (bj .andNot .u16 (bj .andNot .u16 y7 d1) d2)) <|
some (bj .andNot .u16 y7 d1):Option (Int)).bind λy8 =>
(cn 12 s1.2 y6).bind λx2 =>
(cn 12 s1.2 y6).bind λx3 =>
(gg y8).bind λy9 =>
(aB (jv y6 y9) (0,(mn s1.2 y6 (bj .or .u16 x2 y8)))).bind λy10 =>
some y10:Option ((Ar Int))).bind λy5 =>
some (.inl (w64 (s1.1+1),y5))) <|
some (.inr s1.2)
def ip (a0:List ab):Option ((Ar Int)):=
(dD a0).bind λy1 =>
(aB (lS a0 y1) (0,(λ_=>0))).bind λy2 =>
some y2
def lU (y1:(Ar Int)) (s1:Int×(List Int)) (s2:Int×Int):Option ((Int×Int)⊕Int):=
sel (decide (s2.2<s1.1)) (((cn 12 y1 s1.1).bind λx1 =>
(cQ x1 s2.2).bind λy9 =>
sel y9 ((nth s1.2 s2.2).bind λx2 =>
(shO .shl .u16 1 x2).bind λd1 =>
some (bj .or .u16 s2.1 d1)) <|
some s2.1:Option (Int)).bind λy8 =>
some (.inl (y8,w64 (s2.2+1)))) <|
some (.inr s2.1)
def lV (s1:Int×(List Int)) (y5:Int) (s3:(List Int)):Option (((List Int))⊕((List Int))):=
(nth s3 s1.1).bind λx3 =>
(cQ y5 x3).bind λy13 =>
sel y13 ((nth s3 s1.1).bind λx4 =>
(nth s3 s1.1).bind λx5 =>
(upd s3 s1.1 (w64 (x4+1))).bind λr2 =>
some (.inl r2)) <|
some (.inr s3)
def lW (y1:(Ar Int)) (r1:List Int) (s1:Int×(List Int)):Option ((Int×(List Int))⊕((List Int))):=
sel (decide (s1.1<(r1.length:Int))) ((aB (lU y1 s1) (0,0)).bind λy5 =>
(aB (lV s1 y5) s1.2).bind λy10 =>
some (.inl (w64 (s1.1+1),y10))) <|
some (.inr s1.2)
def iq (a0:List ab):Option ((List Int)):=
(ip a0).bind λy1 =>
(mk 8 12 0).bind λr1 =>
(aB (lW y1 r1) (0,r1)).bind λy2 =>
some y2
def fh (a0:List ab) (y2:(List Int)) (s1:Int×(List ab)):Option ((Int×(List ab))⊕((List ab))):=
sel (decide (s1.1<(a0.length:Int))) ((nth a0 s1.1).bind λx1 =>
(nth y2 x1.Dst).bind λx2 =>
(nth y2 x1.A).bind λx3 =>
(nth y2 x1.B).bind λx4 =>
(nth s1.2 s1.1).bind λx5 =>
(upd s1.2 s1.1 (ab.mk x5.Op x2 x5.A x5.B x5.N)).bind λr1 =>
(nth r1 s1.1).bind λx6 =>
(upd r1 s1.1 (ab.mk x6.Op x6.Dst x3 x6.B x6.N)).bind λr2 =>
(nth r2 s1.1).bind λx7 =>
(upd r2 s1.1 (ab.mk x7.Op x7.Dst x7.A x4 x7.N)).bind λr3 =>
some (.inl (w64 (s1.1+1),r3))) <|
some (.inr s1.2)
def eE (a0:List ab):Option ((List ab)×Bool):=
(ba a0).bind λy1 =>
sel (!y1) (some ([],false)) <|
(iq a0).bind λy2 =>
(aA a0).bind λy3 =>
(aB (fh a0 y2) (0,y3)).bind λy4 =>
some (y4,true)
def eF (k:Nat) (eG:Expr->Int->List ab->Option ((List ab))) (a0:Expr) (a1:Int) (a2:List ab):Option ((List ab)):=
sel (a0.Op==0) ((app 40 a2 [(ab.mk 1 a1 0 0 a0.N)]).bind λr1 =>
some r1) <|
sel (a0.Op==13) ((app 40 a2 [(ab.mk 2 a1 a0.N 0 0)]).bind λr2 =>
some r2) <|
(nth a0.Args 0).bind λx1 =>
(eG (Expr.mk x1.Op x1.N x1.Args) a1 a2).bind λy1 =>
(nth a0.Args 1).bind λx2 =>
(eG (Expr.mk x2.Op x2.N x2.Args) (w64 (a1+1)) y1).bind λy2 =>
(app 40 y2 [(ab.mk 3 a1 a1 (w64 (a1+1)) a0.Op)]).bind λr3 =>
some r3
def mo:Nat->(Expr->Int->List ab->Option ((List ab)))
 | 0=>((λ_ _ _=>none))
 | k+1=>(eF k (mo k))
def d7 (k:Nat):Expr->Int->List ab->Option ((List ab)):=(mo k)
def iO (a0:List ae) (bk:ae->List ab->Option ((List ab))) (s1:(List ab)×Int):Option (((List ab)×Int)⊕((List ab))):=
sel (decide (s1.2<(a0.length:Int))) ((nth a0 s1.2).bind λx1 =>
(bk (ae.mk x1.Kind x1.Var x1.Box (Expr.mk x1.Expr.Op x1.Expr.N x1.Expr.Args) x1.Body x1.Else) s1.1).bind λy4 =>
some (.inl (y4,w64 (s1.2+1)))) <|
some (.inr s1.1)
def dI (k:Nat) (bp:List ae->List ab->Option ((List ab))) (bk:ae->List ab->Option ((List ab))) (a0:List ae) (a1:List ab):Option ((List ab)):=
(aB (iO a0 bk) (a1,0)).bind λy1 =>
some y1
def cj (k:Nat) (bp:List ae->List ab->Option ((List ab))) (bk:ae->List ab->Option ((List ab))) (a0:ae) (a1:List ab):Option ((List ab)):=
(sel ((a0.Kind !=5)&&(a0.Kind !=6)) ((d7 k (Expr.mk a0.Expr.Op a0.Expr.N a0.Expr.Args) 4 a1).bind λy2 =>
some y2) <|
some a1:Option ((List ab))).bind λy1 =>
sel (a0.Kind==1) ((app 40 y1 [(ab.mk 2 a0.Var 4 0 0)]).bind λr1 =>
some r1) <|
sel (a0.Kind==4) ((app 40 y1 [(ab.mk 6 0 4 0 a0.Box)]).bind λr2 =>
some r2) <|
sel (a0.Kind==5) ((app 40 y1 [(ab.mk 7 a0.Var 0 0 a0.Box)]).bind λr3 =>
some r3) <|
sel (a0.Kind==6) ((app 40 y1 [(ab.mk 8 0 0 0 0)]).bind λr4 =>
some r4) <|
sel (a0.Kind==7) ((app 40 y1 [(ab.mk 9 0 4 0 0)]).bind λr5 =>
some r5) <|
(app 40 y1 [(ab.mk 5 0 4 0 0)]).bind λr6 =>
(bp a0.Body r6).bind λy3 =>
(sel (a0.Kind==3) ((app 40 y3 [(ab.mk 4 0 0 0 (a1.length:Int))]).bind λr7 =>
some r7) <|
some y3:Option ((List ab))).bind λy4 =>
(sel (decide ((a0.Else.length:Int)>0)) ((app 40 y4 [(ab.mk 4 0 0 0 0)]).bind λr8 =>
some r8) <|
some y4:Option ((List ab))).bind λy5 =>
(nth y5 (y1.length:Int)).bind λx1 =>
(upd y5 (y1.length:Int) (ab.mk x1.Op x1.Dst x1.A x1.B (y5.length:Int))).bind λr9 =>
sel (decide ((a0.Else.length:Int)>0)) ((bp a0.Else r9).bind λy6 =>
(nth y6 (y4.length:Int)).bind λx2 =>
(upd y6 (y4.length:Int) (ab.mk x2.Op x2.Dst x2.A x2.B (y6.length:Int))).bind λr10 =>
some r10) <|
some r9
def bV:Nat->(List ae->List ab->Option ((List ab)))×(ae->List ab->Option ((List ab)))
 | 0=>((λ_ _=>none),(λ_ _=>none))
 | k+1=>(dI k (bV k).1 (bV k).2,cj k (bV k).1 (bV k).2)
def bS (k:Nat):List ae->List ab->Option ((List ab)):=(bV k).1
def d8 (k:Nat):ae->List ab->Option ((List ab)):=(bV k).2
def gh (k:Nat) (a0:List ae):Option ((List ab)):=
(bS k a0 []).bind λy1 =>
(app 40 y1 [(ab.mk 10 0 0 0 0)]).bind λr1 =>
some r1
def gi (k:Nat) (gj:Expr->Int->Option (Bool)) (a0:Expr) (a1:Int):Option (Bool):=
sel (a0.Op==0) (some ((((decide (a0.N>=0))&&(decide (a0.N<=99999)))&&((a0.Args.length:Int)==0))&&(decide (a1>0)))) <|
sel (a0.Op==13) (some ((((decide (a0.N>=0))&&(decide (a0.N<4)))&&((a0.Args.length:Int)==0))&&(decide (a1>0)))) <|
(ju a0.Op).bind λy1 =>
(sel (((y1&&(a0.N==0))&&((a0.Args.length:Int)==2))&&(decide (a1>1))) ((nth a0.Args 0).bind λx1=>(gj (Expr.mk x1.Op x1.N x1.Args) (w64 (a1-1))).bind λy2=>some y2) (some false):Option (Bool)).bind λb1 =>
(sel b1 ((nth a0.Args 1).bind λx2=>(gj (Expr.mk x2.Op x2.N x2.Args) (w64 (a1-1))).bind λy3=>some y3) (some false):Option (Bool)).bind λb2 =>
some b2
def m6:Nat->(Expr->Int->Option (Bool))
 | 0=>((λ_ _=>none))
 | k+1=>(gi k (m6 k))
def iP (k:Nat):Expr->Int->Option (Bool):=(m6 k)
def gk (k:Nat) (a0:Expr):Option (Bool):=
(iP k (Expr.mk a0.Op a0.N a0.Args) 5).bind λy1 =>
some y1
def cW (a0:Int) (a1:Int) (a2:Bool):Option (Bool):=
some ((a0==0)||((a2&&(decide (a0>0)))&&(decide (a0<a1))))
def iQ (k:Nat) (a0:ae) (a1:Int):Option (Bool):=
(sel (a0.Kind==1) (some (.inl (pL.mk true false true false false))) <|
sel (a0.Kind==2) (some (.inl (pL.mk false false true true true))) <|
sel (a0.Kind==3) (some (.inl (pL.mk false false true true false))) <|
sel (a0.Kind==4) (some (.inl (pL.mk false true true false false))) <|
sel (a0.Kind==5) (some (.inl (pL.mk true true false false false))) <|
sel (a0.Kind==7) (some (.inl (pL.mk false false true false false))) <|
sel (a0.Kind==6) (some (.inl (pL.mk false false false false false))) <|
some (.inr false):Option (pL⊕Bool)).bind λy1 =>
ia y1 (λo3=>(cW a0.Var 4 o3.variable_).bind λy2 =>
(sel (!y2) (some true) ((cW a0.Box a1 o3.box).bind λb_1=>some (!b_1))).bind λb1 =>
sel (b1||(o3.box&&(decide (a0.Box>=a1)))) (some false) <|
(sel o3.expr ((gk k (Expr.mk a0.Expr.Op a0.Expr.N a0.Expr.Args)).bind λy4=>some (!y4)) (some false):Option (Bool)).bind λb2 =>
sel (b2||((!o3.expr)&&(((a0.Expr.Op !=0)||(a0.Expr.N !=0))||(decide ((a0.Expr.Args.length:Int)>0))))) (some false) <|
some ((o3.body||((a0.Body.length:Int)==0))&&(o3.other||((a0.Else.length:Int)==0)))) (λo4 =>
some o4)
def gU (a0:List ae) (a1:Int) (a2:Int) (cD:List ae->Int->Int->Int->Option (Bool×Int)) (k:Nat) (s1:Int×Int):Option ((Int×Int)⊕((Bool×Int)⊕Int)):=
sel (decide (s1.1<(a0.length:Int))) (((nth a0 s1.1).bind λx1 =>
(iQ k (ae.mk x1.Kind x1.Var x1.Box (Expr.mk x1.Expr.Op x1.Expr.N x1.Expr.Args) x1.Body x1.Else) a1).bind λy5 =>
sel ((!y5)||(decide (a2>3))) (some (.inr (false,s1.2))) <|
sel ((x1.Kind !=2)&&(x1.Kind !=3)) (some (.inl s1.2)) <|
(sel (decide (a2>=3)) (some (true,s1.2)) ((cD x1.Body a1 (w64 (a2+1)) s1.2).bind λy6=>some (!y6.1,y6.2)):Option (Bool×Int)).bind λb1 =>
(sel b1.1 (some (true,b1.2)) ((cD x1.Else a1 (w64 (a2+1)) b1.2).bind λy7=>some (!y7.1,y7.2)):Option (Bool×Int)).bind λb2 =>
sel b2.1 (some (.inr (false,b2.2))) <|
some (.inl b2.2):Option (Int⊕(Bool×Int))).bind λy4 =>
ia y4 (λo5=>some (.inl (w64 (s1.1+1),o5))) (λo6 =>
some (.inr (.inl o6)))) <|
some (.inr (.inr s1.2))
def fi (k:Nat) (cD:List ae->Int->Int->Int->Option (Bool×Int)) (a0:List ae) (a1:Int) (a2:Int) (a3:Int):Option (Bool×Int):=
sel (decide ((w64 (a3+(a0.length:Int)))>16)) (some (false,w64 (a3+(a0.length:Int)))) <|
(aB (gU a0 a1 a2 cD k) (0,w64 (a3+(a0.length:Int)))).bind λy1 =>
ia y1 (λo7=>some o7) (λo8 =>
some (true,o8))
def mK:Nat->(List ae->Int->Int->Int->Option (Bool×Int))
 | 0=>((λ_ _ _ _=>none))
 | k+1=>(fi k (mK k))
def eW (k:Nat):List ae->Int->Int->Int->Option (Bool×Int):=(mK k)
def ic (k:Nat) (a0:List ae) (a1:Int):Option (Bool):=
(eW k a0 a1 0 0).bind λy1 =>
some y1.1
def gV (a0:List Int) (s1:Int):Option (Int⊕(Bool⊕Unit)):=
sel (decide (s1<(a0.length:Int))) ((nth a0 s1).bind λx1 =>
sel ((decide (x1<1))||(decide (x1>4))) (some (.inr (.inl false))) <|
some (.inl (w64 (s1+1)))) <|
some (.inr (.inr ()))
def ie (a0:List Int):Option (Bool):=
(aB (gV a0) 0).bind λy1 =>
ia y1 (λo3=>some o3) (λo4 =>
some (decide ((a0.length:Int)<=3)))
def fj (a0:aJ) (k:Nat) (s1:Int):Option (Int⊕(Bool⊕Unit)):=
sel (decide (s1<(a0.Tasks.length:Int))) ((nth a0.Tasks s1).bind λx1 =>
(ic k x1 (a0.Rooms.length:Int)).bind λy5 =>
sel (!y5) (some (.inr (.inl false))) <|
some (.inl (w64 (s1+1)))) <|
some (.inr (.inr ()))
def fk (k:Nat) (a0:aJ):Option (Bool):=
(ie a0.Rooms).bind λy1 =>
sel (((!y1)||(decide ((a0.Tasks.length:Int)<1)))||(decide ((a0.Tasks.length:Int)>3))) (some false) <|
(aB (fj a0 k) 0).bind λy2 =>
ia y2 (λo3=>some o3) (λo4 =>
some true)
def dN (a0:aJ) (k:Nat) (s1:(List (List ab))×Int):Option (((List (List ab))×Int)⊕((List (List ab)))):=
sel (decide (s1.2<(a0.Tasks.length:Int))) ((nth a0.Tasks s1.2).bind λx1 =>
(gh k x1).bind λy5 =>
(app 24 s1.1 [y5]).bind λr1 =>
some (.inl (r1,w64 (s1.2+1)))) <|
some (.inr s1.1)
def cL (k:Nat) (a0:aJ):Option ((List (List ab))×Bool):=
(fk k (aJ.mk a0.Rooms a0.Tasks)).bind λy1 =>
sel (!y1) (some ([],false)) <|
(aB (dN a0 k) ([],0)).bind λy2 =>
some (y2,true)
def lX (a0:Bool):Option (Int):=
sel a0 (some 1) <|
some 0
def ir (a0:Int):Option (Int):=
some (w64 (nG .i32 (a0)))
def iR (a0:Int) (a1:Int) (a2:Int):Option (Int):=
sel (a0==1) (some (bj .or .i64 a1 a2)) <|
sel (a0==2) (some (bj .xor .i64 a1 a2)) <|
sel (a0==3) (some (bj .and .i64 a1 a2)) <|
sel (a0==4) ((lX (a1==a2)).bind λy1 =>
some y1) <|
sel (a0==5) ((lX (decide (a1<a2))).bind λy2 =>
some y2) <|
sel (a0==6) ((shO .shl .i64 a1 (bj .and .i64 a2 31)).bind λd1 =>
(ir d1).bind λy3 =>
some y3) <|
sel (a0==7) ((shO .shr .i64 a1 (bj .and .i64 a2 31)).bind λd2 =>
some d2) <|
sel (a0==8) ((ir (w64 (a1+a2))).bind λy4 =>
some y4) <|
sel (a0==9) ((ir (w64 (a1-a2))).bind λy5 =>
some y5) <|
sel (a0==10) ((ir (w64 (a1*a2))).bind λy6 =>
some y6) <|
sel (a0==11) (sel (a2==0) (some (-1)) <|
(vL .i64 a1 a2).bind λd3 =>
(ir d3).bind λy7 =>
some y7) <|
sel (a2==0) (some a1) <|
(sh a1 a2).bind λd4 =>
some d4
def fp (a0:Ar ai) (a1:ab):Option ((Ar ai)):=
(dU a1).bind λy1 =>
sel (decide (y1<0)) (some a0) <|
(sel (a1.Op==1) (some (ai.mk 1 a1.N)) <|
sel (a1.Op==2) ((cn 12 a0 a1.A).bind λx1 =>
some x1) <|
sel (a1.Op==3) ((cn 12 a0 a1.A).bind λx2 =>
(sel (x2.Kind==1) ((cn 12 a0 a1.B).bind λx3=>some (x3.Kind==1)) (some false):Option (Bool)).bind λb1 =>
sel b1 ((cn 12 a0 a1.A).bind λx4 =>
(cn 12 a0 a1.B).bind λx5 =>
(iR a1.N x4.N x5.N).bind λy3 =>
some (ai.mk 1 y3)) <|
some (ai.mk 2 0)) <|
some (ai.mk 2 0):Option (ai)).bind λy2 =>
(cn 12 a0 y1).bind λx6 =>
some (mn a0 y1 y2)
def kX (a0:ab) (a1:Int) (a2:Ar ai):Option ((List Int)):=
(sel (a0.Op==5) ((cn 12 a2 a0.A).bind λx1=>some (x1.Kind==1)) (some false):Option (Bool)).bind λb1 =>
sel b1 ((cn 12 a2 a0.A).bind λx2 =>
sel (x2.N==0) (some [a0.N]) <|
some [w64 (a1+1)]) <|
(gP a0 a1).bind λy1 =>
some y1
def iU (a0:ai) (a1:ai):Option (ai):=
sel ((a0.Kind==0)||((a0.Kind==a1.Kind)&&((a0.N==a1.N)&&true))) (some a1) <|
sel (a1.Kind==0) (some a0) <|
some (ai.mk 2 0)
def jV (s1:Int×(List (Ar ai))):Option ((Int×(List (Ar ai)))⊕((List (Ar ai)))):=
sel (decide (s1.1<12)) ((nth s1.2 0).bind λx1 =>
(cn 12 x1 s1.1).bind λx2 =>
(upd s1.2 0 (mn x1 s1.1 (ai.mk 1 0))).bind λr2 =>
some (.inl (w64 (s1.1+1),r2))) <|
some (.inr s1.2)
def fq (y7:(Ar ai)) (s4:Int×(Ar ai)):Option ((Int×(Ar ai))⊕((Ar ai))):=
sel (decide (s4.1<12)) ((cn 12 s4.2 s4.1).bind λx10 =>
(cn 12 y7 s4.1).bind λx11 =>
(iU x10 x11).bind λy16 =>
(cn 12 s4.2 s4.1).bind λx12 =>
some (.inl (w64 (s4.1+1),(mn s4.2 s4.1 y16)))) <|
some (.inr s4.2)
def fr (y7:(Ar ai)) (y8:(List Int)) (s3:(List Int)×Int×(List (Ar ai))):Option (((List Int)×Int×(List (Ar ai)))⊕((List Int)×(List (Ar ai)))):=
sel (decide (s3.2.1<(y8.length:Int))) (((nth y8 s3.2.1).bind λx8 =>
(nth s3.2.2 x8).bind λx9 =>
(aB (fq y7) (0,x9)).bind λy13 =>
(nth s3.2.2 x8).bind λx13 =>
sel (!(aeq 12 (λx y:ai=>(x.Kind==y.Kind&&(x.N==y.N&&true))) y13 x13)) ((nth s3.2.2 x8).bind λx14 =>
(upd s3.2.2 x8 y13).bind λr4 =>
(app 8 s3.1 [x8]).bind λr5 =>
some (r5,r4)) <|
some (s3.1,s3.2.2):Option ((List Int)×(List (Ar ai)))).bind λy12 =>
some (.inl (y12.1,w64 (s3.2.1+1),y12.2))) <|
some (.inr (s3.1,s3.2.2))
def iV (a0:List ab) (s2:(List Int)×(List (Ar ai))):Option (((List Int)×(List (Ar ai)))⊕((List (Ar ai)))):=
sel (decide ((s2.1.length:Int)>0)) ((nth s2.1 (w64 ((s2.1.length:Int)-1))).bind λx3 =>
(cut s2.1 0 (w64 ((s2.1.length:Int)-1))).bind λr3 =>
(nth s2.2 x3).bind λx4 =>
(nth a0 x3).bind λx5 =>
(fp x4 x5).bind λy7 =>
(nth a0 x3).bind λx6 =>
(nth s2.2 x3).bind λx7 =>
(kX x6 x3 x7).bind λy8 =>
(aB (fr y7 y8) (r3,0,s2.2)).bind λy9 =>
some (.inl (y9.1,y9.2))) <|
some (.inr s2.2)
def d9 (a0:List ab):Option ((List (Ar ai))):=
(mk 192 (a0.length:Int) (λ_=>(ai.mk 0 0))).bind λr1 =>
(aB (jV) (0,r1)).bind λy1 =>
(aB (iV a0) ([0],y1)).bind λy4 =>
some y4
def bM (a0:ai) (a1:Int):Option (Bool):=
some ((a0.Kind==1)&&(a0.N==a1))
def cF (a0:Int) (a1:ab):Option (ab):=
some (ab.mk 2 a1.Dst a0 0 0)
def kY (a0:ab) (a1:ai) (a2:ai):Option (ab):=
sel ((a1.Kind==1)&&(a2.Kind==1)) ((iR a0.N a1.N a2.N).bind λy1 =>
some (ab.mk 1 a0.Dst 0 0 y1)) <|
((sel (a0.N==1) (some (a0.N==1)) <|
sel (a0.N==2) (some (a0.N==2)) <|
some (a0.N==8):Option (Bool)).bind λy3 =>
sel y3 ((bM a2 0).bind λy4 =>
sel y4 ((cF a0.A a0).bind λy5 =>
some (.inr y5)) <|
(bM a1 0).bind λy6 =>
sel y6 ((cF a0.B a0).bind λy7 =>
some (.inr y7)) <|
some (.inl ())) <|
(sel (a0.N==6) (some (a0.N==6)) <|
sel (a0.N==7) (some (a0.N==7)) <|
some (a0.N==9):Option (Bool)).bind λy8 =>
sel y8 ((bM a2 0).bind λy9 =>
sel y9 ((cF a0.A a0).bind λy10 =>
some (.inr y10)) <|
some (.inl ())) <|
sel (a0.N==10) ((bM a2 1).bind λy11 =>
sel y11 ((cF a0.A a0).bind λy12 =>
some (.inr y12)) <|
(bM a1 1).bind λy13 =>
sel y13 ((cF a0.B a0).bind λy14 =>
some (.inr y14)) <|
some (.inl ())) <|
sel (a0.N==11) ((bM a2 1).bind λy15 =>
sel y15 ((cF a0.A a0).bind λy16 =>
some (.inr y16)) <|
some (.inl ())) <|
some (.inl ()):Option (Unit⊕ab)).bind λy2 =>
ia y2 (λo3=>(sel ((a0.N==3)||(a0.N==10)) ((bM a1 0).bind λy17=>(sel y17 (some true) ((bM a2 0).bind λy18=>some y18):Option (Bool)).bind λb2=>some b2) (some false):Option (Bool)).bind λb1 =>
sel b1 (some (ab.mk 1 a0.Dst 0 0 0)) <|
some a0) (λo4 =>
some o4)
def jY (a0:ab) (a1:Int) (a2:Ar ai):Option (ab):=
(sel (a0.Op==2) ((cn 12 a2 a0.A).bind λx1=>some (x1.Kind==1)) (some false):Option (Bool)).bind λb1 =>
sel b1 ((cn 12 a2 a0.A).bind λx2 =>
some (ab.mk 1 a0.Dst 0 0 x2.N)) <|
sel (a0.Op==3) ((cn 12 a2 a0.A).bind λx3 =>
(cn 12 a2 a0.B).bind λx4 =>
(kY a0 x3 x4).bind λy1 =>
some y1) <|
(sel (a0.Op==5) ((cn 12 a2 a0.A).bind λx5=>(bM x5 0).bind λy2=>some y2) (some false):Option (Bool)).bind λb2 =>
sel b2 (some (ab.mk 4 0 0 0 a0.N)) <|
(sel (a0.Op==5) ((cn 12 a2 a0.A).bind λx6=>some (x6.Kind==1)) (some false):Option (Bool)).bind λb3 =>
sel b3 (some (ab.mk 4 0 0 0 (w64 (a1+1)))) <|
some a0
def gm (a0:List ab) (y3:(List (Ar ai))) (s1:Int×(List ab)):Option ((Int×(List ab))⊕((List ab))):=
sel (decide (s1.1<(y3.length:Int))) (((nth y3 s1.1).bind λx1 =>
(cn 12 x1 0).bind λx2 =>
sel (x2.Kind !=0) ((nth a0 s1.1).bind λx3 =>
(jY x3 s1.1 x1).bind λy8 =>
(nth s1.2 s1.1).bind λx4 =>
(upd s1.2 s1.1 y8).bind λr1 =>
some r1) <|
some s1.2:Option ((List ab))).bind λy7 =>
some (.inl (w64 (s1.1+1),y7))) <|
some (.inr s1.2)
def jZ (a0:List ab):Option ((List ab)×Bool):=
(ba a0).bind λy1 =>
sel (!y1) (some ([],false)) <|
(aA a0).bind λy2 =>
(d9 a0).bind λy3 =>
(aB (gm a0 y3) (0,y2)).bind λy4 =>
some (y4,true)
def lY (s1:Int×(Ar Int)):Option ((Int×(Ar Int))⊕((Ar Int))):=
sel (decide (s1.1<12)) ((cn 12 s1.2 s1.1).bind λx1 =>
some (.inl (w64 (s1.1+1),(mn s1.2 s1.1 s1.1)))) <|
some (.inr s1.2)
def j1:Option ((Ar Int)):=
(aB (lY) (0,(λ_=>0))).bind λy1 =>
some y1
def iy (y1:Int) (s1:Int×(Ar Int)):Option ((Int×(Ar Int))⊕((Ar Int))):=
sel (decide (s1.1<12)) (((sel (s1.1==y1) (some true) ((cn 12 s1.2 s1.1).bind λx1=>some (x1==y1)):Option (Bool)).bind λb1 =>
sel b1 ((cn 12 s1.2 s1.1).bind λx2 =>
some (mn s1.2 s1.1 s1.1)) <|
some s1.2:Option ((Ar Int))).bind λy5 =>
some (.inl (w64 (s1.1+1),y5))) <|
some (.inr s1.2)
def eH (a0:Ar Int) (a1:ab):Option ((Ar Int)):=
(dU a1).bind λy1 =>
sel (decide (y1<0)) (some a0) <|
(aB (iy y1) (0,a0)).bind λy2 =>
sel (a1.Op==2) ((cn 12 y2 y1).bind λx3 =>
some (mn y2 y1 a1.A)) <|
some y2
def jW (a1:Ar Int) (s1:Int×(Ar Int)):Option ((Int×(Ar Int))⊕((Ar Int))):=
sel (decide (s1.1<12)) (((cn 12 s1.2 s1.1).bind λx1 =>
(cn 12 a1 s1.1).bind λx2 =>
sel (x1 !=x2) ((cn 12 s1.2 s1.1).bind λx3 =>
some (mn s1.2 s1.1 s1.1)) <|
some s1.2:Option ((Ar Int))).bind λy4 =>
some (.inl (w64 (s1.1+1),y4))) <|
some (.inr s1.2)
def gn (a0:Ar Int) (a1:Ar Int):Option ((Ar Int)):=
(aB (jW a1) (0,a0)).bind λy1 =>
some y1
def iW (r1:List (Ar Int)) (s1:Int×(List (Ar Int))):Option ((Int×(List (Ar Int)))⊕((List (Ar Int)))):=
sel (decide (s1.1<(r1.length:Int))) ((j1).bind λy4 =>
(nth s1.2 s1.1).bind λx1 =>
(upd s1.2 s1.1 y4).bind λr3 =>
some (.inl (w64 (s1.1+1),r3))) <|
some (.inr s1.2)
def ft (y8:(Ar Int)) (y9:(List Int)) (s3:(List Int)×Int×(List Bool)×(List (Ar Int))):Option (((List Int)×Int×(List Bool)×(List (Ar Int)))⊕((List Int)×(List Bool)×(List (Ar Int)))):=
sel (decide (s3.2.1<(y9.length:Int))) (((nth y9 s3.2.1).bind λx7 =>
((nth s3.2.2.1 x7).bind λx8 =>
sel x8 ((nth s3.2.2.2 x7).bind λx9 =>
(gn x9 y8).bind λy15 =>
some y15) <|
some y8:Option ((Ar Int))).bind λy14 =>
(nth s3.2.2.1 x7).bind λx10 =>
(sel (!x10) (some true) ((nth s3.2.2.2 x7).bind λb_1=>some (!(aeq 12 (λ(x y:Int)=>x==y) y14 b_1)))).bind λb1 =>
sel b1 ((nth s3.2.2.1 x7).bind λx12 =>
(upd s3.2.2.1 x7 true).bind λr6 =>
(nth s3.2.2.2 x7).bind λx13 =>
(upd s3.2.2.2 x7 y14).bind λr7 =>
(app 8 s3.1 [x7]).bind λr8 =>
some (r8,r6,r7)) <|
some (s3.1,s3.2.2.1,s3.2.2.2):Option ((List Int)×(List Bool)×(List (Ar Int)))).bind λy13 =>
some (.inl (y13.1,w64 (s3.2.1+1),y13.2.1,y13.2.2))) <|
some (.inr (s3.1,s3.2.2.1,s3.2.2.2))
def iX (a0:List ab) (s2:(List Int)×(List Bool)×(List (Ar Int))):Option (((List Int)×(List Bool)×(List (Ar Int)))⊕((List Bool)×(List (Ar Int)))):=
sel (decide ((s2.1.length:Int)>0)) ((nth s2.1 (w64 ((s2.1.length:Int)-1))).bind λx3 =>
(cut s2.1 0 (w64 ((s2.1.length:Int)-1))).bind λr5 =>
(nth s2.2.2 x3).bind λx4 =>
(nth a0 x3).bind λx5 =>
(eH x4 x5).bind λy8 =>
(nth a0 x3).bind λx6 =>
(gP x6 x3).bind λy9 =>
(aB (ft y8 y9) (r5,0,s2.2.1,s2.2.2)).bind λy10 =>
some (.inl (y10.1,y10.2.1,y10.2.2))) <|
some (.inr (s2.2.1,s2.2.2))
def dy (a0:List ab):Option ((List (Ar Int))):=
(mk 96 (a0.length:Int) (λ_=>0)).bind λr1 =>
(mk 1 (a0.length:Int) false).bind λr2 =>
(aB (iW r1) (0,r1)).bind λy1 =>
(nth r2 0).bind λx2 =>
(upd r2 0 true).bind λr4 =>
(aB (iX a0) ([0],r4,y1)).bind λy5 =>
some y5.2
def gp (a0:List ab) (y3:(List (Ar Int))) (s1:Int×(List ab)):Option ((Int×(List ab))⊕((List ab))):=
sel (decide (s1.1<(y3.length:Int))) (((nth y3 s1.1).bind λx1 =>
(nth a0 s1.1).bind λx2 =>
(iM x2).bind λy8 =>
(sel (y8 !=0) ((nth a0 s1.1).bind λx3 =>
(cn 12 x1 x3.A).bind λx4 =>
(nth s1.2 s1.1).bind λx5 =>
(upd s1.2 s1.1 (ab.mk x5.Op x5.Dst x4 x5.B x5.N)).bind λr1 =>
some r1) <|
some s1.2:Option ((List ab))).bind λy9 =>
(nth a0 s1.1).bind λx6 =>
sel (x6.Op==3) ((nth a0 s1.1).bind λx7 =>
(cn 12 x1 x7.B).bind λx8 =>
(nth y9 s1.1).bind λx9 =>
(upd y9 s1.1 (ab.mk x9.Op x9.Dst x9.A x8 x9.N)).bind λr2 =>
some r2) <|
some y9:Option ((List ab))).bind λy7 =>
some (.inl (w64 (s1.1+1),y7))) <|
some (.inr s1.2)
def j2 (a0:List ab):Option ((List ab)×Bool):=
(ba a0).bind λy1 =>
sel (!y1) (some ([],false)) <|
(aA a0).bind λy2 =>
(dy a0).bind λy3 =>
(aB (gp a0 y3) (0,y2)).bind λy4 =>
some (y4,true)
def dl (a0:ab):Option (Bool):=
some ((a0.Op==4)||(a0.Op==5))
def m7 (a0:List ab) (s1:Int×Int):Option ((Int×Int)⊕(Int⊕Unit)):=
sel (decide (s1.2<(a0.length:Int))) ((nth a0 s1.1).bind λx1 =>
sel (x1.Op !=4) (some (.inr (.inl s1.1))) <|
(nth a0 s1.1).bind λx2 =>
some (.inl (x2.N,w64 (s1.2+1)))) <|
some (.inr (.inr ()))
def kw (a0:List ab) (a1:Int):Option (Int):=
(aB (m7 a0) (a1,0)).bind λy1 =>
ia y1 (λo3=>some o3) (λo4 =>
some a1)
def gq (a0:List ab) (s1:Int×(List ab)):Option ((Int×(List ab))⊕((List ab))):=
sel (decide (s1.1<(a0.length:Int))) (((nth a0 s1.1).bind λx1 =>
(dl x1).bind λy7 =>
sel y7 ((kw a0 x1.N).bind λy8 =>
(nth s1.2 s1.1).bind λx2 =>
(upd s1.2 s1.1 (ab.mk x2.Op x2.Dst x2.A x2.B y8)).bind λr1 =>
some r1) <|
some s1.2:Option ((List ab))).bind λy6 =>
some (.inl (w64 (s1.1+1),y6))) <|
some (.inr s1.2)
def j3 (a0:List ab):Option ((List ab)×Bool):=
(ba a0).bind λy1 =>
sel (!y1) (some ([],false)) <|
(aA a0).bind λy2 =>
(aB (gq a0) (0,y2)).bind λy3 =>
some (y3,true)
def iA (a0:List ab) (y1:(List Int)) (s1:(List Int)×Int):Option (((List Int)×Int)⊕((List Int))):=
sel (decide (s1.2<(a0.length:Int))) (((nth a0 s1.2).bind λx1 =>
(dU x1).bind λy6 =>
(sel ((decide (y6>=0))&&(x1.Op !=7)) ((dC a0 y1 s1.2).bind λy7=>(cQ y7 y6).bind λy8=>some (!y8)) (some false):Option (Bool)).bind λb1 =>
sel b1 ((app 8 s1.1 [s1.2]).bind λr1 =>
some r1) <|
some s1.1:Option ((List Int))).bind λy5 =>
some (.inl (y5,w64 (s1.2+1)))) <|
some (.inr s1.1)
def kZ (a0:List ab):Option ((List Int)):=
(dD a0).bind λy1 =>
(aB (iA a0 y1) ([],0)).bind λy2 =>
some y2
def jw (y3:(List Int)) (s1:Int×(List ab)):Option ((Int×(List ab))⊕((List ab))):=
sel (decide (s1.1<(y3.length:Int))) ((nth y3 s1.1).bind λx1 =>
(nth s1.2 x1).bind λx2 =>
(upd s1.2 x1 (ab.mk 4 0 0 0 (w64 (x1+1)))).bind λr1 =>
some (.inl (w64 (s1.1+1),r1))) <|
some (.inr s1.2)
def j4 (a0:List ab):Option ((List ab)×Bool):=
(ba a0).bind λy1 =>
sel (!y1) (some ([],false)) <|
(aA a0).bind λy2 =>
(kZ a0).bind λy3 =>
(aB (jw y3) (0,y2)).bind λy4 =>
some (y4,true)
def k8 (y5:(List Int)) (s2:(List Int)×Int×(List Bool)):Option (((List Int)×Int×(List Bool))⊕((List Int)×(List Bool))):=
sel (decide (s2.2.1<(y5.length:Int))) (((nth y5 s2.2.1).bind λx4 =>
(nth s2.2.2 x4).bind λx5 =>
sel (!x5) ((nth s2.2.2 x4).bind λx6 =>
(upd s2.2.2 x4 true).bind λr4 =>
(app 8 s2.1 [x4]).bind λr5 =>
some (r5,r4)) <|
some (s2.1,s2.2.2):Option ((List Int)×(List Bool))).bind λy9 =>
some (.inl (y9.1,w64 (s2.2.1+1),y9.2))) <|
some (.inr (s2.1,s2.2.2))
def k9 (a0:List ab) (s1:(List Int)×(List Bool)):Option (((List Int)×(List Bool))⊕((List Bool))):=
sel (decide ((s1.1.length:Int)>0)) ((nth s1.1 (w64 ((s1.1.length:Int)-1))).bind λx2 =>
(cut s1.1 0 (w64 ((s1.1.length:Int)-1))).bind λr3 =>
(nth a0 x2).bind λx3 =>
(gP x3 x2).bind λy5 =>
(aB (k8 y5) (r3,0,s1.2)).bind λy6 =>
some (.inl (y6.1,y6.2))) <|
some (.inr s1.2)
def gr (a0:List ab):Option ((List Bool)):=
(ba a0).bind λy1 =>
sel (!y1) (some []) <|
(mk 1 (a0.length:Int) false).bind λr1 =>
(nth r1 0).bind λx1 =>
(upd r1 0 true).bind λr2 =>
(aB (k9 a0) ([0],r2)).bind λy2 =>
some y2
def iY (a0:ab) (a1:Int):Option (Bool):=
(dl a0).bind λy1 =>
some ((!(y1&&(a0.N==(w64 (a1+1)))))&&(!((a0.Op==2)&&(a0.Dst==a0.A))))
def gb (a0:List ab) (y2:(List Bool)) (s1:(List ab)×Int×(List Int)):Option (((List ab)×Int×(List Int))⊕((List ab)×(List Int))):=
sel (decide (s1.2.1<(y2.length:Int))) (((nth y2 s1.2.1).bind λx1 =>
(nth s1.2.2 s1.2.1).bind λx2 =>
(upd s1.2.2 s1.2.1 (s1.1.length:Int)).bind λr2 =>
(sel x1 ((nth a0 s1.2.1).bind λx3=>(iY x3 s1.2.1).bind λy7=>some y7) (some false):Option (Bool)).bind λb1 =>
sel b1 ((nth a0 s1.2.1).bind λx4 =>
(app 40 s1.1 [x4]).bind λr3 =>
some (r3,r2)) <|
some (s1.1,r2):Option ((List ab)×(List Int))).bind λy6 =>
some (.inl (y6.1,w64 (s1.2.1+1),y6.2))) <|
some (.inr (s1.1,s1.2.2))
def dJ (y3:(List ab)×(List Int)) (s2:Int×(List ab)):Option ((Int×(List ab))⊕((List ab))):=
sel (decide (s2.1<(y3.1.length:Int))) (((nth s2.2 s2.1).bind λx5 =>
(dl x5).bind λy12 =>
sel y12 ((nth y3.2 x5.N).bind λx6 =>
(nth s2.2 s2.1).bind λx7 =>
(upd s2.2 s2.1 (ab.mk x7.Op x7.Dst x7.A x7.B x6)).bind λr4 =>
some r4) <|
some s2.2:Option ((List ab))).bind λy11 =>
some (.inl (w64 (s2.1+1),y11))) <|
some (.inr s2.2)
def gu (a0:List ab):Option ((List ab)×Bool):=
(ba a0).bind λy1 =>
sel (!y1) (some ([],false)) <|
(mk 8 (a0.length:Int) 0).bind λr1 =>
(gr a0).bind λy2 =>
(aB (gb a0 y2) ([],0,r1)).bind λy3 =>
(aB (dJ y3) (0,y3.1)).bind λy8 =>
some (y8,true)
def bu (a1:Int) (s1:(List ab)×Int):Option (((List ab)×Int)⊕(((List ab)×Bool)⊕((List ab)))):=
sel (decide (s1.2<a1)) ((jZ s1.1).bind λy6 =>
sel (!y6.2) (some (.inr (.inl ([],false)))) <|
(j2 y6.1).bind λy7 =>
sel (!y7.2) (some (.inr (.inl ([],false)))) <|
(j3 y7.1).bind λy8 =>
sel (!y8.2) (some (.inr (.inl ([],false)))) <|
(j4 y8.1).bind λy9 =>
sel (!y9.2) (some (.inr (.inl ([],false)))) <|
(gu y9.1).bind λy10 =>
sel (!y10.2) (some (.inr (.inl ([],false)))) <|
some (.inl (y10.1,w64 (s1.2+1)))) <|
some (.inr (.inr s1.1))
def bI (a0:List ab) (a1:Int):Option ((List ab)×Bool):=
(ba a0).bind λy1 =>
sel (((!y1)||(decide (a1<0)))||(decide (a1>4))) (some ([],false)) <|
(aA a0).bind λy2 =>
(aB (bu a1) (y2,0)).bind λy3 =>
ia y3 (λo3=>some o3) (λo4 =>
some (o4,true))
def cM (a0:List (List ab)) (a1:Int) (s1:(List (List ab))×Int):Option (((List (List ab))×Int)⊕(((List (List ab))×Bool)⊕((List (List ab))))):=
sel (decide (s1.2<(a0.length:Int))) ((nth a0 s1.2).bind λx1 =>
(bI x1 a1).bind λy4 =>
sel (!y4.2) (some (.inr (.inl ([],false)))) <|
(app 24 s1.1 [y4.1]).bind λr1 =>
some (.inl (r1,w64 (s1.2+1)))) <|
some (.inr (.inr s1.1))
def cX (a0:List (List ab)) (a1:Int):Option ((List (List ab))×Bool):=
sel ((decide ((a0.length:Int)<1))||(decide ((a0.length:Int)>3))) (some ([],false)) <|
(aB (cM a0 a1) ([],0)).bind λy1 =>
ia y1 (λo3=>some o3) (λo4 =>
some (o4,true))
def kN (y2:(List (List ab))×Bool) (s1:Int×(List (List ab))):Option ((Int×(List (List ab)))⊕(((List (List ab))×Bool)⊕((List (List ab))))):=
sel (decide (s1.1<(y2.1.length:Int))) ((nth s1.2 s1.1).bind λx1 =>
(eE x1).bind λy6 =>
sel (!y6.2) (some (.inr (.inl ([],false)))) <|
some (.inl (w64 (s1.1+1),(s1.2.set (Int.toNat s1.1) y6.1)))) <|
some (.inr (.inr s1.2))
def cR (k:Nat) (a0:aJ) (a1:Int):Option ((List (List ab))×Bool):=
(cL k (aJ.mk a0.Rooms a0.Tasks)).bind λy1 =>
sel (!y1.2) (some ([],false)) <|
(cX y1.1 a1).bind λy2 =>
sel (!y2.2) (some ([],false)) <|
(aB (kN y2) (0,y2.1)).bind λy3 =>
ia y3 (λo3=>some o3) (λo4 =>
some (o4,true))
def bh (a0:Int) (a1:Int) (a2:Int):Option (Bool):=
some ((decide (a0>=a1))&&(decide (a0<=a2)))
def jx (a0:List Int) (s1:Int):Option (Int⊕(Bool⊕Unit)):=
sel (decide (s1<(a0.length:Int))) ((nth a0 s1).bind λx1 =>
(bh x1 1 4).bind λy4 =>
sel (!y4) (some (.inr (.inl false))) <|
some (.inl (w64 (s1+1)))) <|
some (.inr (.inr ()))
def j5 (a0:List Int):Option (Bool):=
(aB (jx a0) 0).bind λy1 =>
ia y1 (λo3=>some o3) (λo4 =>
some (decide ((a0.length:Int)<=3)))
def dV (a0:ae) (a1:Bool):Option (Bool):=
sel a1 ((bh a0.Var 0 3).bind λy1 =>
some y1) <|
some (a0.Var==0)
def dW (a0:ae) (a1:Bool):Option (Bool):=
sel a1 ((bh a0.Box 0 2).bind λy1 =>
some y1) <|
some (a0.Box==0)
def dP (a0:Int):Option (Bool):=
(bh a0 1 12).bind λy1 =>
some y1
def fu (k:Nat) (mp:Expr->Int->Option (Bool)) (a0:Expr) (a1:Int):Option (Bool):=
sel (decide (a1<1)) (some false) <|
sel (a0.Op==0) ((bh a0.N 0 99999).bind λy1 =>
some (y1&&((a0.Args.length:Int)==0))) <|
sel (a0.Op==13) ((bh a0.N 0 3).bind λy2 =>
some (y2&&((a0.Args.length:Int)==0))) <|
(dP a0.Op).bind λy3 =>
(sel ((y3&&(a0.N==0))&&((a0.Args.length:Int)==2)) ((nth a0.Args 0).bind λx1=>(mp (Expr.mk x1.Op x1.N x1.Args) (w64 (a1-1))).bind λy4=>some y4) (some false):Option (Bool)).bind λb1 =>
(sel b1 ((nth a0.Args 1).bind λx2=>(mp (Expr.mk x2.Op x2.N x2.Args) (w64 (a1-1))).bind λy5=>some y5) (some false):Option (Bool)).bind λb2 =>
some b2
def qj:Nat->(Expr->Int->Option (Bool))
 | 0=>((λ_ _=>none))
 | k+1=>(fu k (qj k))
def kQ (k:Nat):Expr->Int->Option (Bool):=(qj k)
def bK (k:Nat) (a0:Expr):Option (Bool):=
(kQ k (Expr.mk a0.Op a0.N a0.Args) 5).bind λy1 =>
some y1
def fJ (a0:Expr):Option (Bool):=
some (((a0.Op==0)&&(a0.N==0))&&((a0.Args.length:Int)==0))
def dm (k:Nat) (a0:ae):Option (Bool):=
sel ((decide ((a0.Body.length:Int)>0))||(decide ((a0.Else.length:Int)>0))) (some false) <|
sel (a0.Kind==1) ((dV (ae.mk a0.Kind a0.Var a0.Box (Expr.mk a0.Expr.Op a0.Expr.N a0.Expr.Args) a0.Body a0.Else) true).bind λy1 =>
(sel y1 ((dW (ae.mk a0.Kind a0.Var a0.Box (Expr.mk a0.Expr.Op a0.Expr.N a0.Expr.Args) a0.Body a0.Else) false).bind λy2=>some y2) (some false):Option (Bool)).bind λb1 =>
(sel b1 ((bK k (Expr.mk a0.Expr.Op a0.Expr.N a0.Expr.Args)).bind λy3=>some y3) (some false):Option (Bool)).bind λb2 =>
some b2) <|
sel (a0.Kind==4) ((dV (ae.mk a0.Kind a0.Var a0.Box (Expr.mk a0.Expr.Op a0.Expr.N a0.Expr.Args) a0.Body a0.Else) false).bind λy4 =>
(sel y4 ((dW (ae.mk a0.Kind a0.Var a0.Box (Expr.mk a0.Expr.Op a0.Expr.N a0.Expr.Args) a0.Body a0.Else) true).bind λy5=>some y5) (some false):Option (Bool)).bind λb3 =>
(sel b3 ((bK k (Expr.mk a0.Expr.Op a0.Expr.N a0.Expr.Args)).bind λy6=>some y6) (some false):Option (Bool)).bind λb4 =>
some b4) <|
sel (a0.Kind==5) ((dV (ae.mk a0.Kind a0.Var a0.Box (Expr.mk a0.Expr.Op a0.Expr.N a0.Expr.Args) a0.Body a0.Else) true).bind λy7 =>
(sel y7 ((dW (ae.mk a0.Kind a0.Var a0.Box (Expr.mk a0.Expr.Op a0.Expr.N a0.Expr.Args) a0.Body a0.Else) true).bind λy8=>some y8) (some false):Option (Bool)).bind λb5 =>
(sel b5 ((fJ (Expr.mk a0.Expr.Op a0.Expr.N a0.Expr.Args)).bind λy9=>some y9) (some false):Option (Bool)).bind λb6 =>
some b6) <|
sel (a0.Kind==6) ((dV (ae.mk a0.Kind a0.Var a0.Box (Expr.mk a0.Expr.Op a0.Expr.N a0.Expr.Args) a0.Body a0.Else) false).bind λy10 =>
(sel y10 ((dW (ae.mk a0.Kind a0.Var a0.Box (Expr.mk a0.Expr.Op a0.Expr.N a0.Expr.Args) a0.Body a0.Else) false).bind λy11=>some y11) (some false):Option (Bool)).bind λb7 =>
(sel b7 ((fJ (Expr.mk a0.Expr.Op a0.Expr.N a0.Expr.Args)).bind λy12=>some y12) (some false):Option (Bool)).bind λb8 =>
some b8) <|
sel (a0.Kind==7) ((dV (ae.mk a0.Kind a0.Var a0.Box (Expr.mk a0.Expr.Op a0.Expr.N a0.Expr.Args) a0.Body a0.Else) false).bind λy13 =>
(sel y13 ((dW (ae.mk a0.Kind a0.Var a0.Box (Expr.mk a0.Expr.Op a0.Expr.N a0.Expr.Args) a0.Body a0.Else) false).bind λy14=>some y14) (some false):Option (Bool)).bind λb9 =>
(sel b9 ((bK k (Expr.mk a0.Expr.Op a0.Expr.N a0.Expr.Args)).bind λy15=>some y15) (some false):Option (Bool)).bind λb10 =>
some b10) <|
some false
def iB (a0:List ae) (a1:Int) (dg:ae->Int->Option (Bool)) (s1:Int):Option (Int⊕(Bool⊕Unit)):=
sel (decide (s1<(a0.length:Int))) ((nth a0 s1).bind λx1 =>
(dg (ae.mk x1.Kind x1.Var x1.Box (Expr.mk x1.Expr.Op x1.Expr.N x1.Expr.Args) x1.Body x1.Else) a1).bind λy4 =>
sel (!y4) (some (.inr (.inl false))) <|
some (.inl (w64 (s1+1)))) <|
some (.inr (.inr ()))
def cY (k:Nat) (bN:List ae->Int->Option (Bool)) (dg:ae->Int->Option (Bool)) (a0:List ae) (a1:Int):Option (Bool):=
(aB (iB a0 a1 dg) 0).bind λy1 =>
ia y1 (λo3=>some o3) (λo4 =>
some true)
def gW (k:Nat) (bN:List ae->Int->Option (Bool)) (dg:ae->Int->Option (Bool)) (a0:ae) (a1:Int):Option (Bool):=
sel ((a0.Kind !=2)&&(a0.Kind !=3)) ((dm k (ae.mk a0.Kind a0.Var a0.Box (Expr.mk a0.Expr.Op a0.Expr.N a0.Expr.Args) a0.Body a0.Else)).bind λy1 =>
some y1) <|
sel ((decide (a1<1))||((a0.Kind==3)&&(decide ((a0.Else.length:Int)>0)))) (some false) <|
(dV (ae.mk a0.Kind a0.Var a0.Box (Expr.mk a0.Expr.Op a0.Expr.N a0.Expr.Args) a0.Body a0.Else) false).bind λy2 =>
(sel y2 ((dW (ae.mk a0.Kind a0.Var a0.Box (Expr.mk a0.Expr.Op a0.Expr.N a0.Expr.Args) a0.Body a0.Else) false).bind λy3=>some y3) (some false):Option (Bool)).bind λb1 =>
(sel b1 ((bK k (Expr.mk a0.Expr.Op a0.Expr.N a0.Expr.Args)).bind λy4=>some y4) (some false):Option (Bool)).bind λb2 =>
(sel b2 ((bN a0.Body (w64 (a1-1))).bind λy5=>some y5) (some false):Option (Bool)).bind λb3 =>
(sel b3 ((bN a0.Else (w64 (a1-1))).bind λy6=>some y6) (some false):Option (Bool)).bind λb4 =>
some b4
def cZ:Nat->(List ae->Int->Option (Bool))×(ae->Int->Option (Bool))
 | 0=>((λ_ _=>none),(λ_ _=>none))
 | k+1=>(cY k (cZ k).1 (cZ k).2,gW k (cZ k).1 (cZ k).2)
def br (k:Nat):List ae->Int->Option (Bool):=(cZ k).1
def m8 (k:Nat):ae->Int->Option (Bool):=(cZ k).2
def cd (k:Nat) (a0:List ae):Option (Bool):=
(br k a0 3).bind λy1 =>
(sel y1 ((bW k a0).bind λy2=>some (decide (y2<=16))) (some false):Option (Bool)).bind λb1 =>
some b1
def lZ (a0:List ae) (a1:Int) (dE:List ae->Int->Option (Bool)) (s1:Int):Option (Int⊕(Bool⊕Unit)):=
sel (decide (s1<(a0.length:Int))) ((nth a0 s1).bind λx1 =>
sel (((x1.Kind==4)||(x1.Kind==5))&&(decide (x1.Box>=a1))) (some (.inr (.inl false))) <|
(dE x1.Body a1).bind λy4 =>
(sel (!y4) (some true) ((dE x1.Else a1).bind λy5=>some (!y5)):Option (Bool)).bind λb1 =>
sel b1 (some (.inr (.inl false))) <|
some (.inl (w64 (s1+1)))) <|
some (.inr (.inr ()))
def dF (k:Nat) (dE:List ae->Int->Option (Bool)) (a0:List ae) (a1:Int):Option (Bool):=
(aB (lZ a0 a1 dE) 0).bind λy1 =>
ia y1 (λo3=>some o3) (λo4 =>
some true)
def nu:Nat->(List ae->Int->Option (Bool))
 | 0=>((λ_ _=>none))
 | k+1=>(dF k (nu k))
def dX (k:Nat):List ae->Int->Option (Bool):=(nu k)
def fv (a0:aJ) (k:Nat) (s1:Int):Option (Int⊕(Bool⊕Unit)):=
sel (decide (s1<(a0.Tasks.length:Int))) ((nth a0.Tasks s1).bind λx1 =>
(cd k x1).bind λy6 =>
(sel (!y6) (some true) ((nth a0.Tasks s1).bind λb_1=>(dX k b_1 (a0.Rooms.length:Int)).bind λb_2=>some (!b_2))).bind λb2 =>
sel b2 (some (.inr (.inl false))) <|
some (.inl (w64 (s1+1)))) <|
some (.inr (.inr ()))
def fw (k:Nat) (a0:aJ):Option (Bool):=
(j5 a0.Rooms).bind λy1 =>
(sel (!y1) (some true) ((bh (a0.Tasks.length:Int) 1 3).bind λy2=>some (!y2)):Option (Bool)).bind λb1 =>
sel b1 (some false) <|
(aB (fv a0 k) 0).bind λy3 =>
ia y3 (λo3=>some o3) (λo4 =>
some true)
def eI (k:Nat) (iZ:Expr->Int->Option ((List ab))) (a0:Expr) (a1:Int):Option ((List ab)):=
sel (a0.Op==0) (some [(ab.mk 1 a1 0 0 a0.N)]) <|
sel (a0.Op==13) (some [(ab.mk 2 a1 a0.N 0 0)]) <|
(nth a0.Args 0).bind λx1 =>
(nth a0.Args 1).bind λx2 =>
(iZ (Expr.mk x1.Op x1.N x1.Args) a1).bind λy1 =>
(iZ (Expr.mk x2.Op x2.N x2.Args) (w64 (a1+1))).bind λy2 =>
(app 40 y1 y2).bind λr1 =>
(app 40 r1 [(ab.mk 3 a1 a1 (w64 (a1+1)) a0.Op)]).bind λr2 =>
some r2
def nI:Nat->(Expr->Int->Option ((List ab)))
 | 0=>((λ_ _=>none))
 | k+1=>(eI k (nI k))
def ce (k:Nat):Expr->Int->Option ((List ab)):=(nI k)
def kx (a0:List ae) (a1:Int) (aZ:ae->Int->Option ((List ab))) (s1:(List ab)×Int):Option (((List ab)×Int)⊕((List ab))):=
sel (decide (s1.2<(a0.length:Int))) ((nth a0 s1.2).bind λx1 =>
(aZ (ae.mk x1.Kind x1.Var x1.Box (Expr.mk x1.Expr.Op x1.Expr.N x1.Expr.Args) x1.Body x1.Else) (w64 (a1+(s1.1.length:Int)))).bind λy4 =>
(app 40 s1.1 y4).bind λr1 =>
some (.inl (r1,w64 (s1.2+1)))) <|
some (.inr s1.1)
def eJ (k:Nat) (a6:List ae->Int->Option ((List ab))) (aZ:ae->Int->Option ((List ab))) (bq:ae->Int->Option ((List ab))) (a7:ae->Int->Option ((List ab))) (a0:List ae) (a1:Int):Option ((List ab)):=
(aB (kx a0 a1 aZ) ([],0)).bind λy1 =>
some y1
def cG (k:Nat) (a6:List ae->Int->Option ((List ab))) (aZ:ae->Int->Option ((List ab))) (bq:ae->Int->Option ((List ab))) (a7:ae->Int->Option ((List ab))) (a0:ae) (a1:Int):Option ((List ab)):=
(ce k (Expr.mk a0.Expr.Op a0.Expr.N a0.Expr.Args) 4).bind λy1 =>
sel (a0.Kind==2) ((bq (ae.mk a0.Kind a0.Var a0.Box (Expr.mk a0.Expr.Op a0.Expr.N a0.Expr.Args) a0.Body a0.Else) a1).bind λy2 =>
some y2) <|
sel (a0.Kind==3) ((a7 (ae.mk a0.Kind a0.Var a0.Box (Expr.mk a0.Expr.Op a0.Expr.N a0.Expr.Args) a0.Body a0.Else) a1).bind λy3 =>
some y3) <|
sel (a0.Kind==1) ((app 40 y1 [(ab.mk 2 a0.Var 4 0 0)]).bind λr1 =>
some r1) <|
sel (a0.Kind==4) ((app 40 y1 [(ab.mk 6 0 4 0 a0.Box)]).bind λr2 =>
some r2) <|
sel (a0.Kind==7) ((app 40 y1 [(ab.mk 9 0 4 0 0)]).bind λr3 =>
some r3) <|
sel (a0.Kind==5) (some [(ab.mk 7 a0.Var 0 0 a0.Box)]) <|
some [(ab.mk 8 0 0 0 0)]
def gX (k:Nat) (a6:List ae->Int->Option ((List ab))) (aZ:ae->Int->Option ((List ab))) (bq:ae->Int->Option ((List ab))) (a7:ae->Int->Option ((List ab))) (a0:ae) (a1:Int):Option ((List ab)):=
(ce k (Expr.mk a0.Expr.Op a0.Expr.N a0.Expr.Args) 4).bind λy1 =>
(a6 a0.Body (w64 ((w64 (a1+(y1.length:Int)))+1))).bind λy2 =>
sel ((a0.Else.length:Int)==0) ((app 40 y1 [(ab.mk 5 0 4 0 (w64 ((w64 ((w64 (a1+(y1.length:Int)))+1))+(y2.length:Int))))]).bind λr1 =>
(app 40 r1 y2).bind λr2 =>
some r2) <|
(a6 a0.Else (w64 ((w64 ((w64 ((w64 (a1+(y1.length:Int)))+1))+(y2.length:Int)))+1))).bind λy3 =>
(app 40 y1 [(ab.mk 5 0 4 0 (w64 ((w64 ((w64 ((w64 (a1+(y1.length:Int)))+1))+(y2.length:Int)))+1)))]).bind λr3 =>
(app 40 r3 y2).bind λr4 =>
(app 40 r4 [(ab.mk 4 0 0 0 (w64 ((w64 ((w64 ((w64 ((w64 (a1+(y1.length:Int)))+1))+(y2.length:Int)))+1))+(y3.length:Int))))]).bind λr5 =>
(app 40 r5 y3).bind λr6 =>
some r6
def dG (k:Nat) (a6:List ae->Int->Option ((List ab))) (aZ:ae->Int->Option ((List ab))) (bq:ae->Int->Option ((List ab))) (a7:ae->Int->Option ((List ab))) (a0:ae) (a1:Int):Option ((List ab)):=
(ce k (Expr.mk a0.Expr.Op a0.Expr.N a0.Expr.Args) 4).bind λy1 =>
(a6 a0.Body (w64 ((w64 (a1+(y1.length:Int)))+1))).bind λy2 =>
(app 40 y1 [(ab.mk 5 0 4 0 (w64 ((w64 ((w64 ((w64 (a1+(y1.length:Int)))+1))+(y2.length:Int)))+1)))]).bind λr1 =>
(app 40 r1 y2).bind λr2 =>
(app 40 r2 [(ab.mk 4 0 0 0 a1)]).bind λr3 =>
some r3
def aK:Nat->(List ae->Int->Option ((List ab)))×(ae->Int->Option ((List ab)))×(ae->Int->Option ((List ab)))×(ae->Int->Option ((List ab)))
 | 0=>((λ_ _=>none),(λ_ _=>none),(λ_ _=>none),(λ_ _=>none))
 | k+1=>(eJ k (aK k).1 (aK k).2.1 (aK k).2.2.1 (aK k).2.2.2,cG k (aK k).1 (aK k).2.1 (aK k).2.2.1 (aK k).2.2.2,gX k (aK k).1 (aK k).2.1 (aK k).2.2.1 (aK k).2.2.2,dG k (aK k).1 (aK k).2.1 (aK k).2.2.1 (aK k).2.2.2)
def bA (k:Nat):List ae->Int->Option ((List ab)):=(aK k).1
def bO (k:Nat):ae->Int->Option ((List ab)):=(aK k).2.1
def fK (k:Nat):ae->Int->Option ((List ab)):=(aK k).2.2.1
def co (k:Nat):ae->Int->Option ((List ab)):=(aK k).2.2.2
def cl (k:Nat) (a0:List ae):Option ((List ab)×Bool):=
(cd k a0).bind λy1 =>
sel (!y1) (some ([],false)) <|
(bA k a0 0).bind λy2 =>
(app 40 y2 [(ab.mk 10 0 0 0 0)]).bind λr1 =>
some (r1,true)
def dQ (a0:aJ) (k:Nat) (s1:(List (List ab))×Int):Option (((List (List ab))×Int)⊕((List (List ab)))):=
sel (decide (s1.2<(a0.Tasks.length:Int))) ((nth a0.Tasks s1.2).bind λx1 =>
(cl k x1).bind λy5 =>
(app 24 s1.1 [y5.1]).bind λr1 =>
some (.inl (r1,w64 (s1.2+1)))) <|
some (.inr s1.1)
def cN (k:Nat) (a0:aJ):Option ((List (List ab))×Bool):=
(fw k (aJ.mk a0.Rooms a0.Tasks)).bind λy1 =>
sel (!y1) (some ([],false)) <|
(aB (dQ a0 k) ([],0)).bind λy2 =>
some (y2,true)
def i3 (a0:Int) (a1:Bool):Option (Bool):=
sel a1 ((bh a0 0 11).bind λy1 =>
some y1) <|
some (a0==0)
def bP (a0:ab) (a1:Bool) (a2:Bool) (a3:Bool):Option (Bool):=
(i3 a0.Dst a1).bind λy1 =>
(sel y1 ((i3 a0.A a2).bind λy2=>some y2) (some false):Option (Bool)).bind λb1 =>
(sel b1 ((i3 a0.B a3).bind λy3=>some y3) (some false):Option (Bool)).bind λb2 =>
some b2
def bL (a0:Int):Option (Bool):=
(bh a0 (-2147483648) 2147483647).bind λy1 =>
some y1
def eK (a0:ab) (a1:Int):Option (Bool):=
sel (a0.Op==1) ((bP a0 true false false).bind λy1 =>
(sel y1 ((bL a0.N).bind λy2=>some y2) (some false):Option (Bool)).bind λb1 =>
some b1) <|
sel (a0.Op==2) ((bP a0 true true false).bind λy3 =>
some (y3&&(a0.N==0))) <|
sel (a0.Op==3) ((bP a0 true true true).bind λy4 =>
(sel y4 ((dP a0.N).bind λy5=>some y5) (some false):Option (Bool)).bind λb2 =>
some b2) <|
sel (a0.Op==4) ((bP a0 false false false).bind λy6 =>
some ((y6&&(decide (a0.N>=0)))&&(decide (a0.N<a1)))) <|
sel (a0.Op==5) ((bP a0 false true false).bind λy7 =>
some ((y7&&(decide (a0.N>=0)))&&(decide (a0.N<a1)))) <|
sel (a0.Op==6) ((bP a0 false true false).bind λy8 =>
(sel y8 ((bh a0.N 0 2).bind λy9=>some y9) (some false):Option (Bool)).bind λb3 =>
some b3) <|
sel (a0.Op==7) ((bP a0 true false false).bind λy10 =>
(sel y10 ((bh a0.N 0 2).bind λy11=>some y11) (some false):Option (Bool)).bind λb4 =>
some b4) <|
sel (a0.Op==9) ((bP a0 false true false).bind λy12 =>
some (y12&&(a0.N==0))) <|
(sel (a0.Op==8) (some (a0.Op==8)) <|
some (a0.Op==10):Option (Bool)).bind λy13 =>
sel y13 ((bP a0 false false false).bind λy14 =>
some (y14&&(a0.N==0))) <|
some false
def la (a0:List ab) (s1:Int):Option (Int⊕(Bool⊕Unit)):=
sel (decide (s1<(a0.length:Int))) ((nth a0 s1).bind λx1 =>
(eK x1 (a0.length:Int)).bind λy5 =>
sel (!y5) (some (.inr (.inl false))) <|
some (.inl (w64 (s1+1)))) <|
some (.inr (.inr ()))
def aO (a0:List ab):Option (Bool):=
(bh (a0.length:Int) 1 600).bind λy1 =>
sel (!y1) (some false) <|
(aB (la a0) 0).bind λy2 =>
ia y2 (λo3=>some o3) (λo4 =>
(nth a0 (w64 ((a0.length:Int)-1))).bind λx2 =>
(sel (x2.Op==10) (some true) ((nth a0 (w64 ((a0.length:Int)-1))).bind λx3=>some (x3.Op==4)):Option (Bool)).bind λb1 =>
some b1)
def dh (a0:List ab) (a1:Int):Option ((List Int)):=
(nth a0 a1).bind λx1 =>
sel (x1.Op==10) (some []) <|
sel (x1.Op==4) (some [x1.N]) <|
sel ((x1.Op==5)&&(decide (x1.N<(w64 (a1+1))))) (some [x1.N,w64 (a1+1)]) <|
sel ((x1.Op==5)&&(decide (x1.N>(w64 (a1+1))))) (some [w64 (a1+1),x1.N]) <|
some [w64 (a1+1)]
def fL (a0:List ab) (a1:List ai) (a2:Int):Option ((List Int)):=
(nth a0 a2).bind λx1 =>
(sel (x1.Op !=5) (some true) ((nth a1 x1.A).bind λx2=>some (x2.Kind !=1)):Option (Bool)).bind λb1 =>
sel b1 ((dh a0 a2).bind λy1 =>
some y1) <|
(nth a1 x1.A).bind λx3 =>
sel (x3.N==0) (some [x1.N]) <|
some [w64 (a2+1)]
def kR (a0:Bool):Option (Int):=
sel a0 (some 1) <|
some 0
def eX (a0:Int):Option (Int):=
sel (decide ((Int.tmod a0 4294967296)>2147483647)) (some (w64 ((Int.tmod a0 4294967296)-4294967296))) <|
sel (decide ((Int.tmod a0 4294967296)<(-2147483648))) (some (w64 ((Int.tmod a0 4294967296)+4294967296))) <|
some (Int.tmod a0 4294967296)
def gY (a0:Int) (a1:Int) (a2:Bool):Option (Int):=
sel a2 ((shO .shr .i64 a0 (bj .and .i64 a1 31)).bind λd1 =>
some d1) <|
(shO .shl .i64 a0 (bj .and .i64 a1 31)).bind λd2 =>
(eX d2).bind λy1 =>
some y1
def j6 (a0:Int) (a1:Int):Option (Int):=
sel (a1==0) (some (-1)) <|
(vL .i64 a0 a1).bind λd1 =>
(eX d1).bind λy1 =>
some y1
def j7 (a0:Int) (a1:Int):Option (Int):=
sel (a1==0) (some a0) <|
(sh a0 a1).bind λd1 =>
some d1
def i4 (a0:Int) (a1:Int) (a2:Int):Option (Int×Bool):=
(dP a0).bind λy1 =>
(sel (!y1) (some true) ((bL a1).bind λy2=>some (!y2)):Option (Bool)).bind λb1 =>
(sel b1 (some true) ((bL a2).bind λy3=>some (!y3)):Option (Bool)).bind λb2 =>
sel b2 (some (0,false)) <|
sel (a0==1) (some (bj .or .i64 a1 a2,true)) <|
sel (a0==2) (some (bj .xor .i64 a1 a2,true)) <|
sel (a0==3) (some (bj .and .i64 a1 a2,true)) <|
sel (a0==4) ((kR (a1==a2)).bind λy4 =>
some (y4,true)) <|
sel (a0==5) ((kR (decide (a1<a2))).bind λy5 =>
some (y5,true)) <|
sel (a0==6) ((gY a1 a2 false).bind λy6 =>
some (y6,true)) <|
sel (a0==7) ((gY a1 a2 true).bind λy7 =>
some (y7,true)) <|
sel (a0==8) ((eX (w64 (a1+a2))).bind λy8 =>
some (y8,true)) <|
sel (a0==9) ((eX (w64 (a1-a2))).bind λy9 =>
some (y9,true)) <|
sel (a0==10) ((eX (w64 (a1*a2))).bind λy10 =>
some (y10,true)) <|
sel (a0==11) ((j6 a1 a2).bind λy11 =>
some (y11,true)) <|
(j7 a1 a2).bind λy12 =>
some (y12,true)
def bX (a0:ab) (a1:ai) (a2:ai):Option (ai):=
sel ((a1.Kind !=1)||(a2.Kind !=1)) (some (ai.mk 2 0)) <|
(i4 a0.N a1.N a2.N).bind λy1 =>
some (ai.mk 1 y1.1)
def fM (a0:ab) (a1:List ai):Option ((List ai)):=
(app 16 [] a1).bind λr1 =>
sel (a0.Op==1) ((nth r1 a0.Dst).bind λx1 =>
(upd r1 a0.Dst (ai.mk 1 a0.N)).bind λr2 =>
some r2) <|
sel (a0.Op==2) ((nth a1 a0.A).bind λx2 =>
(nth r1 a0.Dst).bind λx3 =>
(upd r1 a0.Dst x2).bind λr3 =>
some r3) <|
sel (a0.Op==7) ((nth r1 a0.Dst).bind λx4 =>
(upd r1 a0.Dst (ai.mk 2 0)).bind λr4 =>
some r4) <|
sel (a0.Op==3) ((nth a1 a0.A).bind λx5 =>
(nth a1 a0.B).bind λx6 =>
(bX a0 x5 x6).bind λy1 =>
(nth r1 a0.Dst).bind λx7 =>
(upd r1 a0.Dst y1).bind λr5 =>
some r5) <|
some r1
def gZ (a0:ai) (a1:ai):Option (ai):=
sel (a0.Kind==0) (some a1) <|
sel ((a1.Kind==0)||((a0.Kind==a1.Kind)&&((a0.N==a1.N)&&true))) (some a0) <|
some (ai.mk 2 0)
def jy (a1:Int) (a2:List ai) (s1:Bool×Int×(List (List ai))):Option ((Bool×Int×(List (List ai)))⊕(Bool×(List (List ai)))):=
sel (decide (s1.2.1<12)) (((nth s1.2.2 a1).bind λx1 =>
(nth x1 s1.2.1).bind λx4 =>
(nth a2 s1.2.1).bind λx5 =>
(gZ x4 x5).bind λy6 =>
(nth s1.2.2 a1).bind λx6 =>
(nth x6 s1.2.1).bind λx8 =>
sel (!((y6.Kind==x8.Kind)&&((y6.N==x8.N)&&true))) ((nth x6 s1.2.1).bind λx9 =>
(upd x6 s1.2.1 y6).bind λr1 =>
some (true,(s1.2.2.set (Int.toNat a1) r1))) <|
some (s1.1,s1.2.2):Option (Bool×(List (List ai)))).bind λy4 =>
some (.inl (y4.1,w64 (s1.2.1+1),y4.2))) <|
some (.inr (s1.1,s1.2.2))
def fN (a0:List (List ai)) (a1:Int) (a2:List ai):Option (Bool×(List (List ai))):=
(aB (jy a1 a2) (false,0,a0)).bind λy1 =>
some (y1.1,y1.2)
def jz (y5:(List Int)) (y6:(List ai)) (s2:Bool×Int×(List (List ai))):Option ((Bool×Int×(List (List ai)))⊕(Bool×(List (List ai)))):=
sel (decide (s2.2.1<(y5.length:Int))) (((nth y5 s2.2.1).bind λx4 =>
(fN s2.2.2 x4 y6).bind λy11 =>
sel y11.1 (some (true,y11.2)) <|
some (s2.1,y11.2):Option (Bool×(List (List ai)))).bind λy10 =>
some (.inl (y10.1,w64 (s2.2.1+1),y10.2))) <|
some (.inr (s2.1,s2.2.2))
def jA (a0:List ab) (s1:Bool×Int×(List (List ai))):Option ((Bool×Int×(List (List ai)))⊕(Bool×(List (List ai)))):=
sel (decide (s1.2.1<(a0.length:Int))) (((nth s1.2.2 s1.2.1).bind λx1 =>
(nth x1 0).bind λx2 =>
sel (x2.Kind==0) (some (s1.1,s1.2.2)) <|
(fL a0 x1 s1.2.1).bind λy5 =>
(nth a0 s1.2.1).bind λx3 =>
(fM x3 x1).bind λy6 =>
(aB (jz y5 y6) (s1.1,0,s1.2.2)).bind λy7 =>
some (y7.1,y7.2):Option (Bool×(List (List ai)))).bind λy4 =>
some (.inl (y4.1,w64 (s1.2.1+1),y4.2))) <|
some (.inr (s1.1,s1.2.2))
def fO (a0:List ab) (a1:List (List ai)):Option (Bool×(List (List ai))):=
(aB (jA a0) (false,0,a1)).bind λy1 =>
some (y1.1,y1.2)
def ky (a0:List ab) (s1:(List (List ai))×Int):Option (((List (List ai))×Int)⊕((List (List ai)))):=
sel (decide (s1.2<(a0.length:Int))) ((mk 16 12 (ai.mk 0 0)).bind λr1 =>
(app 24 s1.1 [r1]).bind λr2 =>
some (.inl (r2,w64 (s1.2+1)))) <|
some (.inr s1.1)
def kz (s2:Int×(List (List ai))):Option ((Int×(List (List ai)))⊕((List (List ai)))):=
sel (decide (s2.1<12)) ((nth s2.2 0).bind λx1 =>
(nth x1 s2.1).bind λx2 =>
(upd x1 s2.1 (ai.mk 1 0)).bind λr3 =>
some (.inl (w64 (s2.1+1),(s2.2.set (Int.toNat 0) r3)))) <|
some (.inr s2.2)
def kA (a0:List ab) (s3:(List (List ai))):Option (((List (List ai)))⊕((List (List ai)))):=
(fO a0 s3).bind λy11 =>
sel y11.1 (some (.inl y11.2)) <|
some (.inr y11.2)
def fy (a0:List ab):Option ((List (List ai))):=
(aO a0).bind λy1 =>
sel (!y1) (some []) <|
(aB (ky a0) ([],0)).bind λy2 =>
(aB (kz) (0,y2)).bind λy5 =>
(aB (kA a0) y5).bind λy8 =>
some y8
def fP (a0:ai) (a1:Int):Option (Bool):=
some ((a0.Kind==1)&&(a0.N==a1))
def m9 (a0:List Int) (a1:Int) (s1:Int):Option (Int⊕(Bool⊕Unit)):=
sel (decide (s1<(a0.length:Int))) ((nth a0 s1).bind λx1 =>
sel (x1==a1) (some (.inr (.inl true))) <|
some (.inl (w64 (s1+1)))) <|
some (.inr (.inr ()))
def mq (a0:List Int) (a1:Int):Option (Bool):=
(aB (m9 a0 a1) 0).bind λy1 =>
ia y1 (λo3=>some o3) (λo4 =>
some false)
def fz (a0:Int) (a1:List Int):Option (Bool):=
(mq a1 a0).bind λy1 =>
some y1
def i5 (a0:ab) (a1:ai) (a2:ai):Option (ab):=
(bX a0 a1 a2).bind λy1 =>
sel (y1.Kind==1) (some (ab.mk 1 a0.Dst 0 0 y1.N)) <|
(fP a2 0).bind λy2 =>
(sel y2 ((fz a0.N [1,2,6,7,8,9]).bind λy3=>some y3) (some false):Option (Bool)).bind λb1 =>
sel b1 (some (ab.mk 2 a0.Dst a0.A 0 0)) <|
(fP a2 1).bind λy4 =>
(sel y4 ((fz a0.N [10,11]).bind λy5=>some y5) (some false):Option (Bool)).bind λb2 =>
sel b2 (some (ab.mk 2 a0.Dst a0.A 0 0)) <|
(fP a1 0).bind λy6 =>
(sel y6 ((fz a0.N [1,2,8]).bind λy7=>some y7) (some false):Option (Bool)).bind λb3 =>
sel b3 (some (ab.mk 2 a0.Dst a0.B 0 0)) <|
(fP a1 1).bind λy8 =>
sel (y8&&(a0.N==10)) (some (ab.mk 2 a0.Dst a0.B 0 0)) <|
(fP a1 0).bind λy9 =>
(sel y9 (some true) ((fP a2 0).bind λy10=>some y10):Option (Bool)).bind λb4 =>
(sel b4 ((fz a0.N [3,10]).bind λy11=>some y11) (some false):Option (Bool)).bind λb5 =>
sel b5 (some (ab.mk 1 a0.Dst 0 0 0)) <|
some a0
def dR (a0:ab) (a1:List ai) (a2:Int):Option (ab):=
(nth a1 0).bind λx1 =>
sel (x1.Kind==0) (some a0) <|
sel (a0.Op==2) ((nth a1 a0.A).bind λx2 =>
sel (x2.Kind==1) ((nth a1 a0.A).bind λx3 =>
some (ab.mk 1 a0.Dst 0 0 x3.N)) <|
some a0) <|
sel (a0.Op==3) ((nth a1 a0.A).bind λx4 =>
(nth a1 a0.B).bind λx5 =>
(i5 a0 x4 x5).bind λy1 =>
some y1) <|
sel (a0.Op==5) ((nth a1 a0.A).bind λx6 =>
(fP x6 0).bind λy2 =>
sel y2 (some (ab.mk 4 0 0 0 a0.N)) <|
(nth a1 a0.A).bind λx7 =>
sel (x7.Kind==1) (some (ab.mk 4 0 0 0 (w64 (a2+1)))) <|
some a0) <|
some a0
def c6 (a0:List ab) (y2:(List (List ai))) (s1:(List ab)×Int):Option (((List ab)×Int)⊕((List ab))):=
sel (decide (s1.2<(a0.length:Int))) ((nth y2 s1.2).bind λx1 =>
(nth a0 s1.2).bind λx3 =>
(dR x3 x1 s1.2).bind λy7 =>
(app 40 s1.1 [y7]).bind λr2 =>
some (.inl (r2,w64 (s1.2+1)))) <|
some (.inr s1.1)
def fQ (a0:List ab):Option ((List ab)×Bool):=
(aO a0).bind λy1 =>
sel (!y1) (some ([],false)) <|
(fy a0).bind λy2 =>
(aB (c6 a0 y2) ([],0)).bind λy3 =>
some (y3,true)
def kB (s1:(List Int)×Int):Option (((List Int)×Int)⊕((List Int))):=
sel (decide (s1.2<12)) ((app 8 s1.1 [s1.2]).bind λr1 =>
some (.inl (r1,w64 (s1.2+1)))) <|
some (.inr s1.1)
def fC:Option ((List Int)):=
(aB (kB) ([],0)).bind λy1 =>
some y1
def bZ (a0:ab):Option (Int):=
(eK a0 600).bind λy1 =>
sel (!y1) (some (-1)) <|
(sel (a0.Op==1) (some (a0.Op==1)) <|
sel (a0.Op==2) (some (a0.Op==2)) <|
sel (a0.Op==3) (some (a0.Op==3)) <|
some (a0.Op==7):Option (Bool)).bind λy2 =>
sel y2 (some a0.Dst) <|
some (-1)
def jB (y1:Int) (s1:Int×(List Int)):Option ((Int×(List Int))⊕((List Int))):=
sel (decide (s1.1<12)) (((nth s1.2 s1.1).bind λx1 =>
sel (x1==y1) ((nth s1.2 s1.1).bind λx2 =>
(upd s1.2 s1.1 s1.1).bind λr2 =>
some r2) <|
some s1.2:Option ((List Int))).bind λy5 =>
some (.inl (w64 (s1.1+1),y5))) <|
some (.inr s1.2)
def fR (a0:ab) (a1:List Int):Option ((List Int)):=
(app 8 [] a1).bind λr1 =>
(bZ a0).bind λy1 =>
sel (decide (y1<0)) (some r1) <|
(aB (jB y1) (0,r1)).bind λy2 =>
(nth y2 y1).bind λx3 =>
(upd y2 y1 y1).bind λr3 =>
sel (a0.Op==2) ((nth r3 y1).bind λx4 =>
(upd r3 y1 a0.A).bind λr4 =>
some r4) <|
some r3
def jC (a1:Int) (a2:List Int) (s1:Bool×Int×(List (List Int))):Option ((Bool×Int×(List (List Int)))⊕(Bool×(List (List Int)))):=
sel (decide (s1.2.1<12)) (((nth s1.2.2 a1).bind λx2 =>
(nth x2 s1.2.1).bind λx6 =>
(sel (x6 !=s1.2.1) ((nth x2 s1.2.1).bind λb_1=>(nth a2 s1.2.1).bind λb_2=>some (b_1 !=b_2)) (some false)).bind λb2 =>
sel b2 ((nth s1.2.2 a1).bind λx9 =>
(nth x9 s1.2.1).bind λx10 =>
(upd x9 s1.2.1 s1.2.1).bind λr2 =>
some (true,(s1.2.2.set (Int.toNat a1) r2))) <|
some (s1.1,s1.2.2):Option (Bool×(List (List Int)))).bind λy4 =>
some (.inl (y4.1,w64 (s1.2.1+1),y4.2))) <|
some (.inr (s1.1,s1.2.2))
def fS (a0:List (List Int)) (a1:Int) (a2:List Int):Option (Bool×(List (List Int))):=
(nth a0 a1).bind λx1 =>
sel ((x1.length:Int)==0) ((app 8 [] a2).bind λr1 =>
some (true,(a0.set (Int.toNat a1) r1))) <|
(aB (jC a1 a2) (false,0,a0)).bind λy1 =>
some (y1.1,y1.2)
def jD (y5:(List Int)) (y6:(List Int)) (s2:Bool×Int×(List (List Int))):Option ((Bool×Int×(List (List Int)))⊕(Bool×(List (List Int)))):=
sel (decide (s2.2.1<(y5.length:Int))) (((nth y5 s2.2.1).bind λx3 =>
(fS s2.2.2 x3 y6).bind λy11 =>
sel y11.1 (some (true,y11.2)) <|
some (s2.1,y11.2):Option (Bool×(List (List Int)))).bind λy10 =>
some (.inl (y10.1,w64 (s2.2.1+1),y10.2))) <|
some (.inr (s2.1,s2.2.2))
def jE (a0:List ab) (s1:Bool×Int×(List (List Int))):Option ((Bool×Int×(List (List Int)))⊕(Bool×(List (List Int)))):=
sel (decide (s1.2.1<(a0.length:Int))) (((nth s1.2.2 s1.2.1).bind λx1 =>
sel ((x1.length:Int)==0) (some (s1.1,s1.2.2)) <|
(dh a0 s1.2.1).bind λy5 =>
(nth a0 s1.2.1).bind λx2 =>
(fR x2 x1).bind λy6 =>
(aB (jD y5 y6) (s1.1,0,s1.2.2)).bind λy7 =>
some (y7.1,y7.2):Option (Bool×(List (List Int)))).bind λy4 =>
some (.inl (y4.1,w64 (s1.2.1+1),y4.2))) <|
some (.inr (s1.1,s1.2.2))
def fT (a0:List ab) (a1:List (List Int)):Option (Bool×(List (List Int))):=
(aB (jE a0) (false,0,a1)).bind λy1 =>
some (y1.1,y1.2)
def jF (a0:List ab) (s1:(List (List Int))×Int):Option (((List (List Int))×Int)⊕((List (List Int)))):=
sel (decide (s1.2<(a0.length:Int))) ((app 24 s1.1 [[]]).bind λr1 =>
some (.inl (r1,w64 (s1.2+1)))) <|
some (.inr s1.1)
def jG (a0:List ab) (s2:(List (List Int))):Option (((List (List Int)))⊕((List (List Int)))):=
(fT a0 s2).bind λy9 =>
sel y9.1 (some (.inl y9.2)) <|
some (.inr y9.2)
def jH (a0:List ab) (s3:Int×(List (List Int))):Option ((Int×(List (List Int)))⊕((List (List Int)))):=
sel (decide (s3.1<(a0.length:Int))) (((nth s3.2 s3.1).bind λx2 =>
sel ((x2.length:Int)==0) ((fC).bind λy14 =>
some (s3.2.set (Int.toNat s3.1) y14)) <|
some s3.2:Option ((List (List Int)))).bind λy13 =>
some (.inl (w64 (s3.1+1),y13))) <|
some (.inr s3.2)
def dY (a0:List ab):Option ((List (List Int))):=
(aO a0).bind λy1 =>
sel (!y1) (some []) <|
(aB (jF a0) ([],0)).bind λy2 =>
(fC).bind λy5 =>
(nth y2 0).bind λx1 =>
(aB (jG a0) (y2.set (Int.toNat 0) y5)).bind λy6 =>
(aB (jH a0) (0,y6)).bind λy10 =>
some y10
def g7 (a0:ab) (a1:List Int):Option (ab):=
(sel (a0.Op==2) (some (a0.Op==2)) <|
sel (a0.Op==5) (some (a0.Op==5)) <|
sel (a0.Op==6) (some (a0.Op==6)) <|
some (a0.Op==9):Option (Bool)).bind λy1 =>
sel y1 ((nth a1 a0.A).bind λx1 =>
some (ab.mk a0.Op a0.Dst x1 a0.B a0.N)) <|
sel (a0.Op==3) ((nth a1 a0.A).bind λx2 =>
(nth a1 a0.B).bind λx3 =>
some (ab.mk a0.Op a0.Dst x2 x3 a0.N)) <|
some a0
def c7 (a0:List ab) (y2:(List (List Int))) (s1:(List ab)×Int):Option (((List ab)×Int)⊕((List ab))):=
sel (decide (s1.2<(a0.length:Int))) ((nth y2 s1.2).bind λx1 =>
(nth a0 s1.2).bind λx3 =>
(g7 x3 x1).bind λy7 =>
(app 40 s1.1 [y7]).bind λr2 =>
some (.inl (r2,w64 (s1.2+1)))) <|
some (.inr s1.1)
def fU (a0:List ab):Option ((List ab)×Bool):=
(aO a0).bind λy1 =>
sel (!y1) (some ([],false)) <|
(dY a0).bind λy2 =>
(aB (c7 a0 y2) ([],0)).bind λy3 =>
some (y3,true)
def lc (a0:List ab) (s1:Int×Int):Option ((Int×Int)⊕(Int⊕Unit)):=
sel (decide (s1.2<(a0.length:Int))) ((nth a0 s1.1).bind λx1 =>
sel (x1.Op !=4) (some (.inr (.inl s1.1))) <|
(nth a0 s1.1).bind λx2 =>
some (.inl (x2.N,w64 (s1.2+1)))) <|
some (.inr (.inr ()))
def eL (a0:List ab) (a1:Int):Option (Int):=
(aB (lc a0) (a1,0)).bind λy1 =>
ia y1 (λo3=>some o3) (λo4 =>
some a1)
def c8 (a0:List ab) (s1:(List ab)×Int):Option (((List ab)×Int)⊕((List ab))):=
sel (decide (s1.2<(a0.length:Int))) ((nth a0 s1.2).bind λx1 =>
(sel ((x1.Op==4)||(x1.Op==5)) ((eL a0 x1.N).bind λy6 =>
some (ab.mk x1.Op x1.Dst x1.A x1.B y6)) <|
some x1:Option (ab)).bind λy5 =>
(app 40 s1.1 [y5]).bind λr1 =>
some (.inl (r1,w64 (s1.2+1)))) <|
some (.inr s1.1)
def fV (a0:List ab):Option ((List ab)×Bool):=
(aO a0).bind λy1 =>
sel (!y1) (some ([],false)) <|
(aB (c8 a0) ([],0)).bind λy2 =>
some (y2,true)
def l5 (a1:List (List Bool)) (y1:(List Int)) (s1:Int×(List Bool)) (s2:Int×(List Bool)):Option ((Int×(List Bool))⊕((List Bool))):=
sel (decide (s2.1<12)) ((nth s2.2 s2.1).bind λx1 =>
(sel x1 (some true) ((nth y1 s1.1).bind λx2=>(nth a1 x2).bind λx3=>(nth x3 s2.1).bind λx4=>some x4):Option (Bool)).bind λb1 =>
(nth s2.2 s2.1).bind λx5 =>
(upd s2.2 s2.1 b1).bind λr2 =>
some (.inl (w64 (s2.1+1),r2))) <|
some (.inr s2.2)
def l6 (a1:List (List Bool)) (y1:(List Int)) (s1:Int×(List Bool)):Option ((Int×(List Bool))⊕((List Bool))):=
sel (decide (s1.1<(y1.length:Int))) ((aB (l5 a1 y1 s1) (0,s1.2)).bind λy5 =>
some (.inl (w64 (s1.1+1),y5))) <|
some (.inr s1.2)
def fW (a0:List ab) (a1:List (List Bool)) (a2:Int):Option ((List Bool)):=
(mk 1 12 false).bind λr1 =>
(dh a0 a2).bind λy1 =>
(aB (l6 a1 y1) (0,r1)).bind λy2 =>
some y2
def j8 (a0:ab):Option ((List Int)):=
(eK a0 600).bind λy1 =>
sel (!y1) (some []) <|
(sel (a0.Op==2) (some (a0.Op==2)) <|
sel (a0.Op==5) (some (a0.Op==5)) <|
sel (a0.Op==6) (some (a0.Op==6)) <|
some (a0.Op==9):Option (Bool)).bind λy2 =>
sel y2 (some [a0.A]) <|
sel (a0.Op==3) (sel (a0.A==a0.B) (some [a0.A]) <|
some [min a0.A a0.B,max a0.A a0.B]) <|
some []
def lf (y4:(List Int)) (s1:Int×(List Bool)):Option ((Int×(List Bool))⊕((List Bool))):=
sel (decide (s1.1<(y4.length:Int))) ((nth y4 s1.1).bind λx2 =>
(nth s1.2 x2).bind λx3 =>
(upd s1.2 x2 true).bind λr3 =>
some (.inl (w64 (s1.1+1),r3))) <|
some (.inr s1.2)
def i6 (a0:ab) (a1:List Bool):Option ((List Bool)):=
(app 1 [] a1).bind λr1 =>
((bZ a0).bind λy2 =>
sel (decide (y2>=0)) ((bZ a0).bind λy3 =>
(nth r1 y3).bind λx1 =>
(upd r1 y3 false).bind λr2 =>
some r2) <|
some r1:Option ((List Bool))).bind λy1 =>
(j8 a0).bind λy4 =>
(aB (lf y4) (0,y1)).bind λy5 =>
some y5
def mA (a0:List Bool) (a1:List Bool) (s1:Int):Option (Int⊕(Bool⊕Unit)):=
sel (decide (s1<(a0.length:Int))) ((nth a0 s1).bind λx1 =>
(nth a1 s1).bind λx2 =>
sel (x1 !=x2) (some (.inr (.inl false))) <|
some (.inl (w64 (s1+1)))) <|
some (.inr (.inr ()))
def lh (a0:List Bool) (a1:List Bool):Option (Bool):=
(aB (mA a0 a1) 0).bind λy1 =>
ia y1 (λo3=>some o3) (λo4 =>
some ((a0.length:Int)==(a1.length:Int)))
def ed (a0:List ab) (s1:Bool×Int×(List (List Bool))):Option ((Bool×Int×(List (List Bool)))⊕(Bool×(List (List Bool)))):=
sel (decide (s1.2.1>=0)) (((nth a0 s1.2.1).bind λx1 =>
(fW a0 s1.2.2 s1.2.1).bind λy5 =>
(i6 x1 y5).bind λy6 =>
(nth s1.2.2 s1.2.1).bind λx2 =>
(lh y6 x2).bind λy7 =>
sel (!y7) (some (true,(s1.2.2.set (Int.toNat s1.2.1) y6))) <|
some (s1.1,s1.2.2):Option (Bool×(List (List Bool)))).bind λy4 =>
some (.inl (y4.1,w64 (s1.2.1-1),y4.2))) <|
some (.inr (s1.1,s1.2.2))
def di (a0:List ab) (a1:List (List Bool)):Option (Bool×(List (List Bool))):=
(aB (ed a0) (false,w64 ((a0.length:Int)-1),a1)).bind λy1 =>
some (y1.1,y1.2)
def i7 (a0:List ab) (s1:(List (List Bool))×Int):Option (((List (List Bool))×Int)⊕((List (List Bool)))):=
sel (decide (s1.2<(a0.length:Int))) ((mk 1 12 false).bind λr1 =>
(app 24 s1.1 [r1]).bind λr2 =>
some (.inl (r2,w64 (s1.2+1)))) <|
some (.inr s1.1)
def bD (a0:List ab) (s2:(List (List Bool))):Option (((List (List Bool)))⊕((List (List Bool)))):=
(di a0 s2).bind λy8 =>
sel y8.1 (some (.inl y8.2)) <|
some (.inr y8.2)
def dZ (a0:List ab):Option ((List (List Bool))):=
(aO a0).bind λy1 =>
sel (!y1) (some []) <|
(aB (i7 a0) ([],0)).bind λy2 =>
(aB (bD a0) y2).bind λy5 =>
some y5
def g8 (a0:ab) (a1:List Bool):Option (Bool):=
(sel (a0.Op==1) (some (a0.Op==1)) <|
sel (a0.Op==2) (some (a0.Op==2)) <|
some (a0.Op==3):Option (Bool)).bind λy1 =>
sel y1 ((nth a1 a0.Dst).bind λx1 =>
some (!x1)) <|
some false
def c9 (a0:List ab) (y2:(List (List Bool))) (s1:(List ab)×Int):Option (((List ab)×Int)⊕((List ab))):=
sel (decide (s1.2<(a0.length:Int))) ((nth a0 s1.2).bind λx1 =>
((fW a0 y2 s1.2).bind λy7 =>
(g8 x1 y7).bind λy8 =>
sel y8 (some (ab.mk 4 0 0 0 (w64 (s1.2+1)))) <|
some x1:Option (ab)).bind λy6 =>
(app 40 s1.1 [y6]).bind λr1 =>
some (.inl (r1,w64 (s1.2+1)))) <|
some (.inr s1.1)
def fX (a0:List ab):Option ((List ab)×Bool):=
(aO a0).bind λy1 =>
sel (!y1) (some ([],false)) <|
(dZ a0).bind λy2 =>
(aB (c9 a0 y2) ([],0)).bind λy3 =>
some (y3,true)
def iC (y5:(List Int)) (s2:Bool×Int×(List Bool)):Option ((Bool×Int×(List Bool))⊕(Bool×(List Bool))):=
sel (decide (s2.2.1<(y5.length:Int))) (((nth y5 s2.2.1).bind λx2 =>
(nth s2.2.2 x2).bind λx3 =>
sel (!x3) ((nth y5 s2.2.1).bind λx4 =>
(nth s2.2.2 x4).bind λx5 =>
(upd s2.2.2 x4 true).bind λr1 =>
some (true,r1)) <|
some (s2.1,s2.2.2):Option (Bool×(List Bool))).bind λy9 =>
some (.inl (y9.1,w64 (s2.2.1+1),y9.2))) <|
some (.inr (s2.1,s2.2.2))
def iE (a0:List ab) (s1:Bool×Int×(List Bool)):Option ((Bool×Int×(List Bool))⊕(Bool×(List Bool))):=
sel (decide (s1.2.1<(a0.length:Int))) (((nth s1.2.2 s1.2.1).bind λx1 =>
sel (!x1) (some (s1.1,s1.2.2)) <|
(dh a0 s1.2.1).bind λy5 =>
(aB (iC y5) (s1.1,0,s1.2.2)).bind λy6 =>
some (y6.1,y6.2):Option (Bool×(List Bool))).bind λy4 =>
some (.inl (y4.1,w64 (s1.2.1+1),y4.2))) <|
some (.inr (s1.1,s1.2.2))
def eM (a0:List ab) (a1:List Bool):Option (Bool×(List Bool)):=
(aB (iE a0) (false,0,a1)).bind λy1 =>
some (y1.1,y1.2)
def iG (a0:List ab) (s1:(List Bool)):Option (((List Bool))⊕((List Bool))):=
(eM a0 s1).bind λy5 =>
sel y5.1 (some (.inl y5.2)) <|
some (.inr y5.2)
def cH (a0:List ab):Option ((List Bool)):=
(aO a0).bind λy1 =>
sel (!y1) (some []) <|
(mk 1 (a0.length:Int) false).bind λr1 =>
(nth r1 0).bind λx1 =>
(upd r1 0 true).bind λr2 =>
(aB (iG a0) r2).bind λy2 =>
some y2
def lj (a0:ab) (a1:Int):Option (Bool):=
(sel (a0.Op==4) (some (a0.Op==4)) <|
some (a0.Op==5):Option (Bool)).bind λy1 =>
sel y1 (some (a0.N==(w64 (a1+1)))) <|
sel (a0.Op==2) (some (a0.Dst==a0.A)) <|
some false
def l7 (a0:List Bool) (a1:Int) (s1:Int×Int):Option ((Int×Int)⊕Int):=
sel (decide (s1.2<a1)) (((nth a0 s1.2).bind λx1 =>
sel x1 (some (w64 (s1.1+1))) <|
some s1.1:Option (Int)).bind λy4 =>
some (.inl (y4,w64 (s1.2+1)))) <|
some (.inr s1.1)
def j9 (a0:List Bool) (a1:Int):Option (Int):=
(aB (l7 a0 a1) (0,0)).bind λy1 =>
some y1
def dK (a0:List ab) (s1:Int×(List Bool)):Option ((Int×(List Bool))⊕((List Bool))):=
sel (decide (s1.1<(a0.length:Int))) ((nth s1.2 s1.1).bind λx1 =>
(sel x1 ((nth a0 s1.1).bind λx2=>(lj x2 s1.1).bind λy6=>some (!y6)) (some false):Option (Bool)).bind λb1 =>
(nth s1.2 s1.1).bind λx3 =>
(upd s1.2 s1.1 b1).bind λr1 =>
some (.inl (w64 (s1.1+1),r1))) <|
some (.inr s1.2)
def dL (a0:List ab) (y3:(List Bool)) (s2:(List ab)×Int):Option (((List ab)×Int)⊕((List ab))):=
sel (decide (s2.2<(a0.length:Int))) (((nth a0 s2.2).bind λx4 =>
(nth y3 s2.2).bind λx5 =>
sel (!x5) (some s2.1) <|
(sel ((x4.Op==4)||(x4.Op==5)) ((j9 y3 x4.N).bind λy12 =>
some (ab.mk x4.Op x4.Dst x4.A x4.B y12)) <|
some x4:Option (ab)).bind λy11 =>
(app 40 s2.1 [y11]).bind λr2 =>
some r2:Option ((List ab))).bind λy10 =>
some (.inl (y10,w64 (s2.2+1)))) <|
some (.inr s2.1)
def da (a0:List ab):Option ((List ab)×Bool):=
(aO a0).bind λy1 =>
sel (!y1) (some ([],false)) <|
(cH a0).bind λy2 =>
(aB (dK a0) (0,y2)).bind λy3 =>
(aB (dL a0 y3) ([],0)).bind λy7 =>
some (y7,true)
def mP (a0:List ab):Option ((List ab)):=
(fQ a0).bind λy1 =>
(fU y1.1).bind λy2 =>
(fV y2.1).bind λy3 =>
(fX y3.1).bind λy4 =>
(da y4.1).bind λy5 =>
some y5.1
def bw (a1:Int) (s1:(List ab)×Int):Option (((List ab)×Int)⊕((List ab))):=
sel (decide (s1.2<a1)) ((mP s1.1).bind λy6 =>
some (.inl (y6,w64 (s1.2+1)))) <|
some (.inr s1.1)
def bT (a0:List ab) (a1:Int):Option ((List ab)×Bool):=
(aO a0).bind λy1 =>
(sel (!y1) (some true) ((bh a1 0 4).bind λy2=>some (!y2)):Option (Bool)).bind λb1 =>
sel b1 (some ([],false)) <|
(app 40 [] a0).bind λr1 =>
(aB (bw a1) (r1,0)).bind λy3 =>
some (y3,true)
def cP (a0:List (List ab)) (a1:Int) (s1:(List (List ab))×Int):Option (((List (List ab))×Int)⊕(((List (List ab))×Bool)⊕((List (List ab))))):=
sel (decide (s1.2<(a0.length:Int))) ((nth a0 s1.2).bind λx1 =>
(bT x1 a1).bind λy5 =>
sel (!y5.2) (some (.inr (.inl ([],false)))) <|
(app 24 s1.1 [y5.1]).bind λr1 =>
some (.inl (r1,w64 (s1.2+1)))) <|
some (.inr (.inr s1.1))
def db (a0:List (List ab)) (a1:Int):Option ((List (List ab))×Bool):=
(bh (a0.length:Int) 1 3).bind λy1 =>
sel (!y1) (some ([],false)) <|
(aB (cP a0 a1) ([],0)).bind λy2 =>
ia y2 (λo3=>some o3) (λo4 =>
some (o4,true))
def l8 (a0:List ab) (y1:(List (List Bool))) (s1:(List (List Bool))×Int):Option (((List (List Bool))×Int)⊕((List (List Bool)))):=
sel (decide (s1.2<(a0.length:Int))) ((fW a0 y1 s1.2).bind λy5 =>
(app 24 s1.1 [y5]).bind λr1 =>
some (.inl (r1,w64 (s1.2+1)))) <|
some (.inr s1.1)
def kc (a0:List ab):Option ((List (List Bool))):=
(dZ a0).bind λy1 =>
(aB (l8 a0 y1) ([],0)).bind λy2 =>
some y2
def iu (a0:ab) (a1:List Bool) (a2:Int) (a3:Int):Option (Bool):=
(bZ a0).bind λy1 =>
(sel (y1 !=a2) (some true) ((nth a1 a3).bind λx1=>some (!x1)):Option (Bool)).bind λb1 =>
sel b1 (some false) <|
some ((a0.Op !=2)||(a0.A !=a3))
def mB (a0:List ab) (a1:List (List Bool)) (a2:Int) (a3:Int) (s1:Int):Option (Int⊕(Bool⊕Unit)):=
sel (decide (s1<(a0.length:Int))) ((nth a0 s1).bind λx1 =>
(nth a1 s1).bind λx2 =>
(iu x1 x2 a2 a3).bind λy4 =>
(sel y4 (some true) ((nth a0 s1).bind λb_1=>(nth a1 s1).bind λb_2=>(iu b_1 b_2 a3 a2).bind λb_3=>some b_3)).bind λb1 =>
sel b1 (some (.inr (.inl true))) <|
some (.inl (w64 (s1+1)))) <|
some (.inr (.inr ()))
def lk (a0:List ab) (a1:List (List Bool)) (a2:Int) (a3:Int):Option (Bool):=
sel (a2==a3) (some false) <|
(aB (mB a0 a1 a2 a3) 0).bind λy1 =>
ia y1 (λo3=>some o3) (λo4 =>
some false)
def jI (a0:List ab) (a1:List (List Bool)) (a2:List Int) (s1:Int) (s2:Bool×Int):Option ((Bool×Int)⊕Bool):=
sel (decide (s2.2<(a2.length:Int))) (((nth a2 s2.2).bind λx1 =>
(sel (x1==s1) ((lk a0 a1 s2.2 (a2.length:Int)).bind λy8=>some y8) (some false):Option (Bool)).bind λb1 =>
sel b1 (some false) <|
some s2.1:Option (Bool)).bind λy7 =>
some (.inl (y7,w64 (s2.2+1)))) <|
some (.inr s2.1)
def l9 (a0:List ab) (a1:List (List Bool)) (a2:List Int) (s1:Int):Option (Int⊕(Int⊕Unit)):=
sel (decide (s1<(a2.length:Int))) ((aB (jI a0 a1 a2 s1) (true,0)).bind λy4 =>
sel y4 (some (.inr (.inl s1))) <|
some (.inl (w64 (s1+1)))) <|
some (.inr (.inr ()))
def ke (a0:List ab) (a1:List (List Bool)) (a2:List Int):Option (Int):=
(aB (l9 a0 a1 a2) 0).bind λy1 =>
ia y1 (λo3=>some o3) (λo4 =>
some (a2.length:Int))
def ma (a0:List ab) (y2:(List (List Bool))) (s1:(List Int)×Int):Option (((List Int)×Int)⊕((List Int))):=
sel (decide (s1.2<12)) ((ke a0 y2 s1.1).bind λy6 =>
(app 8 s1.1 [y6]).bind λr1 =>
some (.inl (r1,w64 (s1.2+1)))) <|
some (.inr s1.1)
def iv (a0:List ab):Option ((List Int)):=
(aO a0).bind λy1 =>
sel (!y1) (some []) <|
(kc a0).bind λy2 =>
(aB (ma a0 y2) ([],0)).bind λy3 =>
some y3
def i9 (a0:ab) (a1:List Int):Option (ab):=
((bZ a0).bind λy2 =>
sel (decide (y2>=0)) ((nth a1 a0.Dst).bind λx1 =>
some (ab.mk a0.Op x1 a0.A a0.B a0.N)) <|
some a0:Option (ab)).bind λy1 =>
(sel (y1.Op==2) (some (y1.Op==2)) <|
sel (y1.Op==5) (some (y1.Op==5)) <|
sel (y1.Op==6) (some (y1.Op==6)) <|
some (y1.Op==9):Option (Bool)).bind λy3 =>
sel y3 ((nth a1 y1.A).bind λx2 =>
some (ab.mk y1.Op y1.Dst x2 y1.B y1.N)) <|
sel (y1.Op==3) ((nth a1 y1.A).bind λx3 =>
(nth a1 y1.B).bind λx4 =>
some (ab.mk y1.Op y1.Dst x3 x4 y1.N)) <|
some y1
def fD (a0:List ab) (y2:(List Int)) (s1:(List ab)×Int):Option (((List ab)×Int)⊕((List ab))):=
sel (decide (s1.2<(a0.length:Int))) ((nth a0 s1.2).bind λx1 =>
(i9 x1 y2).bind λy6 =>
(app 40 s1.1 [y6]).bind λr1 =>
some (.inl (r1,w64 (s1.2+1)))) <|
some (.inr s1.1)
def gv (a0:List ab):Option ((List ab)×Bool):=
(aO a0).bind λy1 =>
sel (!y1) (some ([],false)) <|
(iv a0).bind λy2 =>
(aB (fD a0 y2) ([],0)).bind λy3 =>
some (y3,true)
def g9 (y2:(List (List ab))×Bool) (s1:(List (List ab))×Int):Option (((List (List ab))×Int)⊕((List (List ab)))):=
sel (decide (s1.2<(y2.1.length:Int))) ((nth y2.1 s1.2).bind λx1 =>
(gv x1).bind λy6 =>
(app 24 s1.1 [y6.1]).bind λr1 =>
some (.inl (r1,w64 (s1.2+1)))) <|
some (.inr s1.1)
def dH (k:Nat) (a0:aJ) (a1:Int):Option ((List (List ab))×Bool):=
(cN k (aJ.mk a0.Rooms a0.Tasks)).bind λy1 =>
sel (!y1.2) (some ([],false)) <|
(db y1.1 a1).bind λy2 =>
sel (!y2.2) (some ([],false)) <|
(aB (g9 y2) ([],0)).bind λy3 =>
some (y3,true)
def mr (a0:List Int) (a1:Int):Option (Int):=
sel (decide ((w64 (a1-(a0.length:Int)))<0)) (some (-1)) <|
some (w64 (a1-(a0.length:Int)))
def fY (k:Nat) (cq:ax->Int->Option (Int)) (dn:List ax->Int->Option (Int)) (a0:ax) (a1:Int):Option (Int):=
(dn a0.Args a1).bind λy1 =>
sel (decide (y1<0)) (some (-1)) <|
some y1
def kC (a0:List ax) (cq:ax->Int->Option (Int)) (s1:Int×Int):Option ((Int×Int)⊕(Int⊕Int)):=
sel (decide (s1.2<(a0.length:Int))) ((nth a0 s1.2).bind λx1 =>
(cq (ax.mk x1.Op x1.N x1.Args) s1.1).bind λy4 =>
sel (decide (y4<0)) (some (.inr (.inl (-1)))) <|
some (.inl (y4,w64 (s1.2+1)))) <|
some (.inr (.inr s1.1))
def ja (k:Nat) (cq:ax->Int->Option (Int)) (dn:List ax->Int->Option (Int)) (a0:List ax) (a1:Int):Option (Int):=
sel (decide ((w64 (a1-(a0.length:Int)))<0)) (some (-1)) <|
(aB (kC a0 cq) (w64 (a1-(a0.length:Int)),0)).bind λy1 =>
ia y1 (λo3=>some o3) (λo4 =>
some o4)
def eY:Nat->(ax->Int->Option (Int))×(List ax->Int->Option (Int))
 | 0=>((λ_ _=>none),(λ_ _=>none))
 | k+1=>(fY k (eY k).1 (eY k).2,ja k (eY k).1 (eY k).2)
def jb (k:Nat):ax->Int->Option (Int):=(eY k).1
def lm (k:Nat):List ax->Int->Option (Int):=(eY k).2
def kD (a0:List aq) (cr:aq->Int->Option (Int)) (s1:Int×Int):Option ((Int×Int)⊕(Int⊕Int)):=
sel (decide (s1.2<(a0.length:Int))) ((nth a0 s1.2).bind λx1 =>
(cr (aq.mk x1.Kind x1.Var x1.Box (ax.mk x1.Expr.Op x1.Expr.N x1.Expr.Args) x1.Body x1.Else) s1.1).bind λy4 =>
sel (decide (y4<0)) (some (.inr (.inl (-1)))) <|
some (.inl (y4,w64 (s1.2+1)))) <|
some (.inr (.inr s1.1))
def jc (k:Nat) (cI:List aq->Int->Option (Int)) (cr:aq->Int->Option (Int)) (a0:List aq) (a1:Int):Option (Int):=
sel (decide ((w64 (a1-(a0.length:Int)))<0)) (some (-1)) <|
(aB (kD a0 cr) (w64 (a1-(a0.length:Int)),0)).bind λy1 =>
ia y1 (λo3=>some o3) (λo4 =>
some o4)
def kg (k:Nat) (cI:List aq->Int->Option (Int)) (cr:aq->Int->Option (Int)) (a0:aq) (a1:Int):Option (Int):=
(jb k (ax.mk a0.Expr.Op a0.Expr.N a0.Expr.Args) a1).bind λy1 =>
sel (decide (y1<0)) (some (-1)) <|
(cI a0.Body y1).bind λy2 =>
sel (decide (y2<0)) (some (-1)) <|
(cI a0.Else y2).bind λy3 =>
sel (decide (y3<0)) (some (-1)) <|
some y3
def eg:Nat->(List aq->Int->Option (Int))×(aq->Int->Option (Int))
 | 0=>((λ_ _=>none),(λ_ _=>none))
 | k+1=>(jc k (eg k).1 (eg k).2,kg k (eg k).1 (eg k).2)
def jJ (k:Nat):List aq->Int->Option (Int):=(eg k).1
def oO (k:Nat):aq->Int->Option (Int):=(eg k).2
def jK (a0:List (List aq)) (k:Nat) (s1:Int×Int):Option ((Int×Int)⊕(Int⊕Int)):=
sel (decide (s1.2<(a0.length:Int))) ((nth a0 s1.2).bind λx1 =>
(jJ k x1 s1.1).bind λy4 =>
sel (decide (y4<0)) (some (.inr (.inl (-1)))) <|
some (.inl (y4,w64 (s1.2+1)))) <|
some (.inr (.inr s1.1))
def kh (k:Nat) (a0:List (List aq)) (a1:Int):Option (Int):=
sel (decide ((w64 (a1-(a0.length:Int)))<0)) (some (-1)) <|
(aB (jK a0 k) (w64 (a1-(a0.length:Int)),0)).bind λy1 =>
ia y1 (λo3=>some o3) (λo4 =>
some o4)
def jd (k:Nat) (a0:aN) (a1:Int):Option (Int):=
(mr a0.Rooms a1).bind λy1 =>
sel (decide (y1<0)) (some (-1)) <|
(kh k a0.Tasks y1).bind λy2 =>
sel (decide (y2<0)) (some (-1)) <|
some y2
def ln (a0:List Int) (s1:Int×(List Int)):Option ((Int×(List Int))⊕((List Int))):=
sel (decide (s1.1<(a0.length:Int))) ((nth a0 s1.1).bind λx1 =>
(nth s1.2 s1.1).bind λx2 =>
(upd s1.2 s1.1 x1).bind λr2 =>
some (.inl (w64 (s1.1+1),r2))) <|
some (.inr s1.2)
def ms (a0:List Int):Option ((List Int)):=
(mk 8 (a0.length:Int) 0).bind λr1 =>
(aB (ln a0) (0,r1)).bind λy1 =>
some y1
def fZ (k:Nat) (cw:ax->Option (Expr)) (dt:List ax->Option ((List Expr))) (a0:ax):Option (Expr):=
(dt a0.Args).bind λy1 =>
some (Expr.mk a0.Op a0.N y1)
def kE (a0:List ax) (cw:ax->Option (Expr)) (s1:Int×(List Expr)):Option ((Int×(List Expr))⊕((List Expr))):=
sel (decide (s1.1<(a0.length:Int))) ((nth a0 s1.1).bind λx1 =>
(cw (ax.mk x1.Op x1.N x1.Args)).bind λy4 =>
(nth s1.2 s1.1).bind λx2 =>
some (.inl (w64 (s1.1+1),(s1.2.set (Int.toNat s1.1) (Expr.mk y4.Op y4.N y4.Args))))) <|
some (.inr s1.2)
def je (k:Nat) (cw:ax->Option (Expr)) (dt:List ax->Option ((List Expr))) (a0:List ax):Option ((List Expr)):=
(mk 40 (a0.length:Int) (Expr.mk 0 0 [])).bind λr1 =>
(aB (kE a0 cw) (0,r1)).bind λy1 =>
some y1
def eZ:Nat->(ax->Option (Expr))×(List ax->Option ((List Expr)))
 | 0=>((λ_=>none),(λ_=>none))
 | k+1=>(fZ k (eZ k).1 (eZ k).2,je k (eZ k).1 (eZ k).2)
def jf (k:Nat):ax->Option (Expr):=(eZ k).1
def lp (k:Nat):List ax->Option ((List Expr)):=(eZ k).2
def kF (a0:List aq) (cy:aq->Option (ae)) (s1:Int×(List ae)):Option ((Int×(List ae))⊕((List ae))):=
sel (decide (s1.1<(a0.length:Int))) ((nth a0 s1.1).bind λx1 =>
(cy (aq.mk x1.Kind x1.Var x1.Box (ax.mk x1.Expr.Op x1.Expr.N x1.Expr.Args) x1.Body x1.Else)).bind λy4 =>
(nth s1.2 s1.1).bind λx2 =>
some (.inl (w64 (s1.1+1),(s1.2.set (Int.toNat s1.1) (ae.mk y4.Kind y4.Var y4.Box (Expr.mk y4.Expr.Op y4.Expr.N y4.Expr.Args) y4.Body y4.Else))))) <|
some (.inr s1.2)
def jg (k:Nat) (cJ:List aq->Option ((List ae))) (cy:aq->Option (ae)) (a0:List aq):Option ((List ae)):=
(mk 112 (a0.length:Int) (ae.mk 0 0 0 (Expr.mk 0 0 []) [] [])).bind λr1 =>
(aB (kF a0 cy) (0,r1)).bind λy1 =>
some y1
def ki (k:Nat) (cJ:List aq->Option ((List ae))) (cy:aq->Option (ae)) (a0:aq):Option (ae):=
(jf k (ax.mk a0.Expr.Op a0.Expr.N a0.Expr.Args)).bind λy1 =>
(cJ a0.Body).bind λy2 =>
(cJ a0.Else).bind λy3 =>
some (ae.mk a0.Kind a0.Var a0.Box (Expr.mk y1.Op y1.N y1.Args) y2 y3)
def eh:Nat->(List aq->Option ((List ae)))×(aq->Option (ae))
 | 0=>((λ_=>none),(λ_=>none))
 | k+1=>(jg k (eh k).1 (eh k).2,ki k (eh k).1 (eh k).2)
def jL (k:Nat):List aq->Option ((List ae)):=(eh k).1
def oP (k:Nat):aq->Option (ae):=(eh k).2
def jM (a0:List (List aq)) (k:Nat) (s1:Int×(List (List ae))):Option ((Int×(List (List ae)))⊕((List (List ae)))):=
sel (decide (s1.1<(a0.length:Int))) ((nth a0 s1.1).bind λx1 =>
(jL k x1).bind λy4 =>
(nth s1.2 s1.1).bind λx2 =>
some (.inl (w64 (s1.1+1),(s1.2.set (Int.toNat s1.1) y4)))) <|
some (.inr s1.2)
def kj (k:Nat) (a0:List (List aq)):Option ((List (List ae))):=
(mk 24 (a0.length:Int) []).bind λr1 =>
(aB (jM a0 k) (0,r1)).bind λy1 =>
some y1
def du (k:Nat) (a0:aN):Option (aJ):=
(ms a0.Rooms).bind λy1 =>
(kj k a0.Tasks).bind λy2 =>
some (aJ.mk y1 y2)
def mt (a0:ab) (a1:ab):Option (Bool):=
sel (a0.Op !=a1.Op) (some false) <|
sel (a0.Dst !=a1.Dst) (some false) <|
sel (a0.A !=a1.A) (some false) <|
sel (a0.B !=a1.B) (some false) <|
sel (a0.N !=a1.N) (some false) <|
some true
def ig (a0:List ab) (a1:List ab) (s1:Int):Option (Int⊕(Bool⊕Unit)):=
sel (decide (s1<(a0.length:Int))) ((nth a0 s1).bind λx1 =>
(nth a1 s1).bind λx2 =>
(mt x1 x2).bind λy4 =>
sel (!y4) (some (.inr (.inl false))) <|
some (.inl (w64 (s1+1)))) <|
some (.inr (.inr ()))
def lq (a0:List ab) (a1:List ab):Option (Bool):=
sel ((a0.length:Int) !=(a1.length:Int)) (some false) <|
(aB (ig a0 a1) 0).bind λy1 =>
ia y1 (λo3=>some o3) (λo4 =>
some true)
def gw (a0:List (List ab)) (a1:List (List ab)) (s1:Int):Option (Int⊕(Bool⊕Unit)):=
sel (decide (s1<(a0.length:Int))) ((nth a0 s1).bind λx1 =>
(nth a1 s1).bind λx2 =>
(lq x1 x2).bind λy4 =>
sel (!y4) (some (.inr (.inl false))) <|
some (.inl (w64 (s1+1)))) <|
some (.inr (.inr ()))
def f0 (a0:List (List ab)) (a1:List (List ab)):Option (Bool):=
sel ((a0.length:Int) !=(a1.length:Int)) (some false) <|
(aB (gw a0 a1) 0).bind λy1 =>
ia y1 (λo3=>some o3) (λo4 =>
some true)
def jh (a0:List Int) (a1:List Int) (s1:Int):Option (Int⊕(Bool⊕Unit)):=
sel (decide (s1<(a0.length:Int))) ((nth a0 s1).bind λx1 =>
(nth a1 s1).bind λx2 =>
sel (x1 !=x2) (some (.inr (.inl false))) <|
some (.inl (w64 (s1+1)))) <|
some (.inr (.inr ()))
def mu (a0:List Int) (a1:List Int):Option (Bool):=
sel ((a0.length:Int) !=(a1.length:Int)) (some false) <|
(aB (jh a0 a1) 0).bind λy1 =>
ia y1 (λo3=>some o3) (λo4 =>
some true)
def f5 (k:Nat) (cz:Expr->Expr->Option (Bool)) (dv:List Expr->List Expr->Option (Bool)) (a0:Expr) (a1:Expr):Option (Bool):=
sel (a0.Op !=a1.Op) (some false) <|
sel (a0.N !=a1.N) (some false) <|
(dv a0.Args a1.Args).bind λy1 =>
sel (!y1) (some false) <|
some true
def ij (a0:List Expr) (a1:List Expr) (cz:Expr->Expr->Option (Bool)) (s1:Int):Option (Int⊕(Bool⊕Unit)):=
sel (decide (s1<(a0.length:Int))) ((nth a0 s1).bind λx1 =>
(nth a1 s1).bind λx2 =>
(cz (Expr.mk x1.Op x1.N x1.Args) (Expr.mk x2.Op x2.N x2.Args)).bind λy4 =>
sel (!y4) (some (.inr (.inl false))) <|
some (.inl (w64 (s1+1)))) <|
some (.inr (.inr ()))
def ji (k:Nat) (cz:Expr->Expr->Option (Bool)) (dv:List Expr->List Expr->Option (Bool)) (a0:List Expr) (a1:List Expr):Option (Bool):=
sel ((a0.length:Int) !=(a1.length:Int)) (some false) <|
(aB (ij a0 a1 cz) 0).bind λy1 =>
ia y1 (λo3=>some o3) (λo4 =>
some true)
def fb:Nat->(Expr->Expr->Option (Bool))×(List Expr->List Expr->Option (Bool))
 | 0=>((λ_ _=>none),(λ_ _=>none))
 | k+1=>(f5 k (fb k).1 (fb k).2,ji k (fb k).1 (fb k).2)
def gQ (k:Nat):Expr->Expr->Option (Bool):=(fb k).1
def lr (k:Nat):List Expr->List Expr->Option (Bool):=(fb k).2
def ik (a0:List ae) (a1:List ae) (cA:ae->ae->Option (Bool)) (s1:Int):Option (Int⊕(Bool⊕Unit)):=
sel (decide (s1<(a0.length:Int))) ((nth a0 s1).bind λx1 =>
(nth a1 s1).bind λx2 =>
(cA (ae.mk x1.Kind x1.Var x1.Box (Expr.mk x1.Expr.Op x1.Expr.N x1.Expr.Args) x1.Body x1.Else) (ae.mk x2.Kind x2.Var x2.Box (Expr.mk x2.Expr.Op x2.Expr.N x2.Expr.Args) x2.Body x2.Else)).bind λy4 =>
sel (!y4) (some (.inr (.inl false))) <|
some (.inl (w64 (s1+1)))) <|
some (.inr (.inr ()))
def jj (k:Nat) (cK:List ae->List ae->Option (Bool)) (cA:ae->ae->Option (Bool)) (a0:List ae) (a1:List ae):Option (Bool):=
sel ((a0.length:Int) !=(a1.length:Int)) (some false) <|
(aB (ik a0 a1 cA) 0).bind λy1 =>
ia y1 (λo3=>some o3) (λo4 =>
some true)
def km (k:Nat) (cK:List ae->List ae->Option (Bool)) (cA:ae->ae->Option (Bool)) (a0:ae) (a1:ae):Option (Bool):=
sel (a0.Kind !=a1.Kind) (some false) <|
sel (a0.Var !=a1.Var) (some false) <|
sel (a0.Box !=a1.Box) (some false) <|
(gQ k (Expr.mk a0.Expr.Op a0.Expr.N a0.Expr.Args) (Expr.mk a1.Expr.Op a1.Expr.N a1.Expr.Args)).bind λy1 =>
sel (!y1) (some false) <|
(cK a0.Body a1.Body).bind λy2 =>
sel (!y2) (some false) <|
(cK a0.Else a1.Else).bind λy3 =>
sel (!y3) (some false) <|
some true
def eo:Nat->(List ae->List ae->Option (Bool))×(ae->ae->Option (Bool))
 | 0=>((λ_ _=>none),(λ_ _=>none))
 | k+1=>(jj k (eo k).1 (eo k).2,km k (eo k).1 (eo k).2)
def jN (k:Nat):List ae->List ae->Option (Bool):=(eo k).1
def nv (k:Nat):ae->ae->Option (Bool):=(eo k).2
def gx (a0:List (List ae)) (a1:List (List ae)) (k:Nat) (s1:Int):Option (Int⊕(Bool⊕Unit)):=
sel (decide (s1<(a0.length:Int))) ((nth a0 s1).bind λx1 =>
(nth a1 s1).bind λx2 =>
(jN k x1 x2).bind λy4 =>
sel (!y4) (some (.inr (.inl false))) <|
some (.inl (w64 (s1+1)))) <|
some (.inr (.inr ()))
def ko (k:Nat) (a0:List (List ae)) (a1:List (List ae)):Option (Bool):=
sel ((a0.length:Int) !=(a1.length:Int)) (some false) <|
(aB (gx a0 a1 k) 0).bind λy1 =>
ia y1 (λo3=>some o3) (λo4 =>
some true)
def jk (k:Nat) (a0:aJ) (a1:aJ):Option (Bool):=
(mu a0.Rooms a1.Rooms).bind λy1 =>
sel (!y1) (some false) <|
(ko k a0.Tasks a1.Tasks).bind λy2 =>
sel (!y2) (some false) <|
some true
def gy (s1:Int×Int×(List Int)):Option ((Int×Int×(List Int))⊕(Int×(List Int))):=
sel (decide (s1.2.1<(s1.2.2.length:Int))) ((nth s1.2.2 s1.2.1).bind λx1 =>
(upd s1.2.2 s1.2.1 s1.1).bind λr1 =>
some (.inl (w64 (s1.1+1),w64 (s1.2.1+1),r1))) <|
some (.inr (s1.1,s1.2.2))
def kq (a0:List Int) (a1:Int):Option (Int×(List Int)):=
(aB (gy) (a1,0,a0)).bind λy1 =>
some (y1.1,y1.2)
def fE (et:List Expr->Int->Option (Int×(List Expr))) (s1:Int×Int×(List Expr)):Option ((Int×Int×(List Expr))⊕(Int×(List Expr))):=
sel (decide (s1.2.1<(s1.2.2.length:Int))) ((nth s1.2.2 s1.2.1).bind λx1 =>
(et x1.Args (w64 ((w64 (s1.1+1))+1))).bind λy4 =>
some (.inl (y4.1,w64 (s1.2.1+1),(s1.2.2.set (Int.toNat s1.2.1) (Expr.mk s1.1 (w64 (s1.1+1)) y4.2))))) <|
some (.inr (s1.1,s1.2.2))
def gz (k:Nat) (et:List Expr->Int->Option (Int×(List Expr))) (a0:List Expr) (a1:Int):Option (Int×(List Expr)):=
(aB (fE et) (a1,0,a0)).bind λy1 =>
some (y1.1,y1.2)
def na:Nat->(List Expr->Int->Option (Int×(List Expr)))
 | 0=>((λ_ _=>none))
 | k+1=>(gz k (na k))
def eN (k:Nat):List Expr->Int->Option (Int×(List Expr)):=(na k)
def dz (dc:List ae->Int->Option (Int×(List ae))) (k:Nat) (s1:Int×Int×(List ae)):Option ((Int×Int×(List ae))⊕(Int×(List ae))):=
sel (decide (s1.2.1<(s1.2.2.length:Int))) ((nth s1.2.2 s1.2.1).bind λx1 =>
(eN k x1.Expr.Args (w64 ((w64 ((w64 ((w64 ((w64 (s1.1+1))+1))+1))+1))+1))).bind λy4 =>
(dc x1.Body y4.1).bind λy5 =>
(dc x1.Else y5.1).bind λy6 =>
some (.inl (y6.1,w64 (s1.2.1+1),(s1.2.2.set (Int.toNat s1.2.1) (ae.mk s1.1 (w64 (s1.1+1)) (w64 ((w64 (s1.1+1))+1)) (Expr.mk (w64 ((w64 ((w64 (s1.1+1))+1))+1)) (w64 ((w64 ((w64 ((w64 (s1.1+1))+1))+1))+1)) y4.2) y5.2 y6.2))))) <|
some (.inr (s1.1,s1.2.2))
def gA (k:Nat) (dc:List ae->Int->Option (Int×(List ae))) (a0:List ae) (a1:Int):Option (Int×(List ae)):=
(aB (dz dc k) (a1,0,a0)).bind λy1 =>
some (y1.1,y1.2)
def nb:Nat->(List ae->Int->Option (Int×(List ae)))
 | 0=>((λ_ _=>none))
 | k+1=>(gA k (nb k))
def eO (k:Nat):List ae->Int->Option (Int×(List ae)):=(nb k)
def de (k:Nat) (s1:Int×Int×(List (List ae))):Option ((Int×Int×(List (List ae)))⊕(Int×(List (List ae)))):=
sel (decide (s1.2.1<(s1.2.2.length:Int))) ((nth s1.2.2 s1.2.1).bind λx1 =>
(eO k x1 s1.1).bind λy4 =>
some (.inl (y4.1,w64 (s1.2.1+1),(s1.2.2.set (Int.toNat s1.2.1) y4.2)))) <|
some (.inr (s1.1,s1.2.2))
def il (k:Nat) (a0:List (List ae)) (a1:Int):Option (Int×(List (List ae))):=
(aB (de k) (a1,0,a0)).bind λy1 =>
some (y1.1,y1.2)
def gB (k:Nat) (a0:aJ) (a1:Int):Option (Int×(List Int)×(List (List ae))):=
(kq a0.Rooms a1).bind λy1 =>
(il k a0.Tasks y1.1).bind λy2 =>
some (y2.1,y1.2,y2.2)
def fF (s1:Int×Int×(List ab)):Option ((Int×Int×(List ab))⊕(Int×(List ab))):=
sel (decide (s1.2.1<(s1.2.2.length:Int))) ((nth s1.2.2 s1.2.1).bind λx1 =>
(upd s1.2.2 s1.2.1 (ab.mk s1.1 x1.Dst x1.A x1.B x1.N)).bind λr1 =>
(nth r1 s1.2.1).bind λx2 =>
(upd r1 s1.2.1 (ab.mk x2.Op (w64 (s1.1+1)) x2.A x2.B x2.N)).bind λr2 =>
(nth r2 s1.2.1).bind λx3 =>
(upd r2 s1.2.1 (ab.mk x3.Op x3.Dst (w64 ((w64 (s1.1+1))+1)) x3.B x3.N)).bind λr3 =>
(nth r3 s1.2.1).bind λx4 =>
(upd r3 s1.2.1 (ab.mk x4.Op x4.Dst x4.A (w64 ((w64 ((w64 (s1.1+1))+1))+1)) x4.N)).bind λr4 =>
(nth r4 s1.2.1).bind λx5 =>
(upd r4 s1.2.1 (ab.mk x5.Op x5.Dst x5.A x5.B (w64 ((w64 ((w64 ((w64 (s1.1+1))+1))+1))+1)))).bind λr5 =>
some (.inl (w64 ((w64 ((w64 ((w64 ((w64 (s1.1+1))+1))+1))+1))+1),w64 (s1.2.1+1),r5))) <|
some (.inr (s1.1,s1.2.2))
def gC (a0:List ab) (a1:Int):Option (Int×(List ab)):=
(aB (fF) (a1,0,a0)).bind λy1 =>
some (y1.1,y1.2)
def eP (s1:Int×Int×(List (List ab))):Option ((Int×Int×(List (List ab)))⊕(Int×(List (List ab)))):=
sel (decide (s1.2.1<(s1.2.2.length:Int))) ((nth s1.2.2 s1.2.1).bind λx1 =>
(gC x1 s1.1).bind λy4 =>
some (.inl (y4.1,w64 (s1.2.1+1),(s1.2.2.set (Int.toNat s1.2.1) y4.2)))) <|
some (.inr (s1.1,s1.2.2))
def im (a0:List (List ab)) (a1:Int):Option (Int×(List (List ab))):=
(aB (eP) (a1,0,a0)).bind λy1 =>
some (y1.1,y1.2)
def fG (a0:List ab) (s1:Int×Int):Option ((Int×Int)⊕(Int⊕Int)):=
sel (decide (s1.2<(a0.length:Int))) ((nth a0 s1.2).bind λx1 =>
sel (x1.Op !=s1.1) (some (.inr (.inl (-1)))) <|
(nth a0 s1.2).bind λx2 =>
sel (x2.Dst !=(w64 (s1.1+1))) (some (.inr (.inl (-1)))) <|
(nth a0 s1.2).bind λx3 =>
sel (x3.A !=(w64 ((w64 (s1.1+1))+1))) (some (.inr (.inl (-1)))) <|
(nth a0 s1.2).bind λx4 =>
sel (x4.B !=(w64 ((w64 ((w64 (s1.1+1))+1))+1))) (some (.inr (.inl (-1)))) <|
(nth a0 s1.2).bind λx5 =>
sel (x5.N !=(w64 ((w64 ((w64 ((w64 (s1.1+1))+1))+1))+1))) (some (.inr (.inl (-1)))) <|
some (.inl (w64 ((w64 ((w64 ((w64 ((w64 (s1.1+1))+1))+1))+1))+1),w64 (s1.2+1)))) <|
some (.inr (.inr s1.1))
def gD (a0:List ab) (a1:Int):Option (Int):=
(aB (fG a0) (a1,0)).bind λy1 =>
ia y1 (λo3=>some o3) (λo4 =>
some o4)
def eR (a0:List (List ab)) (s1:Int×Int):Option ((Int×Int)⊕(Int⊕Int)):=
sel (decide (s1.2<(a0.length:Int))) ((nth a0 s1.2).bind λx1 =>
(gD x1 s1.1).bind λy4 =>
sel (decide (y4<0)) (some (.inr (.inl (-1)))) <|
some (.inl (y4,w64 (s1.2+1)))) <|
some (.inr (.inr s1.1))
def fc (a0:List (List ab)) (a1:Int):Option (Int):=
(aB (eR a0) (a1,0)).bind λy1 =>
ia y1 (λo3=>some o3) (λo4 =>
some o4)
def dS (k:Nat) (a0:aN) (a1:Int):Option (Bool):=
(jd k (aN.mk a0.Rooms a0.Tasks) 1048576).bind λy1 =>
sel (decide (y1<0)) (some true) <|
(du k (aN.mk a0.Rooms a0.Tasks)).bind λy2 =>
(dH k (aJ.mk y2.Rooms y2.Tasks) a1).bind λy3 =>
(du k (aN.mk a0.Rooms a0.Tasks)).bind λy4 =>
(cR k (aJ.mk y4.Rooms y4.Tasks) a1).bind λy5 =>
(f0 y5.1 y3.1).bind λy6 =>
sel ((!y6)||(y5.2 !=y3.2)) (some false) <|
(du k (aN.mk a0.Rooms a0.Tasks)).bind λy7 =>
(jk k (aJ.mk y4.Rooms y4.Tasks) (aJ.mk y7.Rooms y7.Tasks)).bind λy8 =>
sel (!y8) (some false) <|
(gB k (aJ.mk y4.Rooms y4.Tasks) 1).bind λy9 =>
(sel (decide (y9.1<0)) (some true) ((f0 y5.1 y3.1).bind λy10=>some (!y10)):Option (Bool)).bind λb1 =>
sel (b1||(y5.2 !=y3.2)) (some false) <|
(im y5.1 1).bind λy11 =>
(fc y11.2 1).bind λy12 =>
sel (decide (y12<0)) (some false) <|
sel (y12 !=y11.1) (some false) <|
(du k (aN.mk a0.Rooms a0.Tasks)).bind λy13 =>
(cR k (aJ.mk y13.Rooms y13.Tasks) a1).bind λy14 =>
(f0 y14.1 y3.1).bind λy15 =>
sel ((!y15)||(y14.2 !=y3.2)) (some false) <|
(fc y11.2 1).bind λy16 =>
sel (decide (y16<0)) (some false) <|
sel (y16 !=y11.1) (some false) <|
some true
end
end Go.Proofs.YtmjebmhcbnkojaaGreat.N
namespace Go.Proofs.YtmjebmhcbnkojaaGreat.X
noncomputable section
variable {σ τ ρ ρ' α:Type}
theorem AG (x:Int):w64 x=if 9223372036854775808<=x%18446744073709551616 then x%18446744073709551616-18446744073709551616 else x%18446744073709551616:=by
 show IntKind.wrap .i64 x=_
 simp [IntKind.wrap,IntKind.signed,IntKind.bits]
theorem jX {x:Int} (h1 : -9223372036854775808<=x) (h2:x<=9223372036854775807):w64 x=x:=by
 rw [AG]
 split <;> omega
theorem ze {f:σ->Option (σ⊕ρ)} (st:Nat->σ) (n:Nat) {r:ρ} (h:∀ i,i<n->f (st i)=some (.inl (st (i+1)))) (he:f (st n)=some (.inr r)):aB f (st 0)=some r:=by
 have key:∀ m,m<=n->aB f (st (n-m))=some r:=by
  intro m
  induction m with
  | zero=>intro _; rw [bn]; simp [he]
  | succ m ih =>
   intro hm
   rw [bn,h (n-(m+1)) (by omega)]
   have:=ih (by omega)
   rw [show n-m=n-(m+1)+1 by omega] at this
   exact this
 have:=key n (Nat.le_refl n)
 rwa [Nat.sub_self] at this
theorem AH {f:σ->Option (σ⊕ρ)} (I:σ->Prop) (μ:σ->Nat) (Q:ρ->Prop) (h:∀ s,I s->(∃ s',f s=some (.inl s')/\I s'/\μ s'<μ s)\/(∃ r,f s=some (.inr r)/\Q r)):∀ {s:σ},I s->∃ r,aB f s=some r/\Q r:=by
 have key:∀ n s,μ s<=n->I s->∃ r,aB f s=some r/\Q r:=by
  intro n
  induction n with
  | zero =>
   intro s hs hI
   rcases h s hI with ⟨s',_,_,h3⟩ | ⟨r,h1,h2⟩
   ·omega
   ·exact ⟨r,by rw [bn,h1],h2⟩
  | succ n ih =>
   intro s hs hI
   rcases h s hI with ⟨s',h1,h2,h3⟩ | ⟨r,h1,h2⟩
   ·obtain ⟨r,k1,k2⟩:=ih s' (by omega) h2
    exact ⟨r,by rw [bn,h1]; exact k1,k2⟩
   ·exact ⟨r,by rw [bn,h1],h2⟩
 exact λ{s} hI=>key _ s (Nat.le_refl _) hI
theorem xH {f:σ->Option (σ⊕ρ)} {g:τ->Option (τ⊕ρ')} (R:σ->τ->Prop) (μ:σ->Nat) (Q:ρ->ρ'->Prop)
  (h:∀ s t,R s t->(∃ s' t',f s=some (.inl s')/\g t=some (.inl t')/\R s' t'/\μ s'<μ s)\/(∃ r r',f s=some (.inr r)/\g t=some (.inr r')/\Q r r')):∀ {s:σ} {t:τ},R s t->∃ r r',aB f s=some r/\aB g t=some r'/\Q r r':=by
 have key:∀ n s t,μ s<=n->R s t->∃ r r',aB f s=some r/\aB g t=some r'/\Q r r':=by
  intro n
  induction n with
  | zero =>
   intro s t hs hI
   rcases h s t hI with ⟨s',t',_,_,_,h3⟩ | ⟨r,r',h1,h2,h3⟩
   ·omega
   ·exact ⟨r,r',by rw [bn,h1],by rw [bn,h2],h3⟩
  | succ n ih =>
   intro s t hs hI
   rcases h s t hI with ⟨s',t',h1,h2,h3,h4⟩ | ⟨r,r',h1,h2,h3⟩
   ·obtain ⟨r,r',k1,k2,k3⟩:=ih s' t' (by omega) h3
    exact ⟨r,r',by rw [bn,h1]; exact k1,by rw [bn,h2]; exact k2,k3⟩
   ·exact ⟨r,r',by rw [bn,h1],by rw [bn,h2],h3⟩
 exact λ{s t} hI=>key _ s t (Nat.le_refl _) hI
theorem gF {l:List α} {i:Nat} (h:i<l.length):nth l (i:Int)=some l[i]:=by
 unfold nth
 rw [if_neg (by omega)]
 simp [List.getElem?_eq_getElem h]
theorem wI {l:List α} {i:Nat} (h:i<l.length) (x:α):upd l (i:Int) x=some (l.set i x):=by
 unfold upd
 rw [if_pos ⟨by omega,by omega⟩]
 simp
theorem Cp {bytes:Nat} {l m:List α} (h:(l.length+m.length)*bytes<=140737488355328):app bytes l m=some (l++m):=by
 unfold app B6
 rw [Nat.ble_eq_true_of_le h]
theorem zf {bytes n:Nat} {z:α} (h:n*bytes<=281474976710656):mk bytes (n:Int) z=some (List.replicate n z):=by
 unfold mk
 rw [if_neg (by omega),show ((n:Int)).toNat=n by omega,Nat.ble_eq_true_of_le h]
theorem a9 {α:Type} {b:Bool} (h:b=true) (x y:α):sel b x y=x:=by subst h; rfl
theorem aj {α:Type} {b:Bool} (h:b=false) (x y:α):sel b x y=y:=by subst h; rfl
theorem mg {i:Nat} (h:i<=9223372036854775806):w64 ((i:Int)+1)=((i+1:Nat):Int):=by rw [jX (by omega) (by omega)]; omega
theorem pE {f:Int->Option (Int⊕(Bool⊕Unit))} {l:List α} (hl:l.length<=9223372036854775806) (h:∀ (i:Nat) (hi:i<l.length),f (i:Int)=some (.inl (w64 ((i:Int)+1)))) (he:f (l.length:Int)=some (.inr (.inr ()))):aB f 0=some (.inr ()):=by
 have:=ze (f:=f) (λi=>(i:Int)) l.length (λi hi=>by rw [h i hi,mg (by omega)]) he
 exact this
def oQ (mk:α->Int->Option (Int×α)):List α->Int->Option (Int×List α)
 | [],k=>some (k,[])
 | x::xs,k=>match mk x k with
  | some (k1,x')=>match oQ mk xs k1 with
   | some (k2,xs')=>some (k2,x'::xs')
   | none=>none
  | none=>none
theorem pG {f:Int×Int×List α->Option ((Int×Int×List α)⊕(Int×List α))} (mk:α->Int->Option (Int×α))
  (h:∀ k (l:List α) (i:Nat) (hi:i<l.length) k' x',mk l[i] k=some (k',x')->l.length<=9223372036854775806->f (k,(i:Int),l)=some (.inl (k',((i+1:Nat):Int),l.set i x')))
  (he:∀ k (l:List α),f (k,(l.length:Int),l)=some (.inr (k,l))):∀ {l:List α} {k:Int} {r:Int×List α},l.length<=9223372036854775806->oQ mk l k=some r->aB f (k,0,l)=some r:=by
 have key:∀ (l pre:List α) (k:Int) (r:Int×List α),(pre++l).length<=9223372036854775806->oQ mk l k=some r->aB f (k,(pre.length:Int),pre++l)=some (r.1,pre++r.2):=by
  intro l
  induction l with
  | nil =>
   intro pre k r hl hm
   simp only [oQ,Option.some.injEq] at hm
   subst hm
   rw [bn,List.append_nil,he]
  | cons x xs ih =>
   intro pre k r hl hm
   simp only [oQ] at hm
   split at hm
   ·rename_i k1 x' h1
    split at hm
    ·rename_i k2 xs' h2
     simp only [Option.some.injEq] at hm
     subst hm
     have hlt:pre.length<(pre++x::xs).length:=by simp
     have hg:(pre++x::xs)[pre.length]'hlt=x:=by simp
     rw [bn,h k (pre++x::xs) pre.length hlt k1 x' (by rw [hg]; exact h1) hl]
     have:=ih (pre++[x']) k1 (k2,xs') (by simpa using hl) h2
     simp only [List.length_append,List.length_singleton,List.append_assoc,List.singleton_append] at this
     simp only
     rw [show (pre++x::xs).set pre.length x'=pre++x'::xs by simp]
     exact this
    ·cases hm
   ·cases hm
 intro l k r hl hm
 have:=key l [] k r (by simpa using hl) hm
 simpa using this
def xI (hd:α->Int->Int->Prop):List α->Int->Int->Prop
 | [],k,k'=>k'=k
 | x::xs,k,k'=>∃ k1,hd x k k1/\xI hd xs k1 k'
theorem wo {f:Int×Int->Option ((Int×Int)⊕(Int⊕Int))} {l:List α} (hd:α->Int->Int->Prop) (hl:l.length<=9223372036854775806)
  (h:∀ k (i:Nat) (hi:i<l.length) k',hd l[i] k k'->f (k,(i:Int))=some (.inl (k',((i+1:Nat):Int)))) (he:∀ k,f (k,(l.length:Int))=some (.inr (.inr k))):∀ {k k':Int},xI hd l k k'->aB f (k,0)=some (.inr k'):=by
 have key:∀ (xs pre:List α) (k k':Int),pre++xs=l->xI hd xs k k'->aB f (k,(pre.length:Int))=some (.inr k'):=by
  intro xs
  induction xs with
  | nil =>
   intro pre k k' hp hh
   have:k'=k:=hh
   subst this
   rw [List.append_nil] at hp
   subst hp
   rw [bn,he]
  | cons x xs ih =>
   intro pre k k' hp ⟨k1,h1,h2⟩
   have hlt:pre.length<l.length:=by rw [<-hp]; simp
   have hg:l[pre.length]'hlt=x:=by subst hp; simp
   rw [bn,h k pre.length hlt k1 (by rw [hg]; exact h1)]
   have:=ih (pre++[x]) k1 k' (by rw [<-hp]; simp) h2
   simpa using this
 intro k k' hh
 exact key l [] k k' rfl hh
def MH (mk:α->Int->Option (Int×α)) (hd:α->Int->Int->Prop) (sz:α->Nat):Prop:=
 ∀ x (k:Int),1<=k->k+sz x<=1000000000000->∃ x',mk x k=some (k+sz x,x')/\hd x' k (k+sz x)
def szs (sz:α->Nat):List α->Nat
 | []=>0
 | x::xs=>sz x+szs sz xs
theorem MH.list {mk:α->Int->Option (Int×α)} {hd:α->Int->Int->Prop} {sz:α->Nat} (h:MH mk hd sz):∀ (l:List α) (k:Int),1<=k->k+szs sz l<=1000000000000->∃ l',oQ mk l k=some (k+szs sz l,l')/\xI hd l' k (k+szs sz l)/\l'.length=l.length
 | [],k,_,_=>⟨[],by simp [oQ,szs],by simp [xI,szs],rfl⟩
 | x::xs,k,h1,h2=>by
  simp only [szs] at h2
  obtain ⟨x',k1,k2⟩:=h x k h1 (by omega)
  obtain ⟨l',k3,k4,k5⟩:=MH.list h xs (k+sz x) (by omega) (by omega)
  refine ⟨x'::l',?_,⟨_,k2,?_⟩,by simp [k5]⟩
  ·simp only [oQ,k1,k3,szs]
   congr 2
   omega
  ·rw [show k+(szs sz (x::xs):Nat)=k+sz x+szs sz xs by simp only [szs]; omega]
   exact k4
theorem zg:∀ (l:List α),szs (λ_=>1) l=l.length
 | []=>rfl
 | x::xs=>by simp only [szs,zg xs,List.length_cons]; omega
end
noncomputable section
variable {α β σ ρ:Type} {Q:α->Prop} {x y:Option α} {b:Bool} {l m:List α} {i:Int}
def Tot (x:Option α) (Q:α->Prop):Prop:=∃ r,x=some r/\Q r
theorem Tot.pure {r:α} (h:Q r):Tot (some r) Q:=⟨r,rfl,h⟩
theorem Tot.bind {x:Option β} {f:β->Option α} {P:β->Prop} (h:Tot x P) (k:∀ r,P r->Tot (f r) Q):Tot (x.bind f) Q:=by
 obtain ⟨r,rfl,hr⟩:=h
 exact k r hr
theorem Tot.mono {P:α->Prop} (h:Tot x P) (k:∀ r,P r->Q r):Tot x Q:=by
 obtain ⟨r,e,hr⟩:=h
 exact ⟨r,e,k r hr⟩
theorem Tot.sel (ht:b=true->Tot x Q) (hf:b=false->Tot y Q):Tot (X.sel b x y) Q:=by
 cases b
 ·exact hf rfl
 ·exact ht rfl
theorem Tot.st (h:b=true) (k:Tot x Q):Tot (X.sel b x y) Q:=by subst h; exact k
theorem Tot.sf (h:b=false) (k:Tot y Q):Tot (X.sel b x y) Q:=by subst h; exact k
theorem Tot.both {A B:Type} {s:A⊕B} {f:A->Option α} {g:B->Option α} (hl:∀ a,s=.inl a->Tot (f a) Q) (hr:∀ a,s=.inr a->Tot (g a) Q):Tot (X.ia s f g) Q:=by
 cases s
 ·exact hl _ rfl
 ·exact hr _ rfl
theorem Tot.eq {r:α} (h:Tot x (λz=>z=r)):x=some r:=by
 obtain ⟨z,e,rfl⟩:=h
 exact e
theorem Tot.of {r:α} (h:x=some r) (k:Q r):Tot x Q:=⟨r,h,k⟩
theorem Tot.nth (h0:0<=i) (h1:i<l.length):Tot (X.nth l i) (λz=>l[i.toNat]?=some z/\z∈l):=by
 have h2:i.toNat<l.length:=by omega
 refine ⟨l[i.toNat],?_,List.getElem?_eq_getElem h2,List.getElem_mem h2⟩
 unfold X.nth
 rw [if_neg (by omega),List.getElem?_eq_getElem h2]
theorem Tot.upd {z:α} (h0:0<=i) (h1:i<l.length):Tot (X.upd l i z) (λr=>r=l.set i.toNat z):=by
 refine ⟨_,?_,rfl⟩
 unfold X.upd
 rw [if_pos ⟨h0,h1⟩]
theorem Tot.app {bytes:Nat} (h:(l.length+m.length)*bytes<=140737488355328):Tot (X.app bytes l m) (λr=>r=l++m):=⟨_,Cp h,rfl⟩
theorem Tot.mk {bytes:Nat} {n:Int} {z:α} (h0:0<=n) (h:n.toNat*bytes<=281474976710656):Tot (X.mk bytes n z) (λr=>r=List.replicate n.toNat z):=by
 refine ⟨_,?_,rfl⟩
 unfold X.mk
 rw [if_neg (by omega),Nat.ble_eq_true_of_le h]
theorem Tot.cut {lo hi:Int} (h:0<=lo/\lo<=hi/\hi<=l.length):Tot (X.cut l lo hi) (λr=>r=(l.take hi.toNat).drop lo.toNat):=by
 refine ⟨_,?_,rfl⟩
 unfold X.cut
 rw [if_pos h]
theorem Tot.rem {a c:Int} (h:c≠0):Tot (sh a c) (λr=>r=a.tmod c):=⟨_,by unfold sh; rw [if_neg h],rfl⟩
theorem Tot.quo {k:IntKind} {a c:Int} (h:c≠0):Tot (vL k a c) (λr=>r=nG k (a.tdiv c)):=⟨_,by unfold vL; rw [if_neg h],rfl⟩
theorem Tot.iter {f:σ->Option (σ⊕α)} (I:σ->Prop) (μ:σ->Nat) {s:σ} (h0:I s)
  (h:∀ s,I s->Tot (f s) (λz=>match z with | .inl s'=>I s'/\μ s'<μ s | .inr r=>Q r)):Tot (X.aB f s) Q:=by
 obtain ⟨r,h1,h2⟩:=AH I μ Q (λs hs=>by
  obtain ⟨z,e,hz⟩:=h s hs
  cases z with
  | inl s'=>exact .inl ⟨s',e,hz.1,hz.2⟩
  | inr r=>exact .inr ⟨r,e,hz⟩) h0
 exact ⟨r,h1,h2⟩
theorem Tot.inl {ρ:Type} {r:σ} {P:σ⊕ρ->Prop} (h:P (.inl r)):Tot (some (.inl r)) P:=⟨_,rfl,h⟩
theorem Tot.inr {ρ:Type} {r:ρ} {P:σ⊕ρ->Prop} (h:P (.inr r)):Tot (some (.inr r)) P:=⟨_,rfl,h⟩
theorem Tot.and {P:α->Prop} (h:Tot x P) (k:Tot x Q):Tot x (λr=>P r/\Q r):=by
 obtain ⟨r,rfl,hr⟩:=h
 obtain ⟨r',e,hr'⟩:=k
 injection e with e
 subst e
 exact ⟨r,rfl,hr,hr'⟩
theorem au {i:Int} (h0:0<=i) (h:i<=9223372036854775806):w64 (i+1)=i+1:=jX (by omega) (by omega)
theorem a8 {i:Int} (h0 : -4611686018427387904<=i) (h:i<=4611686018427387904):w64 i=i:=jX (by omega) (by omega)
theorem pH {a z:α} {k:Nat} (h:a∈l.set k z):a∈l\/a=z:=List.mem_or_eq_of_mem_set h
end
end Go.Proofs.YtmjebmhcbnkojaaGreat.X
namespace Go.Proofs.YtmjebmhcbnkojaaGreat.N
open Go.Proofs.YtmjebmhcbnkojaaGreat.X
noncomputable section
theorem oS (n a b:Int):bh n a b=some (decide (a<=n)&&decide (n<=b)):=rfl
def Wd (n:Int):Prop:=-2147483648<=n/\n<=2147483647
instance (n:Int):Decidable (Wd n):=instDecidableAnd
theorem zh (n:Int):bL n=some (decide (Wd n)):=by
 unfold bL
 rw [oS]
 simp only [ob9]
 congr 1
 unfold Wd
 by_cases h1 : -2147483648<=n <;> by_cases h2:n<=2147483647 <;> simp [h1,h2]
theorem oT (n:Int):Tot (eX n) Wd:=by
 unfold eX
 have h1 : -4294967296<n.tmod 4294967296:=by
  rcases Int.le_total 0 n with h | h
  ·have:=Int.tmod_nonneg 4294967296 h; omega
  ·have:=Int.tmod_nonneg 4294967296 (show 0 <= -n by omega); rw [Int.neg_tmod] at this
   have:=Int.tmod_lt_of_pos (-n) (show (0:Int)<4294967296 by omega); rw [Int.neg_tmod] at this; omega
 have h2:=Int.tmod_lt_of_pos n (show (0:Int)<4294967296 by omega)
 refine .sel (λh=>.pure ?_) λh=>.sel (λh'=>.pure ?_) λh'=>.pure ?_
 all_goals simp only [decide_eq_true_eq,decide_eq_false_iff_not] at *
 ·rw [a8 (by omega) (by omega)]; unfold Wd; omega
 ·rw [a8 (by omega) (by omega)]; unfold Wd; omega
 ·unfold Wd; omega
def By (b:List Int):Prop:=b.length<=2000/\∀ x∈b,0<=x/\x<=255
def Dr {α:Type} (x:Option (α×Int)) (m:Int) (Q:α->Prop):Prop:=Tot x λr=>0<=r.2/\r.2<=m/\Q r.1
theorem yt {a c:Nat} (ha:a<9223372036854775808) (hc:c<9223372036854775808):bj .xor .i64 (a:Int) (c:Int)=((a ^^^ c:Nat):Int):=by
 have h1:∀ n:Nat,n<9223372036854775808->(BitVec.ofInt 64 (n:Int)).toNat=n:=λn hn=>by
  simp only [BitVec.ofInt_natCast,BitVec.toNat_ofNat]
  exact Nat.mod_eq_of_lt (by omega)
 show IntKind.wrap .i64 ((BitVec.ofInt 64 (a:Int) ^^^ BitVec.ofInt 64 (c:Int)).toNat:Int)=_
 rw [BitVec.toNat_xor,h1 a ha,h1 c hc]
 have:=Nat.xor_lt_two_pow (n:=63) ha hc
 exact jX (x:=((a ^^^ c:Nat):Int)) (by omega) (by omega)
theorem CV {b:List Int} {p n:Int} (hb:By b) (h0:0<=p) (hp:p<=1000000000) (hn:1<=n) (hn':n<=1000000):Tot (oM ⟨b,p⟩ n) λr=>r.2=p+1/\0<=r.1/\r.1<n:=by
 obtain ⟨hl,hx⟩:=hb
 have e1:w64 (p+1)=p+1:=a8 (by omega) (by omega)
 have e2:w64 (p+1-1)=p:=by rw [a8 (by omega) (by omega)]; omega
 unfold oM
 simp only [e1,e2]
 refine .sel (λ_=>.pure ⟨rfl,by omega,by omega⟩) λhh=>?_
 simp only [Bool.or_eq_false_iff,decide_eq_false_iff_not,beq_eq_false_iff_ne] at hh
 have hl0:0<(b.length:Int):=by omega
 refine .sel (λh=>?_) λh=>?_
 ·simp only [decide_eq_true_eq] at h
  refine .bind (.nth h0 h) λx ⟨_,hm⟩=>?_
  have:=hx x hm
  refine .bind (.rem (by omega)) λd hd=>.pure ⟨rfl,?_,?_⟩
  all_goals (rw [a8 (by omega) (by omega)] at hd; subst hd)
  ·exact Int.tmod_nonneg _ (by omega)
  ·exact Int.tmod_lt_of_pos _ (by omega)
 ·refine .bind (.rem (by omega)) λd hd=>?_
  have hd1:0<=d/\d<b.length:=by subst hd; exact ⟨Int.tmod_nonneg _ h0,Int.tmod_lt_of_pos _ hl0⟩
  refine .bind (.nth hd1.1 hd1.2) λx ⟨_,hm⟩=>?_
  have hx1:=hx x hm
  refine .bind (.rem (by omega)) λd' hd'=>?_
  have e3:w64 (w64 (p*7)+3)=p*7+3:=by rw [a8 (i:=p*7) (by omega) (by omega),a8 (by omega) (by omega)]
  have hd2:0<=d'/\d'<b.length:=by rw [e3] at hd'; subst hd'; exact ⟨Int.tmod_nonneg _ (by omega),Int.tmod_lt_of_pos _ hl0⟩
  refine .bind (.nth hd2.1 hd2.2) λx' ⟨_,hm'⟩=>?_
  have hx2:=hx x' hm'
  refine .bind (.quo (by omega)) λq hq=>?_
  have hq1:0<=q/\q<=p:=by
   have h1:0<=p.tdiv b.length:=Int.tdiv_nonneg h0 (by omega)
   have h2:p.tdiv b.length<=p:=by
    obtain ⟨k,rfl⟩:=Int.eq_ofNat_of_zero_le h0
    exact Int.ofNat_le.2 (Nat.div_le_self k b.length)
   have:q=w64 (p.tdiv b.length):=hq
   rw [a8 (by omega) (by omega)] at this
   omega
  have hv:∃ m:Nat,w64 (w64 (w64 (w64 (w64 x*131)+w64 (w64 x'*1117))+w64 (p*29))+w64 (q*53))=(m:Int)/\m<1000000000000:=by
   rw [a8 (i:=x) (by omega) (by omega),a8 (i:=x') (by omega) (by omega),a8 (i:=x*131) (by omega) (by omega),a8 (i:=x'*1117) (by omega) (by omega),a8 (i:=p*29) (by omega) (by omega),a8 (i:=q*53) (by omega) (by omega),
    a8 (i:=x*131+x'*1117) (by omega) (by omega),a8 (i:=x*131+x'*1117+p*29) (by omega) (by omega),a8 (i:=x*131+x'*1117+p*29+q*53) (by omega) (by omega)]
   exact ⟨(x*131+x'*1117+p*29+q*53).toNat,by omega,by omega⟩
  obtain ⟨m,hm1,hm2⟩:=hv
  rw [hm1]
  have hdiv:w64 (Int.tdiv (m:Int) 64)=((m/64:Nat):Int):=by
   rw [show Int.tdiv (m:Int) 64=((m/64:Nat):Int) from rfl]
   exact a8 (by omega) (by omega)
  rw [hdiv,yt (by omega) (by omega)]
  refine .bind (.rem (by omega)) λd2 hd2=>.pure ⟨rfl,?_,?_⟩
  all_goals subst hd2
  ·exact Int.tmod_nonneg _ (by omega)
  ·exact Int.tmod_lt_of_pos _ (by omega)
theorem Dr.bind {α β:Type} {x:Option (α×Int)} {f:α×Int->Option (β×Int)} {m m':Int} {P:α->Prop} {Q:β->Prop} (h:Dr x m P) (k:∀ a p,P a->0<=p->p<=m->Dr (f (a,p)) m' Q):Dr (x.bind f) m' Q:=
 Tot.bind h λr hr=>k r.1 r.2 hr.2.2 hr.1 hr.2.1
theorem Dr.mono {α:Type} {x:Option (α×Int)} {m m':Int} {P Q:α->Prop} (h:Dr x m P) (hm:m<=m') (k:∀ a,P a->Q a):Dr x m' Q:=Tot.mono h λr hr=>⟨hr.1,by omega,k _ hr.2.2⟩
def Rg (r:Int):Prop:=0<=r/\r<=11
instance (r:Int):Decidable (Rg r):=instDecidableAnd
def QOk (m:Int) (q:ab):Prop:=
 (q.Op=1/\Rg q.Dst/\q.A=0/\q.B=0/\Wd q.N)\/(q.Op=2/\Rg q.Dst/\Rg q.A/\q.B=0/\q.N=0)\/(q.Op=3/\Rg q.Dst/\Rg q.A/\Rg q.B/\1<=q.N/\q.N<=12) \/
 (q.Op=4/\q.Dst=0/\q.A=0/\q.B=0/\0<=q.N/\q.N<m)\/(q.Op=5/\q.Dst=0/\Rg q.A/\q.B=0/\0<=q.N/\q.N<m) \/
 (q.Op=6/\q.Dst=0/\Rg q.A/\q.B=0/\0<=q.N/\q.N<=2)\/(q.Op=7/\Rg q.Dst/\q.A=0/\q.B=0/\0<=q.N/\q.N<=2) \/
 (q.Op=9/\q.Dst=0/\Rg q.A/\q.B=0/\q.N=0)\/((q.Op=8\/q.Op=10)/\q.Dst=0/\q.A=0/\q.B=0/\q.N=0)
instance (m:Int) (q:ab):Decidable (QOk m q):=by unfold QOk; infer_instance
theorem Cr (x:Int) (u:Bool):i3 x u=some (if u then decide (Rg x) else x==0):=by
 unfold i3
 cases u
 ·rfl
 ·simp only [oS,sel,ob9,if_true]
  congr 1
  unfold Rg
  by_cases h1:0<=x <;> by_cases h2:x<=11 <;> simp [h1,h2]
theorem BC (q:ab) (u v w:Bool):bP q u v w=some ((if u then decide (Rg q.Dst) else q.Dst==0)&&((if v then decide (Rg q.A) else q.A==0)&&(if w then decide (Rg q.B) else q.B==0))):=by
 unfold bP
 simp only [Cr,ob9]
 cases h1:(if u then decide (Rg q.Dst) else q.Dst==0) <;> cases h2:(if v then decide (Rg q.A) else q.A==0) <;> simp [sel]
theorem nY (n:Int):dP n=some (decide (1<=n/\n<=12)):=by
 unfold dP
 rw [oS]
 simp only [ob9]
 congr 1
 by_cases h1:1<=n <;> by_cases h2:n<=12 <;> simp [h1,h2]
theorem zi (b v:Bool):sel b (some v) (some false)=some (b&&v):=by cases b <;> rfl
theorem AJ (b v:Bool):sel b (some b) (some v)=some (b||v):=by cases b <;> rfl
theorem wJ (q:ab) (m:Int):eK q m=some (decide (QOk m q)):=by
 refine Tot.eq ?_
 unfold eK
 simp only [BC,zh,nY,oS,ob9,zi,AJ]
 have key:∀ b:Bool,(b=true↔QOk m q)->Tot (some b) (λz=>z=decide (QOk m q)):=λb h=>.pure (by
  cases b
  ·exact (decide_eq_false λhq=>by simpa using h.2 hq).symm
  ·exact (decide_eq_true (h.1 rfl)).symm)
 refine .sel (λh=>key _ ?_) λh1=>.sel (λh=>key _ ?_) λh2=>.sel (λh=>key _ ?_) λh3=>.sel (λh=>key _ ?_) λh4=>.sel (λh=>key _ ?_) λh5=>.sel (λh=>key _ ?_) λh6=>.sel (λh=>key _ ?_) λh7=>.sel (λh=>key _ ?_) λh8=>key _ ?_
 all_goals
  simp only [beq_iff_eq,beq_eq_false_iff_ne,Bool.or_eq_true,Bool.or_eq_false_iff,ne_eq] at *
  simp [QOk, *,and_assoc]
def yu (eQ:List ab):Prop:=∃ q,eQ.getLast?=some q/\(q.Op=10\/q.Op=4)
structure COk (eQ:List ab):Prop where
 one:1<=eQ.length
 max:eQ.length<=600
 q:∀ q∈eQ,QOk eQ.length q
 last:yu eQ
theorem qk (eQ:List ab) (hl:eQ.length<=4611686018427387904):Tot (aO eQ) λb=>b=true↔COk eQ:=by
 unfold aO
 simp only [oS,ob9]
 refine .sel (λh=>.pure ?_) λh=>?_
 ·simp only [Bool.not_eq_true',Bool.and_eq_false_iff,decide_eq_false_iff_not] at h
  exact ⟨λh=>by simp at h,λhc=>by have:=hc.one; have:=hc.max; omega⟩
 simp only [Bool.not_eq_false',Bool.and_eq_true,decide_eq_true_eq] at h
 refine .bind (P:=λz=>match z with | .inl b=>b=false/\¬ COk eQ | .inr _=>∀ q∈eQ,QOk eQ.length q) (.iter (λi:Int=>0<=i/\i<=eQ.length/\∀ (j:Nat) (q:ab),(j:Int)<i->eQ[j]?=some q->QOk eQ.length q) (λi=>(eQ.length-i).toNat) ⟨by omega,by omega,λj q h=>by omega⟩ λi ⟨h0,h1,h2⟩=>?_) λz hz=>?_
 ·unfold la
  refine .sel (λh=>?_) λh=>.inr ?_
  ·simp only [decide_eq_true_eq] at h
   refine .bind (.nth h0 h) λq ⟨hq,hm⟩=>?_
   rw [wJ,ob9]
   refine .sel (λhv=>.inr ⟨rfl,λhc=>?_⟩) λhv=>.inl ?_
   ·simp only [Bool.not_eq_true',decide_eq_false_iff_not] at hv
    exact hv (hc.q q hm)
   ·simp only [Bool.not_eq_false',decide_eq_true_eq] at hv
    rw [au h0 (by omega)]
    refine ⟨⟨by omega,by omega,λj q' hj hq'=>?_⟩,by omega⟩
    by_cases e:(j:Int)=i
    ·have:j=i.toNat:=by omega
     subst this
     rw [hq] at hq'
     injection hq' with hq'
     exact hq'▸hv
    ·exact h2 j q' (by omega) hq'
  ·simp only [decide_eq_false_iff_not] at h
   intro q hq
   obtain ⟨j,hj,rfl⟩:=List.getElem_of_mem hq
   exact h2 j _ (by omega) (List.getElem?_eq_getElem hj)
 ·refine .both (λb e=>?_) λ_ e=>?_
  ·subst e
   exact .pure ⟨λh=>by rw [hz.1] at h; simp at h,λh=>absurd h hz.2⟩
  ·subst e
   have hq:∀ q∈eQ,QOk eQ.length q:=hz
   rw [a8 (by omega) (by omega)]
   refine .bind (.nth (by omega) (by omega)) λx ⟨hx,_⟩=>?_
   have hgl:eQ.getLast?=some x:=by rw [List.getLast?_eq_getElem?]; rw [<-hx]; congr 1; omega
   have hlast:yu eQ↔(x.Op=10\/x.Op=4):=⟨λ⟨y,h1,h2⟩=>by rw [hgl] at h1; injection h1 with h1; exact h1▸h2,λh=>⟨x,hgl,h⟩⟩
   refine .bind (P:=λb=>b=true↔(x.Op=10\/x.Op=4)) (.sel (λh=>.pure ?_) λh=>.bind (.nth (by omega) (by omega)) λy ⟨hy,_⟩=>.pure ?_) λb hb=>.pure ⟨λh=>⟨by omega,by omega,hq,hlast.2 (hb.1 h)⟩,λhc=>hb.2 (hlast.1 hc.last)⟩
   ·simp only [beq_iff_eq] at h; simp [h]
   ·rw [hx] at hy
    injection hy with hy
    subst hy
    simp only [beq_eq_false_iff_ne,ne_eq] at h
    simp [h]
theorem aM {eQ:List ab} (h:COk eQ):aO eQ=some true:=by
 obtain ⟨b,e,hb⟩:=qk eQ (by have:=h.max; omega)
 rw [e,hb.2 h]
theorem tE {eQ:List ab} (hl:eQ.length<=4611686018427387904) (h:¬ COk eQ):aO eQ=some false:=by
 obtain ⟨b,e,hb⟩:=qk eQ hl
 cases b
 ·exact e
 ·exact absurd (hb.1 rfl) h
theorem COk.nxt {eQ:List ab} (h:COk eQ) {i:Nat} {q:ab} (hi:eQ[i]?=some q) (h1:q.Op≠10) (h2:q.Op≠4):i+1<eQ.length:=by
 obtain ⟨x,hx,hx'⟩:=h.last
 have hlt:i<eQ.length:=by
  rcases Nat.lt_or_ge i eQ.length with h | h
  ·exact h
  ·rw [List.getElem?_eq_none h] at hi; cases hi
 rcases Nat.lt_or_ge (i+1) eQ.length with h3 | h3
 ·exact h3
 ·rw [List.getLast?_eq_getElem?,show eQ.length-1=i by omega,hi] at hx
  injection hx with hx
  subst hx
  rcases hx' with h | h
  ·exact absurd h h1
  ·exact absurd h h2
theorem uA {eQ:List ab} (h:COk eQ) {i:Int} (h0:0<=i) (h1:i<eQ.length):Tot (dh eQ i) λl=>l.length<=2/\∀ x∈l,0<=x/\x<eQ.length:=by
 unfold dh
 refine .bind (.nth h0 h1) λq ⟨hq,hm⟩=>?_
 have hv:=h.q q hm
 have hlen:=h.max
 have h2:q.Op≠10->q.Op≠4->i+1<eQ.length:=λha hb=>by have:=h.nxt hq ha hb; omega
 rw [au h0 (by omega)]
 refine .sel (λh=>.pure (by simp)) λe1=>.sel (λh=>.pure ?_) λe2=>?_
 ·simp only [beq_iff_eq] at h
  simp only [List.length_singleton,List.mem_singleton,forall_eq]
  unfold QOk at hv
  omega
 simp only [beq_eq_false_iff_ne,ne_eq] at e1 e2
 have h3:=h2 e1 e2
 refine .sel (λh=>.pure ?_) λ_=>.sel (λh=>.pure ?_) λ_=>.pure (by simp; omega)
 all_goals
  simp only [Bool.and_eq_true,beq_iff_eq,decide_eq_true_eq] at h
  simp only [List.length_cons,List.length_nil,List.mem_cons,List.not_mem_nil,or_false,forall_eq_or_imp,forall_eq]
  unfold QOk at hv
  omega
end
noncomputable section
theorem qA (v:BitVec 64):IntKind.wrap .i64 (v.toNat:Int)=v.toInt:=by
 have h1:IntKind.wrap .i64 (v.toNat:Int)=w64 (v.toNat:Int):=rfl
 rw [h1,AG,BitVec.toInt_eq_toNat_cond]
 have:=v.isLt
 split <;> split <;> omega
theorem pI {n:Int} (h:Wd n):BitVec.ofInt 64 n=(BitVec.ofInt 32 n).signExtend 64:=by
 apply BitVec.eq_of_toInt_eq
 rw [BitVec.toInt_signExtend_of_le (by omega),BitVec.toInt_ofInt,BitVec.toInt_ofInt]
 unfold Wd at h
 rw [Int.bmod_def,Int.bmod_def]
 omega
theorem uB (v:BitVec 32):Wd (v.signExtend 64).toInt:=by
 rw [BitVec.toInt_signExtend_of_le (by omega)]
 have h1:=BitVec.toInt_lt (x:=v)
 have h2:=BitVec.le_toInt (x:=v)
 unfold Wd
 omega
theorem BD {a b:Int} (ha:Wd a) (hb:Wd b):Wd (bj .or .i64 a b):=by
 show Wd (IntKind.wrap .i64 ((BitVec.ofInt 64 a ||| BitVec.ofInt 64 b).toNat:Int))
 rw [qA,pI ha,pI hb,<-BitVec.signExtend_or]
 exact uB _
theorem AK {a b:Int} (ha:Wd a) (hb:Wd b):Wd (bj .and .i64 a b):=by
 show Wd (IntKind.wrap .i64 ((BitVec.ofInt 64 a &&& BitVec.ofInt 64 b).toNat:Int))
 rw [qA,pI ha,pI hb,<-BitVec.signExtend_and]
 exact uB _
theorem AL {a b:Int} (ha:Wd a) (hb:Wd b):Wd (bj .xor .i64 a b):=by
 show Wd (IntKind.wrap .i64 ((BitVec.ofInt 64 a ^^^ BitVec.ofInt 64 b).toNat:Int))
 rw [qA,pI ha,pI hb,<-BitVec.signExtend_xor]
 exact uB _
theorem B9 (b:Int):0<=bj .and .i64 b 31/\bj .and .i64 b 31<=31:=by
 have e:bj .and .i64 b 31=IntKind.wrap .i64 ((BitVec.ofInt 64 b &&& BitVec.ofInt 64 31).toNat:Int):=rfl
 have h1:(BitVec.ofInt 64 b &&& BitVec.ofInt 64 31).toNat<=31:=by
  rw [BitVec.toNat_and]
  exact Nat.le_trans Nat.and_le_right (by decide)
 have h2:IntKind.wrap .i64 ((BitVec.ofInt 64 b &&& BitVec.ofInt 64 31).toNat:Int)=w64 ((BitVec.ofInt 64 b &&& BitVec.ofInt 64 31).toNat:Int):=rfl
 rw [e,h2,a8 (by omega) (by omega)]
 omega
theorem sj {op a b:Int} (hop:1<=op/\op<=12) (ha:Wd a) (hb:Wd b):Tot (i4 op a b) λr=>Wd r.1:=by
 unfold i4
 rw [nY,decide_eq_true hop]
 simp only [ob9,zh,decide_eq_true ha,decide_eq_true hb,Bool.not_true]
 simp only [sel,ob9]
 have w0:Wd 0:=by unfold Wd; omega
 have w1:Wd 1:=by unfold Wd; omega
 refine .sel (λ_=>.pure (BD ha hb)) λ_=>.sel (λ_=>.pure (AL ha hb)) λ_=>.sel (λ_=>.pure (AK ha hb)) λ_=>.sel (λ_=>.bind (P:=Wd) ?_ λr h=>.pure h) λ_=>.sel (λ_=>.bind (P:=Wd) ?_ λr h=>.pure h) λ_ =>
  .sel (λ_=>.bind (P:=Wd) ?_ λr h=>.pure h) λ_=>.sel (λ_=>.bind (P:=Wd) ?_ λr h=>.pure h) λ_=>.sel (λ_=>.bind (oT _) λr h=>.pure h) λ_=>.sel (λ_=>.bind (oT _) λr h=>.pure h) λ_=>.sel (λ_=>.bind (oT _) λr h=>.pure h) λ_ =>
  .sel (λ_=>.bind (P:=Wd) ?_ λr h=>.pure h) λ_=>.bind (P:=Wd) ?_ λr h=>.pure h
 ·exact .sel (λ_=>.pure w1) λ_=>.pure w0
 ·exact .sel (λ_=>.pure w1) λ_=>.pure w0
 ·unfold gY
  refine .sf rfl (.bind (P:=λ_=>True) ?_ λd _=>.bind (oT _) λr h=>.pure h)
  unfold shO
  rw [if_neg (by have:=B9 b; omega)]
  exact .pure trivial
 ·unfold gY
  refine .st rfl (.bind (P:=Wd) ?_ λd h=>.pure h)
  have h31:=B9 b
  unfold shO
  rw [if_neg (by omega)]
  refine .pure ?_
  have hp:0<(2:Int)^(min (bj .and .i64 b 31).toNat (IntKind.bits .i64)):=Int.pow_pos (by omega)
  generalize (2:Int)^(min (bj .and .i64 b 31).toNat (IntKind.bits .i64))=c at hp
  rw [Int.fdiv_eq_ediv_of_nonneg _ (by omega)]
  unfold Wd at *
  constructor
  ·rw [Int.le_ediv_iff_mul_le hp]
   have : -2147483648*c <= -2147483648*1:=Int.mul_le_mul_of_nonpos_left (by omega) (by omega)
   omega
  ·have:a/c<=2147483647:=by
    rw [<-Int.lt_add_one_iff,Int.ediv_lt_iff_lt_mul hp]
    have:(2147483647+1)*1<=(2147483647+1)*c:=Int.mul_le_mul_of_nonneg_left (by omega) (by omega)
    omega
   exact this
 ·unfold j6
  refine .sel (λ_=>.pure (by unfold Wd; omega)) λh=>?_
  simp only [beq_eq_false_iff_ne,ne_eq] at h
  exact .bind (.quo h) λd _=>.bind (oT _) λr h=>.pure h
 ·unfold j7
  refine .sel (λ_=>.pure ha) λh=>?_
  simp only [beq_eq_false_iff_ne,ne_eq] at h
  refine .bind (.rem h) λd hd=>.pure ?_
  subst hd
  have h1:(a.tmod b).natAbs<=a.natAbs:=by rw [Int.natAbs_tmod]; exact Nat.mod_le _ _
  unfold Wd at *
  rcases Int.le_total 0 a with h2 | h2
  ·have:=Int.tmod_nonneg b h2; omega
  ·have:a.tmod b<=0:=by have:=Int.tmod_nonneg b (show 0 <= -a by omega); rw [Int.neg_tmod] at this; omega
   omega
theorem nZ {α:Type} (g:α->Nat):∀ {l:List α} {i:Nat} {a:α} (x:α),l[i]?=some a->((l.set i x).map g).sum+g a=(l.map g).sum+g x
 | [],_,_,_,h=>by simp at h
 | y::r,0,a,x,h=>by
  have:y=a:=by simpa using h
  subst this
  simp only [List.set_cons_zero,List.map_cons,List.sum_cons]
  omega
 | y::r,i+1,a,x,h=>by
  have:=nZ g x (show r[i]?=some a by simpa using h)
  simp only [List.set_cons_succ,List.map_cons,List.sum_cons]
  omega
def FOk (f:ai):Prop:=(f.Kind=0/\f.N=0)\/(f.Kind=1/\Wd f.N)\/(f.Kind=2/\f.N=0)
def uC (l:List ai):Prop:=l.length=12/\∀ f∈l,FOk f
def AOk (n:Nat) (all:List (List ai)):Prop:=all.length=n/\∀ l∈all,uC l
def fm (f:ai):Nat:=(2-f.Kind).toNat
def fsm (l:List ai):Nat:=(l.map fm).sum
def am (all:List (List ai)):Nat:=(all.map fsm).sum
theorem uC.set {l:List ai} {i:Nat} {f:ai} (h:uC l) (hf:FOk f):uC (l.set i f):=⟨by rw [List.length_set]; exact h.1,λg hg=>(pH hg).elim (h.2 g) λe=>e▸hf⟩
theorem AOk.set {n:Nat} {all:List (List ai)} {i:Nat} {l:List ai} (h:AOk n all) (hl:uC l):AOk n (all.set i l):=⟨by rw [List.length_set]; exact h.1,λg hg=>(pH hg).elim (h.2 g) λe=>e▸hl⟩
theorem AM {a b:ai} (ha:FOk a) (hb:FOk b):Tot (gZ a b) λf=>FOk f/\fm f<=fm a/\(f.Kind≠a.Kind\/f.N≠a.N->fm f<fm a):=by
 unfold gZ
 refine .sel (λh=>.pure ⟨hb,?_⟩) λh=>.sel (λh'=>.pure ⟨ha,by omega,λh=>by omega⟩) λh'=>.pure ⟨.inr (.inr ⟨rfl,rfl⟩),?_⟩
 ·simp only [beq_iff_eq] at h
  unfold fm; unfold FOk at ha hb
  constructor
  ·omega
  ·intro _; omega
 ·simp only [beq_eq_false_iff_ne,ne_eq,Bool.or_eq_false_iff,Bool.and_eq_false_iff,Bool.and_true] at h h'
  unfold fm; unfold FOk at ha hb
  simp only
  constructor
  ·omega
  ·intro _; omega
theorem zP {n:Nat} {all:List (List ai)} {i:Int} {fs:List ai} (h:AOk n all) (h0:0<=i) (h1:i<n) (hf:uC fs):Tot (fN all i fs) λr=>AOk n r.2/\am r.2<=am all/\(r.1=true->am r.2<am all):=by
 unfold fN
 refine .bind (.iter (λs=>0<=s.2.1/\s.2.1<=12/\AOk n s.2.2/\am s.2.2<=am all/\(s.1=true->am s.2.2<am all)) (λs=>(12-s.2.1).toNat) ⟨by simp,by simp,h,by simp,by simp⟩ λs hs=>?_) λr (hr:AOk n r.2/\am r.2<=am all/\(r.1=true->am r.2<am all))=>.pure hr
 obtain ⟨iz,r,a⟩:=s
 obtain ⟨g0,g1,g2,g3,g4⟩:=hs
 simp only at g0 g1 g2 g3 g4
 unfold jy
 refine .sel (λhlt=>?_) λhlt=>.inr ⟨g2,g3,g4⟩
 simp only [decide_eq_true_eq] at hlt
 refine .bind (P:=λz=>AOk n z.2/\am z.2<=am all/\(z.1=true->am z.2<am all)) ?_ λz hz=>.inl ⟨⟨?_,?_,hz⟩,?_⟩
 ·refine .bind (.nth h0 (by rw [g2.1]; exact h1)) λl ⟨hl,hm⟩=>?_
  have hlo:=g2.2 l hm
  refine .bind (.nth g0 (by rw [hlo.1]; omega)) λx ⟨hx,hxm⟩=>.bind (.nth g0 (by rw [hf.1]; omega)) λy ⟨hy,hym⟩=>?_
  refine .bind (AM (hlo.2 x hxm) (hf.2 y hym)) λf hfj=>.bind (.nth h0 (by rw [g2.1]; exact h1)) λl' ⟨hl',_⟩=>?_
  obtain rfl:l=l':=o9 (hl.symm.trans hl')
  refine .bind (.nth g0 (by rw [hlo.1]; omega)) λx' ⟨hx',_⟩=>?_
  obtain rfl:x=x':=o9 (hx.symm.trans hx')
  refine .sel (λhne=>?_) λ_=>.pure ⟨g2,g3,g4⟩
  refine .bind (.nth g0 (by rw [hlo.1]; omega)) λ_ _=>.bind (.upd g0 (by rw [hlo.1]; omega)) λl2 hl2=>.pure ?_
  subst hl2
  have hlt2:fm f<fm x:=by
   refine hfj.2.2 ?_
   by_cases e1:f.Kind=x.Kind
   ·right; intro e2; simp [e1,e2] at hne
   ·exact .inl e1
  have e1:fsm (l.set r.toNat f)+fm x=fsm l+fm f:=nZ fm f hx
  have e2:am (a.set i.toNat (l.set r.toNat f))+fsm l=am a+fsm (l.set r.toNat f):=nZ fsm _ hl
  exact ⟨g2.set (hlo.set hfj.1),by simp only; omega,λ_=>by simp only; omega⟩
 ·rw [au g0 (by omega)]; simp only; omega
 ·rw [au g0 (by omega)]; simp only; omega
 ·rw [au g0 (by omega)]; simp only; omega
theorem zQ {eQ:List ab} {q:ab} {m:Int} {fs:List ai} (hq:QOk m q) (hf:uC fs):Tot (fM q fs) uC:=by
 unfold fM
 refine .bind (.app (by simp [hf.1])) λl hl=>?_
 rw [List.nil_append] at hl
 subst hl
 have h12:=hf.1
 have rg:∀ {x:Int},Rg x->0<=x/\x<l.length:=λh=>by unfold Rg at h; omega
 refine .sel (λh=>?_) λ_=>.sel (λh=>?_) λ_=>.sel (λh=>?_) λ_=>.sel (λh=>?_) λ_=>.pure hf
 all_goals (simp only [beq_iff_eq] at h; unfold QOk at hq; simp [h] at hq)
 ·exact .bind (.nth (rg hq.1).1 (rg hq.1).2) λ_ _=>.bind (.upd (rg hq.1).1 (rg hq.1).2) λr hr=>.pure (hr▸hf.set (.inr (.inl ⟨rfl,hq.2.2.2⟩)))
 ·exact .bind (.nth (rg hq.2.1).1 (rg hq.2.1).2) λx hx=>.bind (.nth (rg hq.1).1 (rg hq.1).2) λ_ _=>.bind (.upd (rg hq.1).1 (rg hq.1).2) λr hr=>.pure (hr▸hf.set (hf.2 x hx.2))
 ·exact .bind (.nth (rg hq.1).1 (rg hq.1).2) λ_ _=>.bind (.upd (rg hq.1).1 (rg hq.1).2) λr hr=>.pure (hr▸hf.set (.inr (.inr ⟨rfl,rfl⟩)))
 ·refine .bind (.nth (rg hq.2.1).1 (rg hq.2.1).2) λx hx=>.bind (.nth (rg hq.2.2.1).1 (rg hq.2.2.1).2) λy hy=>.bind (P:=FOk) ?_ λf hf'=>.bind (.nth (rg hq.1).1 (rg hq.1).2) λ_ _=>.bind (.upd (rg hq.1).1 (rg hq.1).2) λr hr=>.pure (hr▸hf.set hf')
  have hx':=hf.2 x hx.2
  have hy':=hf.2 y hy.2
  unfold bX
  refine .sel (λ_=>.pure (.inr (.inr ⟨rfl,rfl⟩))) λhk=>?_
  simp only [Bool.or_eq_false_iff,bne_eq_false_iff_eq] at hk
  have hxw:Wd x.N:=by rcases hx' with h | h | h <;> first | exact h.2 | omega
  have hyw:Wd y.N:=by rcases hy' with h | h | h <;> first | exact h.2 | omega
  exact .bind (sj hq.2.2.2 hxw hyw) λr hr=>.pure (.inr (.inl ⟨rfl,hr⟩))
theorem zR {eQ:List ab} {fs:List ai} {i:Int} (hc:COk eQ) (hf:uC fs) (h0:0<=i) (h1:i<eQ.length):Tot (fL eQ fs i) λl=>l.length<=2/\∀ x∈l,0<=x/\x<eQ.length:=by
 unfold fL
 refine .bind (.nth h0 h1) λq ⟨hq,hm⟩=>?_
 have hv:=hc.q q hm
 have hl:=hc.max
 have h12:=hf.1
 refine .bind (P:=λb=>b=false->q.Op=5) (.sel (λh=>.pure (by simp)) λh=>?_) λb hb=>.sel (λ_=>.bind (uA hc h0 h1) λr hr=>.pure hr) λhbf=>?_
 ·simp only [bne_eq_false_iff_eq] at h
  refine .bind (.nth (l:=fs) ?_ ?_) λx _=>.pure λ_=>h
  all_goals (unfold QOk at hv; simp [h] at hv; unfold Rg at hv; omega)
 ·have h5:=hb hbf
  have hn:=hc.nxt hq (by omega) (by omega)
  unfold QOk at hv
  simp [h5] at hv
  refine .bind (.nth (l:=fs) (by unfold Rg at hv; omega) (by unfold Rg at hv; omega)) λx _=>.sel (λ_=>.pure (by simp; omega)) λ_=>.pure ?_
  rw [au h0 (by omega)]
  simp
  omega
theorem wq {eQ:List ab} {all:List (List ai)} (hc:COk eQ) (h:AOk eQ.length all):Tot (fO eQ all) λr=>AOk eQ.length r.2/\am r.2<=am all/\(r.1=true->am r.2<am all):=by
 unfold fO
 have hl:=hc.max
 refine .bind (.iter (λs=>0<=s.2.1/\s.2.1<=(eQ.length:Int)/\AOk eQ.length s.2.2/\am s.2.2<=am all/\(s.1=true->am s.2.2<am all)) (λs=>((eQ.length:Int)-s.2.1).toNat) ⟨by simp,by simp,h,by simp,by simp⟩ λs hs=>?_) λr (hr:AOk eQ.length r.2/\am r.2<=am all/\(r.1=true->am r.2<am all))=>.pure hr
 obtain ⟨iz,i,a⟩:=s
 obtain ⟨g0,g1,g2,g3,g4⟩:=hs
 simp only at g0 g1 g2 g3 g4
 unfold jA
 refine .sel (λhlt=>?_) λhlt=>.inr ⟨g2,g3,g4⟩
 simp only [decide_eq_true_eq] at hlt
 refine .bind (P:=λz=>AOk eQ.length z.2/\am z.2<=am all/\(z.1=true->am z.2<am all)) ?_ λz hz=>.inl ⟨⟨?_,?_,hz⟩,?_⟩
 ·refine .bind (.nth g0 (by rw [g2.1]; exact hlt)) λl ⟨hl',hm⟩=>?_
  have hlo:=g2.2 l hm
  refine .bind (.nth (by omega) (by rw [hlo.1]; omega)) λx _=>.sel (λ_=>.pure ⟨g2,g3,g4⟩) λ_=>?_
  refine .bind (zR hc hlo g0 hlt) λes he=>.bind (.nth g0 hlt) λq ⟨hq,hqm⟩=>.bind (zQ (eQ:=eQ) (hc.q q hqm) hlo) λaf haf=>?_
  refine .bind (.iter (λs=>0<=s.2.1/\s.2.1<=(es.length:Int)/\AOk eQ.length s.2.2/\am s.2.2<=am all/\(s.1=true->am s.2.2<am all)) (λs=>((es.length:Int)-s.2.1).toNat) ⟨by simp,by simp,g2,g3,g4⟩ λs hs=>?_) λr (hr:AOk eQ.length r.2/\am r.2<=am all/\(r.1=true->am r.2<am all))=>.pure hr
  obtain ⟨fresh',j,a'⟩:=s
  obtain ⟨k0,k1,k2,k3,k4⟩:=hs
  simp only at k0 k1 k2 k3 k4
  unfold jz
  refine .sel (λhlt'=>?_) λ_=>.inr ⟨k2,k3,k4⟩
  simp only [decide_eq_true_eq] at hlt'
  refine .bind (P:=λz=>AOk eQ.length z.2/\am z.2<=am all/\(z.1=true->am z.2<am all)) ?_ λz hz=>.inl ⟨⟨?_,?_,hz⟩,?_⟩
  ·refine .bind (.nth k0 hlt') λe ⟨_,hem⟩=>.bind (zP (all:=a') k2 (he.2 e hem).1 (he.2 e hem).2 haf) λr hr=>.sel (λhr1=>.pure ⟨hr.1,by simp only; omega,λ_=>by have:=hr.2.2 hr1; simp only; omega⟩) λ_=>.pure ⟨hr.1,by simp only; omega,λh=>by have:=k4 h; simp only; omega⟩
  all_goals (rw [au k0 (by omega)]; simp only; omega)
 all_goals (rw [au g0 (by omega)]; simp only; omega)
theorem zS {eQ:List ab} (hc:COk eQ):Tot (fy eQ) (AOk eQ.length):=by
 unfold fy
 rw [aM hc,ob9]
 have hl:=hc.max
 have h1:=hc.one
 refine .sf rfl ?_
 refine .bind (P:=AOk eQ.length) (.iter (λs=>0<=s.2/\s.2<=(eQ.length:Int)/\AOk s.2.toNat s.1) (λs=>((eQ.length:Int)-s.2).toNat) ⟨by simp,by simp,by simp [AOk]⟩ λs hs=>?_) λa0 ha0=>.bind (P:=AOk eQ.length) (.iter (λs=>0<=s.1/\s.1<=12/\AOk eQ.length s.2) (λs=>(12-s.1).toNat) ⟨by simp,by simp,ha0⟩ λs hs=>?_) λa1 ha1 =>
  .bind (P:=AOk eQ.length) (.iter (λs=>AOk eQ.length s) am ha1 λs hs=>?_) λr hr=>.pure hr
 ·obtain ⟨a,i⟩:=s
  obtain ⟨g0,g1,g2⟩:=hs
  simp only at g0 g1 g2
  unfold ky
  refine .sel (λhlt=>?_) λhlt=>.inr ?_
  ·simp only [decide_eq_true_eq] at hlt
   refine .bind (.mk (by omega) (by omega)) λl hl'=>.bind (.app (by simp [g2.1]; omega)) λr hr=>.inl ?_
   subst hr hl'
   rw [au g0 (by omega)]
   refine ⟨⟨by simp only; omega,by simp only; omega,by simp [g2.1]; omega,λl hl'=>?_⟩,by simp only; omega⟩
   simp only [List.mem_append,List.mem_singleton] at hl'
   rcases hl' with h | rfl
   ·exact g2.2 l h
   ·exact ⟨by simp,λf hf=>by rw [(List.mem_replicate.1 hf).2]; exact .inl ⟨rfl,rfl⟩⟩
  ·simp only [decide_eq_false_iff_not] at hlt
   rw [show i.toNat=eQ.length by omega] at g2
   exact g2
 ·obtain ⟨r,a⟩:=s
  obtain ⟨g0,g1,g2⟩:=hs
  simp only at g0 g1 g2
  unfold kz
  refine .sel (λhlt=>?_) λhlt=>.inr g2
  simp only [decide_eq_true_eq] at hlt
  refine .bind (.nth (by omega) (by rw [g2.1]; omega)) λl ⟨_,hm⟩=>?_
  have hlo:=g2.2 l hm
  refine .bind (.nth g0 (by rw [hlo.1]; omega)) λ_ _=>.bind (.upd g0 (by rw [hlo.1]; omega)) λl' hl'=>.inl ?_
  subst hl'
  rw [au g0 (by omega)]
  exact ⟨⟨by simp only; omega,by simp only; omega,g2.set (hlo.set (.inr (.inl ⟨rfl,by unfold Wd; simp⟩)))⟩,by simp only; omega⟩
 ·unfold kA
  exact .bind (wq hc hs) λr hr=>.sel (λh=>.inl ⟨hr.1,hr.2.2 h⟩) λ_=>.inr hr.1
end
noncomputable section
theorem lu {f:List ab×Int->Option ((List ab×Int)⊕List ab)} {n:Nat} (P:Nat->ab->Prop) (hn:n<=600)
  (h:∀ (i:Int) (out:List ab),0<=i->i<n->out.length=i.toNat->Tot (f (out,i)) λz=>∃ q',z=.inl (out++[q'],i+1)/\P i.toNat q')
  (he:∀ out,f (out,(n:Int))=some (.inr out)):Tot (aB f ([],0)) λout=>out.length=n/\∀ i q',out[i]?=some q'->P i q':=by
 refine .iter (λs=>0<=s.2/\s.2<=(n:Int)/\s.1.length=s.2.toNat/\∀ i q',s.1[i]?=some q'->P i q') (λs=>((n:Int)-s.2).toNat) ⟨by simp,by simp,by simp,by simp⟩ λs hs=>?_
 obtain ⟨out,i⟩:=s
 obtain ⟨h0,h1,h2,h3⟩:=hs
 simp only at h0 h1 h2 h3
 by_cases hlt:i<n
 ·refine (h i out h0 hlt h2).mono λz hz=>?_
  obtain ⟨q',rfl,hp⟩:=hz
  refine ⟨⟨by simp only; omega,by simp only; omega,by simp [h2]; omega,λj q hj=>?_⟩,by simp only; omega⟩
  simp only at hj
  rcases Nat.lt_or_ge j out.length with hj' | hj'
  ·rw [List.getElem?_append_left hj'] at hj; exact h3 j q hj
  ·rw [List.getElem?_append_right hj'] at hj
   have:j=i.toNat:=by
    rcases Nat.eq_zero_or_pos (j-out.length) with h | h
    ·omega
    ·rw [List.getElem?_eq_none (by simp; omega)] at hj; cases hj
   subst this
   rw [h2,Nat.sub_self] at hj
   simp only [List.getElem?_cons_zero,Option.some.injEq] at hj
   exact hj▸hp
 ·have:i=n:=by omega
  subst this
  rw [he]
  exact .pure ⟨by omega,h3⟩
def CX (eQ out:List ab):Prop:=out.length=eQ.length/\∀ (i:Nat) (q':ab),out[i]?=some q'->∃ q:ab,eQ[i]?=some q/\QOk eQ.length q'/\(q.Op=10\/q.Op=4->q'.Op=10\/q'.Op=4)
theorem COk.alike {eQ out:List ab} (hc:COk eQ) (h:CX eQ out):COk out:=by
 obtain ⟨h1,h2⟩:=h
 refine ⟨by rw [h1]; exact hc.one,by rw [h1]; exact hc.max,λq hq=>?_,?_⟩
 ·obtain ⟨j,hj,rfl⟩:=List.getElem_of_mem hq
  obtain ⟨_,_,h3,_⟩:=h2 j _ (List.getElem?_eq_getElem hj)
  rw [h1]; exact h3
 ·obtain ⟨x,hx,hx'⟩:=hc.last
  have hlt:eQ.length-1<out.length:=by have:=hc.one; omega
  obtain ⟨q,hq,_,h4⟩:=h2 (eQ.length-1) _ (List.getElem?_eq_getElem hlt)
  rw [List.getLast?_eq_getElem?] at hx
  rw [hx] at hq
  injection hq with hq
  subst hq
  exact ⟨_,by rw [List.getLast?_eq_getElem?,h1]; exact List.getElem?_eq_getElem hlt,h4 hx'⟩
theorem Rg.lt {x:Int} (h:Rg x) {α:Type} {l:List α} (hl:l.length=12):0<=x/\x<l.length:=by unfold Rg at h; omega
theorem BE (l:List Int) (n:Int) (hl:l.length<=1000):Tot (mq l n) λb=>b=l.contains n:=by
 unfold mq
 refine .bind (P:=λz=>match z with | .inl b=>b=true/\n∈l | .inr _=>n∉l) (.iter (λi:Int=>0<=i/\i<=l.length/\∀ (j:Nat) (x:Int),(j:Int)<i->l[j]?=some x->x≠n) (λi=>(l.length-i).toNat) ⟨by omega,by omega,λj q h=>by omega⟩ λi ⟨h0,h1,h2⟩=>?_) λz hz=>?_
 ·unfold m9
  refine .sel (λh=>?_) λh=>.inr ?_
  ·simp only [decide_eq_true_eq] at h
   refine .bind (.nth h0 h) λx ⟨hx,hm⟩=>.sel (λhe=>.inr ?_) λhe=>.inl ?_
   ·simp only [beq_iff_eq] at he; subst he; exact ⟨rfl,hm⟩
   ·simp only [beq_eq_false_iff_ne,ne_eq] at he
    rw [au h0 (by omega)]
    refine ⟨⟨by omega,by omega,λj y hj hy=>?_⟩,by omega⟩
    by_cases e:(j:Int)=i
    ·obtain rfl:j=i.toNat:=by omega
     rw [hx] at hy; injection hy with hy; exact hy▸he
    ·exact h2 j y (by omega) hy
  ·simp only [decide_eq_false_iff_not] at h
   intro hm
   obtain ⟨j,hj,rfl⟩:=List.getElem_of_mem hm
   exact h2 j _ (by omega) (List.getElem?_eq_getElem hj) rfl
 ·refine .both (λb e=>?_) λ_ e=>?_
  ·subst e; exact .pure (by rw [hz.1]; simpa using hz.2)
  ·subst e; exact .pure (by simpa using (show n∉l from hz))
theorem zj (f:ai) (n:Int):fP f n=some (f.Kind==1&&f.N==n):=rfl
theorem zk (n:Int) (l:List Int) (hl:l.length<=1000):Tot (fz n l) λb=>b=l.contains n:=.bind (BE l n hl) λb hb=>.pure hb
theorem BF {q:ab} {m:Int} {x y:ai} (hq:QOk m q) (h3:q.Op=3) (hx:FOk x) (hy:FOk y):Tot (i5 q x y) (QOk m):=by
 have hv:=hq
 unfold QOk at hv
 simp [h3] at hv
 obtain ⟨hd,ha,hb,hn⟩:=hv
 have cp:∀ r,Rg r->QOk m (ab.mk 2 q.Dst r 0 0):=λr hr=>.inr (.inl ⟨rfl,hd,hr,rfl,rfl⟩)
 have ct:∀ r,Wd r->QOk m (ab.mk 1 q.Dst 0 0 r):=λr hr=>.inl ⟨rfl,hd,rfl,rfl,hr⟩
 have an:∀ (c:Bool) (l:List Int),l.length<=1000->Tot ((sel c ((fz q.N l).bind λy3=>some y3) (some false):Option Bool)) λ_=>True:=λc l hl=>.sel (λ_=>.bind (zk _ _ hl) λ_ _=>.pure trivial) λ_=>.pure trivial
 unfold i5
 simp only [zj,ob9]
 refine .bind (P:=λf=>f.Kind=1->Wd f.N) ?_ λf hf=>.sel (λh=>.pure (ct _ (hf (by simpa using h)))) λ_=>.bind (an _ _ (by simp)) λ_ _=>.sel (λ_=>.pure (cp _ ha)) λ_=>.bind (an _ _ (by simp)) λ_ _=>.sel (λ_=>.pure (cp _ ha)) λ_=>.bind (an _ _ (by simp)) λ_ _=>.sel (λ_=>.pure (cp _ hb)) λ_ =>
  .sel (λ_=>.pure (cp _ hb)) λ_=>.bind (P:=λ_=>True) (.sel (λ_=>.pure trivial) λ_=>.pure trivial) λ_ _=>.bind (an _ _ (by simp)) λ_ _=>.sel (λ_=>.pure (ct _ (by unfold Wd; omega))) λ_=>.pure hq
 unfold bX
 refine .sel (λ_=>.pure (by simp)) λhk=>?_
 simp only [Bool.or_eq_false_iff,bne_eq_false_iff_eq] at hk
 unfold FOk at hx hy
 have hxw:Wd x.N:=by rcases hx with h | h | h <;> first | exact h.2 | omega
 have hyw:Wd y.N:=by rcases hy with h | h | h <;> first | exact h.2 | omega
 exact .bind (sj hn hxw hyw) λr hr=>.pure λ_=>hr
theorem uD {eQ:List ab} (hc:COk eQ) {q:ab} {i:Int} (h0:0<=i) (hi:eQ[i.toNat]?=some q) {fs:List ai} (hf:uC fs):Tot (dR q fs i) λq'=>QOk eQ.length q'/\(q.Op=10\/q.Op=4->q'.Op=10\/q'.Op=4):=by
 have hv:=hc.q q (List.mem_of_getElem? hi)
 have hl:=hc.max
 have wd:∀ {f:ai},FOk f->f.Kind=1->Wd f.N:=λ{f} hx hk=>by unfold FOk at hx; rcases hx with h | h | h <;> first | exact h.2 | omega
 unfold dR
 refine .bind (.nth (by omega) (by rw [hf.1]; omega)) λ_ _=>.sel (λ_=>.pure ⟨hv,id⟩) λ_=>.sel (λh=>?_) λ_=>.sel (λh=>?_) λ_=>.sel (λh=>?_) λ_=>.pure ⟨hv,id⟩
 all_goals (simp only [beq_iff_eq] at h; have hw:=hv; unfold QOk at hw; simp [h] at hw)
 ·refine .bind (.nth (hw.2.1.lt hf.1).1 (hw.2.1.lt hf.1).2) λx ⟨hx,hm⟩=>.sel (λhk=>?_) λ_=>.pure ⟨hv,id⟩
  simp only [beq_iff_eq] at hk
  refine .bind (.nth (hw.2.1.lt hf.1).1 (hw.2.1.lt hf.1).2) λy ⟨hy,_⟩=>?_
  obtain rfl:x=y:=o9 (hx.symm.trans hy)
  exact .pure ⟨.inl ⟨rfl,hw.1,rfl,rfl,wd (hf.2 x hm) hk⟩,λh'=>by omega⟩
 ·refine .bind (.nth (hw.2.1.lt hf.1).1 (hw.2.1.lt hf.1).2) λx ⟨_,hx⟩=>.bind (.nth (hw.2.2.1.lt hf.1).1 (hw.2.2.1.lt hf.1).2) λy ⟨_,hy⟩=>.bind (BF hv h (hf.2 x hx) (hf.2 y hy)) λr hr=>.pure ⟨hr,λh'=>by omega⟩
 ·have hn:=hc.nxt hi (by omega) (by omega)
  refine .bind (.nth (hw.2.1.lt hf.1).1 (hw.2.1.lt hf.1).2) λx ⟨_,hx⟩=>?_
  rw [zj,ob9]
  refine .sel (λ_=>.pure ⟨.inr (.inr (.inr (.inl ⟨rfl,rfl,rfl,rfl,hw.2.2.2⟩))),λh'=>by omega⟩) λ_=>.bind (.nth (hw.2.1.lt hf.1).1 (hw.2.1.lt hf.1).2) λy _=>.sel (λ_=>.pure ⟨?_,λh'=>by omega⟩) λ_=>.pure ⟨hv,id⟩
  rw [au h0 (by omega)]
  exact .inr (.inr (.inr (.inl ⟨rfl,rfl,rfl,rfl,by simp only; omega,by simp only; omega⟩)))
def sk (f:List ab->Option (List ab×Bool)):Prop:=∀ {eQ:List ab},COk eQ->Tot (f eQ) λr=>COk r.1/\r.2=true/\r.1.length<=eQ.length
theorem xJ:sk fQ:=λ{eQ} hc=>by
 unfold fQ
 rw [aM hc,ob9]
 have hl:=hc.max
 refine .sf rfl (.bind (zS hc) λfs hfs=>.bind (lu (n:=eQ.length) (λi q'=>∃ q:ab,eQ[i]?=some q/\QOk eQ.length q'/\(q.Op=10\/q.Op=4->q'.Op=10\/q'.Op=4)) hc.max (λi out h0 h1 h2=>?_) λout=>?_) λout ho=>.pure ⟨hc.alike ho,rfl,by rw [ho.1]; exact Nat.le_refl _⟩)
 ·unfold c6
  refine .st (by simpa using h1) (.bind (.nth h0 (by rw [hfs.1]; exact h1)) λl ⟨_,hm⟩=>.bind (.nth h0 h1) λq ⟨hq,_⟩=>.bind (uD hc h0 hq (hfs.2 l hm)) λq' hq'=>.bind (.app (by simp [h2]; omega)) λr hr=>.pure ⟨q',?_,q,hq,hq'⟩)
  rw [au h0 (by omega),hr]
 ·unfold c6; rw [aj (by simp)]
def uE:Nat->List Int->Nat
 | _,[]=>0
 | k,x::r=>(if x=(k:Int) then 0 else 1)+uE (k+1) r
theorem zl:∀ (l:List Int) (k:Nat),uE k l<=l.length
 | [],_=>Nat.le_refl _
 | x::r,k=>by have:=zl r (k+1); simp only [uE,List.length_cons]; split <;> omega
theorem xK:∀ {l:List Int} {k i:Nat} {a:Int},l[i]?=some a->a≠((k+i:Nat):Int)->uE k (l.set i ((k+i:Nat):Int))<uE k l
 | [],_,_,_,h,_=>by simp at h
 | x::r,k,0,a,h,hne=>by
  have:x=a:=by simpa using h
  subst this
  simp only [List.set_cons_zero,uE,Nat.add_zero] at *
  rw [if_pos trivial,if_neg hne]
  omega
 | x::r,k,i+1,a,h,hne=>by
  have e:k+(i+1)=(k+1)+i:=by omega
  rw [e] at hne ⊢
  have:=xK (l:=r) (k:=k+1) (i:=i) (by simpa using h) hne
  simp only [List.set_cons_succ,uE]
  omega
def lO (l:List Int):Prop:=l.length=12/\∀ x∈l,Rg x
def CY (l:List Int):Prop:=l=[]\/lO l
def mQ (n:Nat) (all:List (List Int)):Prop:=all.length=n/\∀ l∈all,CY l
def cm (l:List Int):Nat:=if l=[] then 13 else uE 0 l
def cam (all:List (List Int)):Nat:=(all.map cm).sum
theorem lO.set {l:List Int} {i:Nat} {x:Int} (h:lO l) (hx:Rg x):lO (l.set i x):=⟨by rw [List.length_set]; exact h.1,λg hg=>(pH hg).elim (h.2 g) λe=>e▸hx⟩
theorem mQ.set {n:Nat} {all:List (List Int)} {i:Nat} {l:List Int} (h:mQ n all) (hl:CY l):mQ n (all.set i l):=⟨by rw [List.length_set]; exact h.1,λg hg=>(pH hg).elim (h.2 g) λe=>e▸hl⟩
theorem lO.ne {l:List Int} (h:lO l):l≠[]:=by rintro rfl; have:=h.1; simp at this
theorem lO.cm {l:List Int} (h:lO l):cm l=uE 0 l/\cm l<=12:=by
 unfold N.cm
 rw [if_neg h.ne]
 exact ⟨rfl,by have:=zl l 0; rw [h.1] at this; exact this⟩
theorem xL:Tot fC lO:=by
 unfold fC
 refine .bind (P:=lO) (.iter (λs=>0<=s.2/\s.2<=12/\s.1.length=s.2.toNat/\∀ x∈s.1,Rg x) (λs=>(12-s.2).toNat) ⟨by simp,by simp,by simp,by simp⟩ λs hs=>?_) λr hr=>.pure hr
 obtain ⟨l,i⟩:=s
 obtain ⟨g0,g1,g2,g3⟩:=hs
 simp only at g0 g1 g2 g3
 unfold kB
 refine .sel (λh=>?_) λh=>.inr (show lO l from ?_)
 ·simp only [decide_eq_true_eq] at h
  refine .bind (.app (by simp [g2]; omega)) λr hr=>.inl ?_
  subst hr
  rw [au g0 (by omega)]
  refine ⟨⟨by simp only; omega,by simp only; omega,by simp [g2]; omega,λx hx=>?_⟩,by simp only; omega⟩
  simp only [List.mem_append,List.mem_singleton] at hx
  rcases hx with h | rfl
  ·exact g3 x h
  ·unfold Rg; omega
 ·simp only [decide_eq_false_iff_not] at h
  exact ⟨by omega,g3⟩
theorem QOk.mono {q:ab} {m m':Int} (h:QOk m q) (hm:m<=m'):QOk m' q:=by
 unfold QOk at *
 rcases h with h | h | h | h | h | h | h | h | h
 ·exact .inl h
 ·exact .inr (.inl h)
 ·exact .inr (.inr (.inl h))
 ·exact .inr (.inr (.inr (.inl ⟨h.1,h.2.1,h.2.2.1,h.2.2.2.1,h.2.2.2.2.1,by omega⟩)))
 ·exact .inr (.inr (.inr (.inr (.inl ⟨h.1,h.2.1,h.2.2.1,h.2.2.2.1,h.2.2.2.2.1,by omega⟩))))
 ·exact .inr (.inr (.inr (.inr (.inr (.inl h)))))
 ·exact .inr (.inr (.inr (.inr (.inr (.inr (.inl h))))))
 ·exact .inr (.inr (.inr (.inr (.inr (.inr (.inr (.inl h)))))))
 ·exact .inr (.inr (.inr (.inr (.inr (.inr (.inr (.inr h)))))))
theorem wK (q:ab) {m:Int} (h:QOk m q) (hm:m<=600):bZ q=some (if q.Op=1\/q.Op=2\/q.Op=3\/q.Op=7 then q.Dst else -1):=by
 have h6:QOk 600 q:=h.mono hm
 unfold bZ
 rw [wJ,decide_eq_true h6,ob9,Bool.not_true,aj rfl]
 by_cases h1:q.Op=1
 ·simp [h1,sel]
 by_cases h2:q.Op=2
 ·simp [h2,sel]
 by_cases h3:q.Op=3
 ·simp [h3,sel]
 by_cases h7:q.Op=7
 ·simp [h7,sel]
 rw [if_neg (by omega),aj (by simpa using h1),aj (by simpa using h2),aj (by simpa using h3),ob9,aj (by simpa using h7)]
theorem AN {q:ab} {m:Int} (h:QOk m q) (hm:m<=600):Tot (bZ q) λr=>r = -1\/Rg r:=by
 refine .of (wK q h hm) ?_
 unfold QOk at h
 split
 ·rename_i h'; right; unfold Rg at *; omega
 ·exact .inl rfl
theorem yv {q:ab} {m:Int} {l:List Int} (hq:QOk m q) (hm:m<=600) (hl:lO l):Tot (fR q l) lO:=by
 unfold fR
 refine .bind (.app (by simp [hl.1])) λr hr=>?_
 rw [List.nil_append] at hr
 subst hr
 refine .bind (AN hq hm) λd hd=>.sel (λ_=>.pure hl) λhneg=>?_
 simp only [decide_eq_false_iff_not] at hneg
 have hd':Rg d:=hd.resolve_left (by omega)
 refine .bind (P:=lO) (.iter (λs=>0<=s.1/\s.1<=12/\lO s.2) (λs=>(12-s.1).toNat) ⟨by simp,by simp,hl⟩ λs hs=>?_) λl2 h2=>.bind (.nth (hd'.lt h2.1).1 (hd'.lt h2.1).2) λ_ _=>.bind (.upd (hd'.lt h2.1).1 (hd'.lt h2.1).2) λl3 h3=>?_
 ·obtain ⟨i,l'⟩:=s
  obtain ⟨g0,g1,g2⟩:=hs
  simp only at g0 g1 g2
  unfold jB
  refine .sel (λh=>?_) λ_=>.inr g2
  simp only [decide_eq_true_eq] at h
  have hi:0<=i/\i<l'.length:=by rw [g2.1]; omega
  refine .bind (P:=lO) (.bind (.nth hi.1 hi.2) λx _=>.sel (λ_=>.bind (.nth hi.1 hi.2) λ_ _=>.bind (.upd hi.1 hi.2) λr hr=>.pure ?_) λ_=>.pure g2) λr hr=>.inl ?_
  ·subst hr; exact g2.set (by unfold Rg; omega)
  ·rw [au g0 (by omega)]; exact ⟨⟨by simp only; omega,by simp only; omega,hr⟩,by simp only; omega⟩
 ·subst h3
  have h3':=h2.set (i:=d.toNat) hd'
  refine .sel (λh=>?_) λ_=>.pure h3'
  simp only [beq_iff_eq] at h
  unfold QOk at hq; simp [h] at hq
  exact .bind (.nth (hd'.lt h3'.1).1 (hd'.lt h3'.1).2) λ_ _=>.bind (.upd (hd'.lt h3'.1).1 (hd'.lt h3'.1).2) λr hr=>.pure (hr▸h3'.set hq.2.1)
theorem yw {n:Nat} {all:List (List Int)} {i:Int} {cs:List Int} (h:mQ n all) (h0:0<=i) (h1:i<n) (hf:lO cs):Tot (fS all i cs) λr=>mQ n r.2/\cam r.2<=cam all/\(r.1=true->cam r.2<cam all):=by
 have hin:i<all.length:=by rw [h.1]; exact h1
 unfold fS
 refine .bind (.nth h0 hin) λl0 ⟨hl0,hm0⟩=>.sel (λhe=>?_) λhne=>?_
 ·refine .bind (.app (by simp [hf.1])) λr hr=>.pure ?_
  rw [List.nil_append] at hr
  subst hr
  have e0:l0=[]:=by simpa using he
  subst e0
  have e2:cam (all.set i.toNat r)+N.cm []=cam all+N.cm r:=nZ N.cm _ hl0
  have e3:N.cm []=13:=by decide
  have e4:=hf.cm.2
  exact ⟨h.set (.inr hf),by simp only; omega,λ_=>by simp only; omega⟩
 have hl0':lO l0:=(h.2 l0 hm0).resolve_left (by rintro rfl; simp at hne)
 refine .bind (.iter (λs=>0<=s.2.1/\s.2.1<=12/\mQ n s.2.2/\(∃ l,s.2.2[i.toNat]?=some l/\lO l)/\cam s.2.2<=cam all/\(s.1=true->cam s.2.2<cam all)) (λs=>(12-s.2.1).toNat) ⟨by simp,by simp,h,⟨l0,hl0,hl0'⟩,by simp,by simp⟩ λs hs=>?_) λr (hr:mQ n r.2/\cam r.2<=cam all/\(r.1=true->cam r.2<cam all))=>.pure hr
 obtain ⟨iz,r,a⟩:=s
 obtain ⟨g0,g1,g2,⟨l,hl,hlo⟩,g3,g4⟩:=hs
 simp only at g0 g1 g2 g3 g4 hl
 unfold jC
 refine .sel (λhlt=>?_) λhlt=>.inr ⟨g2,g3,g4⟩
 simp only [decide_eq_true_eq] at hlt
 have hia:i<a.length:=by rw [g2.1]; exact h1
 have hrl:r<l.length:=by rw [hlo.1]; exact hlt
 refine .bind (P:=λz=>mQ n z.2/\(∃ l,z.2[i.toNat]?=some l/\lO l)/\cam z.2<=cam all/\(z.1=true->cam z.2<cam all)) ?_ λz hz=>.inl ⟨⟨?_,?_,hz⟩,?_⟩
 ·refine .bind (.nth h0 hia) λl' ⟨hl',_⟩=>?_
  obtain rfl:l=l':=o9 (hl.symm.trans hl')
  refine .bind (.nth g0 hrl) λx ⟨hx,hxm⟩=>.bind (P:=λb=>b=true->x≠r) (.sel (λhne=>.bind (.nth g0 hrl) λ_ _=>.bind (.nth g0 (by rw [hf.1]; exact hlt)) λ_ _=>.pure λ_=>by simpa using hne) λ_=>.pure (by simp)) λb hb=>.sel (λhbt=>?_) λ_=>.pure ⟨g2,⟨l,hl,hlo⟩,g3,g4⟩
  have hxr:=hb hbt
  refine .bind (.nth h0 hia) λl' ⟨hl',_⟩=>?_
  obtain rfl:l=l':=o9 (hl.symm.trans hl')
  refine .bind (.nth g0 hrl) λ_ _=>.bind (.upd g0 hrl) λl2 hl2=>.pure ?_
  subst hl2
  have hr':Rg r:=by unfold Rg; omega
  have hset:=hlo.set (i:=r.toNat) hr'
  have e1:uE 0 (l.set r.toNat r)<uE 0 l:=by
   have:=xK (l:=l) (k:=0) (i:=r.toNat) hx (by omega)
   rwa [show ((0+r.toNat:Nat):Int)=r by omega] at this
  have e2:cam (a.set i.toNat (l.set r.toNat r))+N.cm l=cam a+N.cm (l.set r.toNat r):=nZ N.cm _ hl
  rw [hlo.cm.1,hset.cm.1] at e2
  exact ⟨g2.set (.inr hset),⟨_,by simp only; rw [List.getElem?_set_self (by omega)],hset⟩,by simp only; omega,λ_=>by simp only; omega⟩
 all_goals (rw [au g0 (by omega)]; simp only; omega)
theorem uF {eQ:List ab} {all:List (List Int)} (hc:COk eQ) (h:mQ eQ.length all):Tot (fT eQ all) λr=>mQ eQ.length r.2/\cam r.2<=cam all/\(r.1=true->cam r.2<cam all):=by
 unfold fT
 have hl:=hc.max
 refine .bind (.iter (λs=>0<=s.2.1/\s.2.1<=(eQ.length:Int)/\mQ eQ.length s.2.2/\cam s.2.2<=cam all/\(s.1=true->cam s.2.2<cam all)) (λs=>((eQ.length:Int)-s.2.1).toNat) ⟨by simp,by simp,h,by simp,by simp⟩ λs hs=>?_) λr (hr:mQ eQ.length r.2/\cam r.2<=cam all/\(r.1=true->cam r.2<cam all))=>.pure hr
 obtain ⟨iz,i,a⟩:=s
 obtain ⟨g0,g1,g2,g3,g4⟩:=hs
 simp only at g0 g1 g2 g3 g4
 unfold jE
 refine .sel (λhlt=>?_) λhlt=>.inr ⟨g2,g3,g4⟩
 simp only [decide_eq_true_eq] at hlt
 refine .bind (P:=λz=>mQ eQ.length z.2/\cam z.2<=cam all/\(z.1=true->cam z.2<cam all)) ?_ λz hz=>.inl ⟨⟨?_,?_,hz⟩,?_⟩
 ·refine .bind (.nth g0 (by rw [g2.1]; exact hlt)) λl ⟨hl',hm⟩=>.sel (λ_=>.pure ⟨g2,g3,g4⟩) λhne=>?_
  have hlo:lO l:=(g2.2 l hm).resolve_left (by rintro rfl; simp at hne)
  refine .bind (uA hc g0 hlt) λes he=>.bind (.nth g0 hlt) λq ⟨hq,hqm⟩=>.bind (yv (hc.q q hqm) (by omega) hlo) λaf haf=>?_
  refine .bind (.iter (λs=>0<=s.2.1/\s.2.1<=(es.length:Int)/\mQ eQ.length s.2.2/\cam s.2.2<=cam all/\(s.1=true->cam s.2.2<cam all)) (λs=>((es.length:Int)-s.2.1).toNat) ⟨by simp,by simp,g2,g3,g4⟩ λs hs=>?_) λr (hr:mQ eQ.length r.2/\cam r.2<=cam all/\(r.1=true->cam r.2<cam all))=>.pure hr
  obtain ⟨fresh',j,a'⟩:=s
  obtain ⟨k0,k1,k2,k3,k4⟩:=hs
  simp only at k0 k1 k2 k3 k4
  unfold jD
  refine .sel (λhlt'=>?_) λ_=>.inr ⟨k2,k3,k4⟩
  simp only [decide_eq_true_eq] at hlt'
  refine .bind (P:=λz=>mQ eQ.length z.2/\cam z.2<=cam all/\(z.1=true->cam z.2<cam all)) ?_ λz hz=>.inl ⟨⟨?_,?_,hz⟩,?_⟩
  ·refine .bind (.nth k0 hlt') λe ⟨_,hem⟩=>.bind (yw (all:=a') k2 (he.2 e hem).1 (he.2 e hem).2 haf) λr hr=>.sel (λhr1=>.pure ⟨hr.1,by simp only; omega,λ_=>by have:=hr.2.2 hr1; simp only; omega⟩) λ_=>.pure ⟨hr.1,by simp only; omega,λh=>by have:=k4 h; simp only; omega⟩
  all_goals (rw [au k0 (by omega)]; simp only; omega)
 all_goals (rw [au g0 (by omega)]; simp only; omega)
theorem yx {eQ:List ab} (hc:COk eQ):Tot (dY eQ) λall=>all.length=eQ.length/\∀ l∈all,lO l:=by
 unfold dY
 rw [aM hc,ob9]
 have hl:=hc.max
 have h1:=hc.one
 refine .sf rfl (.bind (P:=mQ eQ.length) (.iter (λs=>0<=s.2/\s.2<=(eQ.length:Int)/\mQ s.2.toNat s.1) (λs=>((eQ.length:Int)-s.2).toNat) ⟨by simp,by simp,by simp [mQ]⟩ λs hs=>?_) λa0 ha0=>.bind xL λsf hsf=>.bind (.nth (by omega) (by rw [ha0.1]; omega)) λ_ _ =>
  .bind (P:=mQ eQ.length) (.iter (λs=>mQ eQ.length s) cam (ha0.set (.inr hsf)) λs hs=>?_) λa1 ha1=>.bind (P:=λall=>all.length=eQ.length/\∀ l∈all,lO l) (.iter (λs=>0<=s.1/\s.1<=(eQ.length:Int)/\mQ eQ.length s.2/\∀ (j:Nat) l,(j:Int)<s.1->s.2[j]?=some l->lO l) (λs=>((eQ.length:Int)-s.1).toNat) ⟨by simp,by simp,ha1,λj l h=>by simp only at h; omega⟩ λs hs=>?_) λr hr=>.pure hr)
 ·obtain ⟨a,i⟩:=s
  obtain ⟨g0,g1,g2⟩:=hs
  simp only at g0 g1 g2
  unfold jF
  refine .sel (λhlt=>?_) λhlt=>.inr ?_
  ·simp only [decide_eq_true_eq] at hlt
   refine .bind (.app (by simp [g2.1]; omega)) λr hr=>.inl ?_
   subst hr
   rw [au g0 (by omega)]
   refine ⟨⟨by simp only; omega,by simp only; omega,by simp [g2.1]; omega,λl hl'=>?_⟩,by simp only; omega⟩
   simp only [List.mem_append,List.mem_singleton] at hl'
   rcases hl' with h | rfl
   ·exact g2.2 l h
   ·exact .inl rfl
  ·simp only [decide_eq_false_iff_not] at hlt
   rw [show i.toNat=eQ.length by omega] at g2
   exact g2
 ·unfold jG
  exact .bind (uF hc hs) λr hr=>.sel (λh=>.inl ⟨hr.1,hr.2.2 h⟩) λ_=>.inr hr.1
 ·obtain ⟨i,a⟩:=s
  obtain ⟨g0,g1,g2,g3⟩:=hs
  simp only at g0 g1 g2 g3
  unfold jH
  refine .sel (λhlt=>?_) λhlt=>.inr (show a.length=eQ.length/\∀ l∈a,lO l from ?_)
  ·simp only [decide_eq_true_eq] at hlt
   have hia:i<a.length:=by rw [g2.1]; exact hlt
   refine .bind (P:=λz=>mQ eQ.length z/\∀ (j:Nat) l,(j:Int)<i+1->z[j]?=some l->lO l) (.bind (.nth g0 hia) λl ⟨hl',hm⟩=>.sel (λhe=>.bind xL λsf hsf=>.pure ⟨g2.set (.inr hsf),λj l2 hj hl2=>?_⟩) λhne=>.pure ⟨g2,λj l2 hj hl2=>?_⟩) λz hz=>.inl ?_
   ·by_cases e:j=i.toNat
    ·subst e
     have hlt3:i.toNat<a.length:=by omega
     rw [List.getElem?_set_self hlt3] at hl2
     injection hl2 with hl2
     exact hl2▸hsf
    ·rw [List.getElem?_set_ne (λh=>e h.symm)] at hl2
     exact g3 j l2 (by omega) hl2
   ·by_cases e:j=i.toNat
    ·subst e
     rw [hl'] at hl2
     injection hl2 with hl2
     subst hl2
     exact (g2.2 l hm).resolve_left (by rintro rfl; simp at hne)
    ·exact g3 j l2 (by omega) hl2
   ·rw [au g0 (by omega)]
    exact ⟨⟨by simp only; omega,by simp only; omega,hz⟩,by simp only; omega⟩
  ·simp only [decide_eq_false_iff_not] at hlt
   refine ⟨g2.1,λl hm=>?_⟩
   obtain ⟨j,hj,rfl⟩:=List.getElem_of_mem hm
   exact g3 j _ (by have:=g2.1; omega) (List.getElem?_eq_getElem hj)
theorem AO {q:ab} {m:Int} {cs:List Int} (hq:QOk m q) (hf:lO cs):Tot (g7 q cs) λq'=>QOk m q'/\q'.Op=q.Op:=by
 have hv:=hq
 unfold QOk at hv
 unfold g7
 refine .bind (P:=λb=>b=true↔(q.Op=2\/q.Op=5\/q.Op=6\/q.Op=9)) (.sel (λh=>.pure ?_) λh=>.sel (λh'=>.pure ?_) λh'=>.sel (λh''=>.pure ?_) λh''=>.pure ?_) λb hb=>.sel (λhbt=>?_) λhbf=>.sel (λh=>?_) λ_=>.pure ⟨hq,rfl⟩
 ·simp only [beq_iff_eq] at *; simp [h]
 ·simp only [beq_iff_eq] at *; simp [h']
 ·simp only [beq_iff_eq] at *; simp [h'']
 ·simp only [beq_eq_false_iff_ne,ne_eq] at *; simp [h,h',h'']
 ·have ha:Rg q.A:=by have:=hb.1 hbt; unfold Rg at *; omega
  refine .bind (.nth (ha.lt hf.1).1 (ha.lt hf.1).2) λx ⟨_,hm⟩=>.pure ⟨?_,rfl⟩
  have hx:=hf.2 x hm
  rcases hb.1 hbt with h | h | h | h <;> simp [h] at hv <;> simp [QOk,h,hv,hx]
 ·simp only [beq_iff_eq] at h
  simp [h] at hv
  exact .bind (.nth (hv.2.1.lt hf.1).1 (hv.2.1.lt hf.1).2) λx ⟨_,hm⟩=>.bind (.nth (hv.2.2.1.lt hf.1).1 (hv.2.2.1.lt hf.1).2) λy ⟨_,hm'⟩=>.pure ⟨.inr (.inr (.inl ⟨h,hv.1,hf.2 x hm,hf.2 y hm',hv.2.2.2⟩)),rfl⟩
theorem xM:sk fU:=λ{eQ} hc=>by
 unfold fU
 rw [aM hc,ob9]
 have hl:=hc.max
 refine .sf rfl (.bind (yx hc) λcs hcs=>.bind (lu (n:=eQ.length) (λi q'=>∃ q:ab,eQ[i]?=some q/\QOk eQ.length q'/\(q.Op=10\/q.Op=4->q'.Op=10\/q'.Op=4)) hc.max (λi out h0 h1 h2=>?_) λout=>?_) λout ho=>.pure ⟨hc.alike ho,rfl,by rw [ho.1]; exact Nat.le_refl _⟩)
 ·unfold c7
  refine .st (by simpa using h1) (.bind (.nth h0 (by rw [hcs.1]; exact h1)) λl ⟨_,hm⟩=>.bind (.nth h0 h1) λq ⟨hq,hqm⟩=>.bind (AO (hc.q q hqm) (hcs.2 l hm)) λq' hq'=>.bind (.app (by simp [h2]; omega)) λr hr=>.pure ⟨q',?_,q,hq,hq'.1,λh=>by rw [hq'.2]; exact h⟩)
  rw [au h0 (by omega),hr]
 ·unfold c7; rw [aj (by simp)]
theorem qB {eQ:List ab} (hc:COk eQ) {x:Int} (h0:0<=x) (h1:x<eQ.length):Tot (eL eQ x) λy=>0<=y/\y<eQ.length:=by
 have hl:=hc.max
 unfold eL
 refine .bind (P:=λz=>match z with | .inl y=>0<=y/\y<(eQ.length:Int) | .inr _=>True) (.iter (λs=>0<=s.2/\s.2<=(eQ.length:Int)/\0<=s.1/\s.1<(eQ.length:Int)) (λs=>((eQ.length:Int)-s.2).toNat) ⟨by simp,by simp,h0,h1⟩ λs hs=>?_) λz hz=>.both (λy e=>by subst e; exact .pure hz) λ_ _=>.pure ⟨h0,h1⟩
 obtain ⟨y,i⟩:=s
 obtain ⟨g0,g1,g2,g3⟩:=hs
 simp only at g0 g1 g2 g3
 unfold lc
 refine .sel (λhlt=>?_) λhlt=>.inr trivial
 simp only [decide_eq_true_eq] at hlt
 refine .bind (.nth g2 g3) λq ⟨hq,hm⟩=>.sel (λ_=>.inr ⟨g2,g3⟩) λh4=>.bind (.nth g2 g3) λq' ⟨hq',_⟩=>.inl ?_
 obtain rfl:q=q':=o9 (hq.symm.trans hq')
 simp only [bne_eq_false_iff_eq] at h4
 have hv:=hc.q q hm
 unfold QOk at hv
 simp [h4] at hv
 rw [au g0 (by omega)]
 exact ⟨⟨by simp only; omega,by simp only; omega,hv.2.2.2.1,hv.2.2.2.2⟩,by simp only; omega⟩
theorem xN:sk fV:=λ{eQ} hc=>by
 unfold fV
 rw [aM hc,ob9]
 have hl:=hc.max
 refine .sf rfl (.bind (lu (n:=eQ.length) (λi q'=>∃ q:ab,eQ[i]?=some q/\QOk eQ.length q'/\(q.Op=10\/q.Op=4->q'.Op=10\/q'.Op=4)) hc.max (λi out h0 h1 h2=>?_) λout=>?_) λout ho=>.pure ⟨hc.alike ho,rfl,by rw [ho.1]; exact Nat.le_refl _⟩)
 ·unfold c8
  refine .st (by simpa using h1) (.bind (.nth h0 h1) λq ⟨hq,hqm⟩=>.bind (P:=λq'=>QOk eQ.length q'/\q'.Op=q.Op) ?_ λq' hq'=>.bind (.app (by simp [h2]; omega)) λr hr=>.pure ⟨q',?_,q,hq,hq'.1,λh=>by rw [hq'.2]; exact h⟩)
  ·have hv:=hc.q q hqm
   have hw:=hv
   unfold QOk at hw
   refine .sel (λh=>?_) λ_=>.pure ⟨hv,rfl⟩
   simp only [Bool.or_eq_true,beq_iff_eq] at h
   have hr:0<=q.N/\q.N<eQ.length:=by rcases h with h | h <;> simp [h] at hw <;> omega
   refine .bind (qB hc hr.1 hr.2) λy hy=>.pure ⟨?_,rfl⟩
   rcases h with h | h <;> simp [h] at hw <;> simp [QOk,h,hw,hy]
  ·rw [au h0 (by omega),hr]
 ·unfold c8; rw [aj (by simp)]
end
noncomputable section
def nx (q:ab) (i:Int):List Int:=if q.Op=10 then [] else if q.Op=4 then [q.N] else if q.Op=5/\q.N<i+1 then [q.N,i+1] else if q.Op=5/\q.N>i+1 then [i+1,q.N] else [i+1]
theorem pJ {eQ:List ab} {i:Int} {q:ab} (h0:0<=i) (hi:eQ[i.toNat]?=some q) (hl:i<=1000):dh eQ i=some (nx q i):=by
 refine Tot.eq ?_
 have hlt:i.toNat<eQ.length:=by
  rcases Nat.lt_or_ge i.toNat eQ.length with h | h
  ·exact h
  ·rw [List.getElem?_eq_none h] at hi; cases hi
 unfold dh
 refine .bind (.nth h0 (by omega)) λq' ⟨hq,_⟩=>?_
 obtain rfl:q=q':=o9 (hi.symm.trans hq)
 rw [au h0 (by omega)]
 unfold nx
 refine .sel (λh=>.pure ?_) λe1=>.sel (λh=>.pure ?_) λe2=>.sel (λh=>.pure ?_) λe3=>.sel (λh=>.pure ?_) λe4=>.pure ?_
 all_goals simp only [beq_iff_eq,beq_eq_false_iff_ne,ne_eq,Bool.and_eq_true,Bool.and_eq_false_iff,decide_eq_true_eq,decide_eq_false_iff_not] at *
 ·rw [if_pos h]
 ·rw [if_neg e1,if_pos h]
 ·rw [if_neg e1,if_neg e2,if_pos h]
 ·rw [if_neg e1,if_neg e2,if_neg (by omega),if_pos h]
 ·rw [if_neg e1,if_neg e2,if_neg (by omega),if_neg (by omega)]
theorem q9 {eQ:List ab} (hc:COk eQ) {i:Nat} {q:ab} (hi:eQ[i]?=some q):∀ x∈nx q i,0<=x/\x<eQ.length:=by
 have hlt:i<eQ.length:=by
  rcases Nat.lt_or_ge i eQ.length with h | h
  ·exact h
  ·rw [List.getElem?_eq_none h] at hi; cases hi
 have hm:=hc.max
 obtain ⟨l,e,h1,h2⟩:=uA hc (i:=i) (by omega) (by omega)
 rw [pJ (by omega) (by simpa using hi) (by omega)] at e
 injection e with e
 exact e▸h2
def gG (q:ab):List Int:=if q.Op=2\/q.Op=5\/q.Op=6\/q.Op=9 then [q.A] else if q.Op=3 then (if q.A=q.B then [q.A] else [min q.A q.B,max q.A q.B]) else []
def aH (q:ab):Int:=if q.Op=1\/q.Op=2\/q.Op=3\/q.Op=7 then q.Dst else -1
theorem BG {q:ab} {m:Int} (h:QOk m q) (hm:m<=600):j8 q=some (gG q):=by
 refine Tot.eq ?_
 unfold j8 gG
 rw [wJ,decide_eq_true (h.mono hm),ob9]
 refine .sf rfl (.bind (P:=λb=>b=true↔(q.Op=2\/q.Op=5\/q.Op=6\/q.Op=9)) (.sel (λh=>.pure ?_) λh=>.sel (λh'=>.pure ?_) λh'=>.sel (λh''=>.pure ?_) λh''=>.pure ?_) λb hb=>.sel (λh=>.pure ?_) λh=>.sel (λh'=>.sel (λh''=>.pure ?_) λh''=>.pure ?_) λh'=>.pure ?_)
 all_goals try simp only [beq_iff_eq,beq_eq_false_iff_ne,ne_eq] at *
 ·simp [h]
 ·simp [h']
 ·simp [h'']
 ·simp [h,h',h'']
 ·rw [if_pos (hb.1 h)]
 ·rw [if_neg (λhh=>by rw [hb.2 hh] at h; cases h),if_pos h',if_pos h'']
 ·rw [if_neg (λhh=>by rw [hb.2 hh] at h; cases h),if_pos h',if_neg h'']
 ·rw [if_neg (λhh=>by rw [hb.2 hh] at h; cases h),if_neg h']
theorem wL {q:ab} {m:Int} (h:QOk m q):∀ x∈gG q,Rg x:=by
 intro x hx
 unfold gG at hx
 unfold QOk at h
 split at hx
 ·rename_i h'
  rw [List.mem_singleton.1 hx]
  unfold Rg at *; omega
 ·split at hx
  ·rename_i h3
   simp [h3] at h
   split at hx
   ·rw [List.mem_singleton.1 hx]; exact h.2.1
   ·simp only [List.mem_cons,List.not_mem_nil,or_false] at hx
    unfold Rg at *; omega
  ·simp at hx
theorem uG {q:ab} {m:Int} (h:QOk m q) (hm:m<=600):bZ q=some (aH q):=wK q h hm
theorem mv {q:ab} {m:Int} (h:QOk m q):aH q = -1\/Rg (aH q):=by
 unfold aH
 unfold QOk at h
 split
 ·right; unfold Rg at *; omega
 ·exact .inl rfl
def Fn (l:List Bool) (g:Nat->Bool):Prop:=l.length=12/\∀ k,k<12->l[k]?=some (g k)
theorem Fn.ext {l:List Bool} {g g':Nat->Bool} (h:Fn l g) (he:∀ k,k<12->g k=g' k):Fn l g':=⟨h.1,λk hk=>by rw [h.2 k hk,he k hk]⟩
theorem Fn.set {l:List Bool} {g:Nat->Bool} (h:Fn l g) (i:Nat) (b:Bool):Fn (l.set i b) (λk=>if k=i then b else g k):=⟨by rw [List.length_set]; exact h.1,λk hk=>by
 by_cases e:k=i
 ·subst e; have:k<l.length:=by rw [h.1]; exact hk
  rw [List.getElem?_set_self this]; simp
 ·rw [List.getElem?_set_ne (λh=>e h.symm),h.2 k hk]; simp [e]⟩
theorem Fn.rep (b:Bool):Fn (List.replicate 12 b) (λ_=>b):=⟨by simp,λk hk=>by rw [List.getElem?_replicate,if_pos hk]⟩
theorem Fn.of {l:List Bool} (h:l.length=12):Fn l (λk=>(l[k]?).getD false):=⟨h,λk hk=>by have h1:l[k]?=some (l[k]'(by omega)):=List.getElem?_eq_getElem (by omega); simp only [h1,Option.getD_some]⟩
theorem Fn.inj {l l':List Bool} {g:Nat->Bool} (h:Fn l g) (h':Fn l' g):l=l':=by
 apply List.ext_getElem?
 intro k
 rcases Nat.lt_or_ge k 12 with hk | hk
 ·rw [h.2 k hk,h'.2 k hk]
 ·rw [List.getElem?_eq_none (by rw [h.1]; exact hk),List.getElem?_eq_none (by rw [h'.1]; exact hk)]
def ra (n:Nat) (live:List (List Bool)):Prop:=live.length=n/\∀ l∈live,l.length=12
def lv (live:List (List Bool)) (x:Int) (r:Nat):Bool:=(((live[x.toNat]?).getD [])[r]?).getD false
theorem AP {live:List (List Bool)} {x:Int} {l:List Bool} (h:live[x.toNat]?=some l):(λr=>lv live x r)=λk=>(l[k]?).getD false:=by funext r; unfold lv; rw [h]; rfl
def eS (live:List (List Bool)) (q:ab) (i:Int) (r:Nat):Bool:=(nx q i).any λx=>lv live x r
theorem nc {eQ : List ab} (hc : COk eQ) {live : List (List Bool)} (hl : ra eQ.length live) {i : Int} {q : ab} (h0 : 0 ≤ i) (hi : eQ[i.toNat]? = some q) : Tot (fW eQ live i) fun l => Fn l (eS live q i) := by
  have hlt : i.toNat < eQ.length := by
    rcases Nat.lt_or_ge i.toNat eQ.length with h | h
    · exact h
    · rw [List.getElem?_eq_none h] at hi; cases hi
  have hmx := hc.max
  have hnx := q9 hc hi
  rw [show ((i.toNat : Nat) : Int) = i by omega] at hnx
  have hlen : (nx q i).length ≤ 2 := by unfold nx; repeat' split
                                        all_goals simp
  unfold fW
  rw [pJ h0 hi (by omega)]
  refine .bind (.mk (by omega) (by decide)) fun l0 hl0 => ?_
  subst hl0
  rw [ob9]
  refine .bind (P := fun l => Fn l (eS live q i)) (.iter (fun s => 0 ≤ s.1 ∧ s.1 ≤ ((nx q i).length : Int) ∧ Fn s.2 (fun r => ((nx q i).take s.1.toNat).any fun x => lv live x r)) (fun s => (((nx q i).length : Int) - s.1).toNat) ⟨by simp, by simp, ?_⟩ fun s hs => ?_) fun l h => .pure h
  · exact (Fn.rep false).ext fun k _ => by simp
  obtain ⟨j, l⟩ := s
  obtain ⟨g0, g1, g2⟩ := hs
  simp only at g0 g1 g2
  unfold l6
  refine .sel (fun hlt' => ?_) fun hge => .inr (show Fn l (eS live q i) from ?_)
  · simp only [decide_eq_true_eq] at hlt'
    have hj : j.toNat < (nx q i).length := by omega
    obtain ⟨x, hx⟩ : ∃ x, (nx q i)[j.toNat]? = some x := ⟨_, List.getElem?_eq_getElem hj⟩
    have hxm := hnx x (List.mem_of_getElem? hx)
    refine .bind (P := fun l' => Fn l' (fun r => ((nx q i).take (j + 1).toNat).any fun x => lv live x r)) (.iter (fun s => 0 ≤ s.1 ∧ s.1 ≤ 12 ∧ Fn s.2 (fun r => (((nx q i).take j.toNat).any fun x => lv live x r) || (decide ((r : Int) < s.1) && lv live x r))) (fun s => (12 - s.1).toNat) ⟨by simp, by simp, ?_⟩ fun s hs => ?_) fun l' h' => .inl ?_
    · refine g2.ext fun k _ => ?_
      have : decide ((k : Int) < 0) = false := by simp
      simp only [this, Bool.false_and, Bool.or_false]
    · obtain ⟨r, l'⟩ := s
      obtain ⟨k0, k1, k2⟩ := hs
      simp only at k0 k1 k2
      unfold l5
      refine .sel (fun hr => ?_) fun hr => .inr (show Fn l' _ from k2.ext fun k hk => ?_)
      · simp only [decide_eq_true_eq] at hr
        have hrl : r < l'.length := by rw [k2.1]; exact hr
        have hr12 : r.toNat < 12 := by omega
        refine .bind (.nth k0 hrl) fun y ⟨hy, _⟩ => ?_
        have hy' := k2.2 r.toNat hr12
        rw [hy] at hy'
        injection hy' with hy'
        simp only at hy'
        refine .bind (P := fun b => b = (y || lv live x r.toNat)) (.sel (fun h => .pure (by rw [h]; rfl)) fun h => ?_) fun b hb => .bind (.nth k0 hrl) fun _ _ => .bind (.upd k0 hrl) fun r2 hr2 => .inl ?_
        · refine .bind (.nth g0 hlt') fun x2 ⟨hx2, _⟩ => ?_
          obtain rfl : x = x2 := o9 (hx.symm.trans hx2)
          refine .bind (.nth hxm.1 (by rw [hl.1]; exact hxm.2)) fun lx ⟨hlx, hlm⟩ => .bind (.nth k0 (by rw [hl.2 lx hlm]; exact hr)) fun z ⟨hz, _⟩ => .pure ?_
          rw [h]
          unfold lv
          rw [hlx]
          simp [hz]
        · subst hr2 hb
          rw [au k0 (by omega)]
          refine ⟨⟨by simp only; omega, by simp only; omega, (k2.set r.toNat _).ext fun k hk => ?_⟩, by simp only; omega⟩
          simp only
          split
          · rename_i e
            subst e
            rw [hy']
            have h1 : decide (((r.toNat : Nat) : Int) < r) = false := by simp; omega
            have h2 : decide (((r.toNat : Nat) : Int) < r + 1) = true := by simp; omega
            rw [h1, h2]; simp
          · rename_i e
            have : decide ((k : Int) < r) = decide ((k : Int) < r + 1) := by rw [decide_eq_decide]; omega
            rw [this]
      · simp only [decide_eq_false_iff_not] at hr
        have h1 : decide ((k : Int) < r) = true := by simp; omega
        rw [h1, show (j + 1).toNat = j.toNat + 1 by omega, List.take_add_one, hx]
        simp [List.any_append]
    · rw [au g0 (by omega)]
      exact ⟨⟨by simp only; omega, by simp only; omega, h'⟩, by simp only; omega⟩
  · simp only [decide_eq_false_iff_not] at hge
    refine g2.ext fun k _ => ?_
    rw [List.take_of_length_le (by omega)]
    rfl
def wM (q:ab) (g:Nat->Bool) (r:Nat):Bool:=(gG q).contains (r:Int)||(!decide ((r:Int)=aH q)&&g r)
theorem tB {q : ab} {m : Int} (hq : QOk m q) (hm : m ≤ 600) {l : List Bool} {g : Nat → Bool} (hl : Fn l g) : Tot (i6 q l) fun l' => Fn l' (wM q g) := by
  unfold i6
  rw [uG hq hm, BG hq hm]
  refine .bind (.app (by simp [hl.1])) fun r hr => ?_
  rw [List.nil_append] at hr
  subst hr
  simp only [ob9]
  have hs := mv hq
  refine .bind (P := fun l' => Fn l' (fun r => !decide ((r : Int) = aH q) && g r)) (.sel (fun h => ?_) fun h => .pure (hl.ext fun k _ => ?_)) fun l1 h1 => ?_
  · simp only [ge_iff_le, decide_eq_true_eq] at h
    have hr : Rg (aH q) := hs.resolve_left (by omega)
    refine .bind (.nth (hr.lt hl.1).1 (hr.lt hl.1).2) fun _ _ => .bind (.upd (hr.lt hl.1).1 (hr.lt hl.1).2) fun r2 hr2 => .pure (hr2 ▸ (hl.set _ _).ext fun k _ => ?_)
    by_cases e : (k : Int) = aH q
    · have h1 : k = (aH q).toNat := by omega
      have h2 : decide ((k : Int) = aH q) = true := by simpa using e
      simp only [h2, if_pos h1, Bool.not_true, Bool.false_and]
    · have h1 : ¬ k = (aH q).toNat := by unfold Rg at hr; omega
      have h2 : decide ((k : Int) = aH q) = false := by simpa using e
      simp only [h2, if_neg h1, Bool.not_false, Bool.true_and]
  · simp only [ge_iff_le, decide_eq_false_iff_not] at h
    have : ¬ (k : Int) = aH q := by omega
    simp [this]
  have hlen : (gG q).length ≤ 2 := by unfold gG; repeat' split
                                      all_goals simp
  refine .bind (P := fun l' => Fn l' (wM q g)) (.iter (fun s => 0 ≤ s.1 ∧ s.1 ≤ ((gG q).length : Int) ∧ Fn s.2 (fun r => ((gG q).take s.1.toNat).contains (r : Int) || (!decide ((r : Int) = aH q) && g r))) (fun s => (((gG q).length : Int) - s.1).toNat) ⟨by simp, by simp, h1.ext fun k _ => by simp⟩ fun s hs => ?_) fun l h => .pure h
  obtain ⟨j, l2⟩ := s
  obtain ⟨g0, g1, g2⟩ := hs
  simp only at g0 g1 g2
  unfold lf
  refine .sel (fun hlt => ?_) fun hge => .inr (show Fn l2 (wM q g) from g2.ext fun k _ => ?_)
  · simp only [decide_eq_true_eq] at hlt
    refine .bind (.nth g0 hlt) fun x ⟨hx, hxm⟩ => ?_
    have hr := wL hq x hxm
    refine .bind (.nth (hr.lt g2.1).1 (hr.lt g2.1).2) fun _ _ => .bind (.upd (hr.lt g2.1).1 (hr.lt g2.1).2) fun r2 hr2 => .inl ?_
    subst hr2
    rw [au g0 (by omega)]
    refine ⟨⟨by simp only; omega, by simp only; omega, (g2.set _ _).ext fun k _ => ?_⟩, by simp only; omega⟩
    have hx0 := (hr.lt g2.1).1
    have ht : (gG q).take (j + 1).toNat = (gG q).take j.toNat ++ [x] := by rw [show (j + 1).toNat = j.toNat + 1 by omega, List.take_add_one, hx]; rfl
    simp only [ht]
    by_cases e : (k : Int) = x
    · have h1 : k = x.toNat := by omega
      have h2 : ((gG q).take j.toNat ++ [x]).contains (k : Int) = true := by rw [e]; simp
      rw [if_pos h1, h2, Bool.true_or]
    · have h1 : ¬ k = x.toNat := by omega
      have h2 : ((gG q).take j.toNat ++ [x]).contains (k : Int) = ((gG q).take j.toNat).contains (k : Int) := by
        rw [Bool.eq_iff_iff]; simp [e]
      rw [if_neg h1, h2]
  · simp only [decide_eq_false_iff_not] at hge
    rw [List.take_of_length_le (by omega)]
    rfl
theorem xO {a b:List Bool} (ha:a.length=12) (hb:b.length=12):Tot (lh a b) λz=>z=true↔a=b:=by
 unfold lh
 refine .bind (P:=λz=>match z with | .inl y=>y=false/\a≠b | .inr _=>a=b) (.iter (λi:Int=>0<=i/\i<=12/\∀ (j:Nat),(j:Int)<i->a[j]?=b[j]?) (λi=>(12-i).toNat) ⟨by omega,by omega,λj h=>by omega⟩ λi ⟨h0,h1,h2⟩=>?_) λz hz=>?_
 ·unfold mA
  refine .sel (λh=>?_) λh=>.inr ?_
  ·simp only [decide_eq_true_eq] at h
   refine .bind (.nth h0 h) λx ⟨hx,_⟩=>.bind (.nth h0 (by omega)) λy ⟨hy,_⟩=>.sel (λhe=>.inr ⟨rfl,?_⟩) λhe=>.inl ?_
   ·rintro rfl
    rw [hx] at hy
    injection hy with hy
    subst hy
    simp at he
   ·rw [au h0 (by omega)]
    refine ⟨⟨by omega,by omega,λj hj=>?_⟩,by omega⟩
    by_cases e:(j:Int)=i
    ·obtain rfl:j=i.toNat:=by omega
     rw [hx,hy]
     simpa using he
    ·exact h2 j (by omega)
  ·simp only [decide_eq_false_iff_not] at h
   apply List.ext_getElem?
   intro j
   rcases Nat.lt_or_ge j 12 with hj | hj
   ·exact h2 j (by omega)
   ·rw [List.getElem?_eq_none (by omega),List.getElem?_eq_none (by omega)]
 ·refine .both (λy e=>?_) λ_ e=>?_
  ·subst e; exact .pure (by rw [hz.1]; simpa using hz.2)
  ·subst e; exact .pure (by simp [ha,hb]; exact hz)
def bm (l:List Bool):Nat:=(l.map λb=>if b then 0 else 1).sum
theorem Ca:∀ {l x:List Bool},l.length=x.length->(∀ k:Nat,l[k]?=some true->x[k]?=some true)->bm x<=bm l/\(x≠l->bm x<bm l)
 | [],[],_,_=>⟨Nat.le_refl _,λh=>absurd rfl h⟩
 | [],_::_,h,_=>by simp at h
 | _::_,[],h,_=>by simp at h
 | a::l,b::x,h,hk=>by
  obtain ⟨h1,h2⟩:=Ca (l:=l) (x:=x) (by simpa using h) λk hl=>by simpa using hk (k+1) (by simpa using hl)
  have h0:=hk 0
  simp only [List.getElem?_cons_zero,Option.some.injEq] at h0
  have e1:bm (a::l)=(if a then 0 else 1)+bm l:=by simp [bm]
  have e2:bm (b::x)=(if b then 0 else 1)+bm x:=by simp [bm]
  rw [e1,e2]
  cases a <;> cases b <;> simp at h0 ⊢
  ·exact ⟨h1,h2⟩
  ·omega
  ·exact ⟨h1,h2⟩
def bms (live:List (List Bool)):Nat:=(live.map bm).sum
def Pre (eQ:List ab) (live:List (List Bool)):Prop:=∀ (i:Nat) q,eQ[i]?=some q->∀ r,r<12->lv live i r=true->wM q (eS live q i) r=true
theorem yy {live live':List (List Bool)} (h:∀ (x:Int) r,lv live x r=true->lv live' x r=true) {q:ab} {i:Int} {r:Nat} (ha:eS live q i r=true):eS live' q i r=true:=by
 unfold eS at *
 rw [List.any_eq_true] at *
 obtain ⟨x,hx,hr⟩:=ha
 exact ⟨x,hx,h x r hr⟩
theorem AQ {q:ab} {g g':Nat->Bool} {r:Nat} (h:g r=true->g' r=true) (hb:wM q g r=true):wM q g' r=true:=by
 unfold wM at *
 simp only [Bool.or_eq_true,Bool.and_eq_true] at *
 exact hb.imp id λhh=>⟨hh.1,h hh.2⟩
theorem yz {eQ:List ab} (hc:COk eQ) {live:List (List Bool)} (hl:ra eQ.length live) (hp:Pre eQ live):Tot (di eQ live) λr=>ra eQ.length r.2/\Pre eQ r.2/\(r.1=true->bms r.2<bms live):=by
 have hmx:=hc.max
 unfold di
 rw [a8 (by omega) (by omega)]
 refine .bind (.iter (λs=>-1<=s.2.1/\s.2.1<(eQ.length:Int)/\ra eQ.length s.2.2/\Pre eQ s.2.2/\bms s.2.2<=bms live/\(s.1=true->bms s.2.2<bms live)) (λs=>(s.2.1+1).toNat) ⟨by simp only; omega,by simp only; omega,hl,hp,by simp,by simp⟩ λs hs=>?_) λr (hr:ra eQ.length r.2/\Pre eQ r.2/\bms r.2<=bms live/\(r.1=true->bms r.2<bms live))=>.pure ⟨hr.1,hr.2.1,hr.2.2.2⟩
 obtain ⟨iz,i,a⟩:=s
 obtain ⟨g0,g1,g2,g3,g4,g5⟩:=hs
 simp only at g0 g1 g2 g3 g4 g5
 unfold ed
 refine .sel (λh=>?_) λh=>.inr ⟨g2,g3,g4,g5⟩
 simp only [ge_iff_le,decide_eq_true_eq] at h
 refine .bind (P:=λz=>ra eQ.length z.2/\Pre eQ z.2/\bms z.2<=bms live/\(z.1=true->bms z.2<bms live)) ?_ λz hz=>.inl ?_
 ·refine .bind (.nth h g1) λq ⟨hq,hqm⟩=>.bind (nc hc g2 h hq) λaf haf=>.bind (tB (hc.q q hqm) (by omega) haf) λx hx=>.bind (.nth h (by rw [g2.1]; exact g1)) λl ⟨hl',hlm⟩=>?_
  have hl12:=g2.2 l hlm
  refine .bind (xO hx.1 hl12) λsm hsm=>.sel (λhne=>.pure ?_) λ_=>.pure ⟨g2,g3,g4,g5⟩
  have hxl:x≠l:=λe=>by rw [hsm.2 e] at hne; cases hne
  have hlv:=AP hl'
  have hsub:∀ k,l[k]?=some true->x[k]?=some true:=λk hk=>by
   have hk12:k<12:=by
    rcases Nat.lt_or_ge k l.length with h | h
    ·omega
    ·rw [List.getElem?_eq_none h] at hk; cases hk
   have h1:lv a i k=true:=by have:=congrFun hlv k; simp only at this; rw [this,hk]; rfl
   have h2:=g3 i.toNat q hq k hk12 (by rw [show ((i.toNat:Nat):Int)=i by omega]; exact h1)
   rw [show ((i.toNat:Nat):Int)=i by omega] at h2
   rw [hx.2 k hk12,h2]
  have hb:=(Ca (by rw [hx.1,hl12]) hsub).2 hxl
  have e2:bms (a.set i.toNat x)+bm l=bms a+bm x:=nZ bm x hl'
  have hlen:i.toNat<a.length:=by rw [g2.1]; omega
  have hle:∀ (y:Int) r,lv a y r=true->lv (a.set i.toNat x) y r=true:=λy r hy=>by
   unfold lv at *
   by_cases e:y.toNat=i.toNat
   ·rw [e] at hy ⊢
    rw [hl'] at hy
    rw [List.getElem?_set_self hlen]
    simp only [Option.getD_some] at *
    have hlr:l[r]?=some true:=by
     cases hq':l[r]? with
     | none=>rw [hq'] at hy; simp at hy
     | some b=>rw [hq'] at hy; simp at hy; rw [hy]
    rw [hsub r hlr]; rfl
   ·rw [List.getElem?_set_ne (λh=>e h.symm)]; exact hy
  refine ⟨⟨by rw [List.length_set]; exact g2.1,λy hy=>(pH hy).elim (g2.2 y) λe=>e▸hx.1⟩,λj p hj r hr hlr=>?_,by simp only; omega,λ_=>by simp only; omega⟩
  have hmono:∀ r,eS a p j r=true->eS (a.set i.toNat x) p j r=true:=λr=>yy hle
  refine AQ (hmono r) ?_
  by_cases e:j=i.toNat
  ·subst e
   obtain rfl:q=p:=o9 (hq.symm.trans hj)
   unfold lv at hlr
   rw [show (((i.toNat:Nat):Int)).toNat=i.toNat by omega,List.getElem?_set_self hlen] at hlr
   simp only [Option.getD_some] at hlr
   rw [hx.2 r hr] at hlr
   rw [show ((i.toNat:Nat):Int)=i by omega]
   exact hlr
  ·refine g3 j p hj r hr ?_
   unfold lv at hlr ⊢
   rw [show (((j:Nat):Int)).toNat=j by omega] at *
   rw [List.getElem?_set_ne (λh=>e h.symm)] at hlr
   exact hlr
 ·rw [a8 (i:=i-1) (by omega) (by omega)]
  exact ⟨⟨by simp only; omega,by simp only; omega,hz⟩,by simp only; omega⟩
theorem xP {eQ:List ab} (hc:COk eQ):Tot (dZ eQ) (ra eQ.length):=by
 have hmx:=hc.max
 unfold dZ
 rw [aM hc,ob9]
 refine .sf rfl (.bind (P:=λs=>ra eQ.length s/\∀ x r,lv s x r=false) (.iter (λs=>0<=s.2/\s.2<=(eQ.length:Int)/\s.1=List.replicate s.2.toNat (List.replicate 12 false)) (λs=>((eQ.length:Int)-s.2).toNat) ⟨by simp,by simp,by simp⟩ λs hs=>?_) λa0 ha0=>.bind (P:=ra eQ.length) (.iter (λs=>ra eQ.length s/\Pre eQ s) bms ⟨ha0.1,λi q _ r _ h=>by rw [ha0.2] at h; cases h⟩ λs hs=>?_) λr hr=>.pure hr)
 ·obtain ⟨a,i⟩:=s
  obtain ⟨g0,g1,g2⟩:=hs
  simp only at g0 g1 g2
  unfold i7
  refine .sel (λhlt=>?_) λhlt=>.inr (show ra eQ.length a/\∀ x r,lv a x r=false from ?_)
  ·simp only [decide_eq_true_eq] at hlt
   refine .bind (.mk (by omega) (by decide)) λl hl'=>.bind (.app (by rw [g2]; simp; omega)) λr hr=>.inl ?_
   subst hr hl' g2
   rw [au g0 (by omega)]
   refine ⟨⟨by simp only; omega,by simp only; omega,?_⟩,by simp only; omega⟩
   simp only
   rw [show (i+1).toNat=i.toNat+1 by omega]
   rw [List.replicate_succ' (n:=i.toNat)]
   rfl
  ·simp only [decide_eq_false_iff_not] at hlt
   subst g2
   refine ⟨⟨by simp; omega,λl hl=>by rw [(List.mem_replicate.1 hl).2]; simp⟩,λx r=>?_⟩
   unfold lv
   rw [List.getElem?_replicate]
   split
   ·rw [Option.getD_some,List.getElem?_replicate]
    split <;> rfl
   ·rfl
 ·unfold bD
  exact .bind (yz hc hs.1 hs.2) λr hr=>.sel (λh=>.inl ⟨⟨hr.1,hr.2.1⟩,hr.2.2 h⟩) λ_=>.inr hr.1
theorem AR {q:ab} {m:Int} (hq:QOk m q) {l:List Bool} (hl:l.length=12):Tot (g8 q l) λb=>b=true->q.Op=1\/q.Op=2\/q.Op=3:=by
 unfold g8
 refine .bind (P:=λb=>b=true↔(q.Op=1\/q.Op=2\/q.Op=3)) (.sel (λh=>.pure ?_) λh=>.sel (λh'=>.pure ?_) λh'=>.pure ?_) λb hb=>.sel (λh=>?_) λ_=>.pure (by simp)
 ·simp only [beq_iff_eq] at *; simp [h]
 ·simp only [beq_iff_eq] at *; simp [h']
 ·simp only [beq_eq_false_iff_ne,ne_eq] at *; simp [h,h']
 ·have ho:=hb.1 h
  have hd:Rg q.Dst:=by unfold QOk at hq; unfold Rg at *; omega
  exact .bind (.nth (hd.lt hl).1 (hd.lt hl).2) λ_ _=>.pure λ_=>ho
theorem xQ:sk fX:=λ{eQ} hc=>by
 unfold fX
 rw [aM hc,ob9]
 have hl:=hc.max
 refine .sf rfl (.bind (xP hc) λbs hbs=>.bind (lu (n:=eQ.length) (λi q'=>∃ q:ab,eQ[i]?=some q/\QOk eQ.length q'/\(q.Op=10\/q.Op=4->q'.Op=10\/q'.Op=4)) hc.max (λi out h0 h1 h2=>?_) λout=>?_) λout ho=>.pure ⟨hc.alike ho,rfl,by rw [ho.1]; exact Nat.le_refl _⟩)
 ·unfold c9
  refine .st (by simpa using h1) (.bind (.nth h0 h1) λq ⟨hq,hqm⟩=>.bind (P:=λq'=>QOk eQ.length q'/\(q.Op=10\/q.Op=4->q'.Op=10\/q'.Op=4)) (.bind (nc hc hbs h0 hq) λaf haf=>.bind (AR (hc.q q hqm) haf.1) λb hb=>.sel (λh=>.pure ?_) λ_=>.pure ⟨hc.q q hqm,id⟩) λq' hq'=>.bind (.app (by simp [h2]; omega)) λr hr=>.pure ⟨q',?_,q,hq,hq'⟩)
  ·have ho:=hb h
   have hn:=hc.nxt hq (by omega) (by omega)
   rw [au h0 (by omega)]
   exact ⟨.inr (.inr (.inr (.inl ⟨rfl,rfl,rfl,rfl,by simp only; omega,by simp only; omega⟩))),λh'=>by omega⟩
  ·rw [au h0 (by omega),hr]
 ·unfold c9; rw [aj (by simp)]
end

end Go.Proofs.YtmjebmhcbnkojaaGreat.N
