/- Printed by a program of mine: that the program's functions compute it. -/
import Derived.Test.YtgcmopfhafoabaaGreatDoorK5
set_option linter.unusedVariables false
set_option linter.unusedSimpArgs false
set_option maxRecDepth 100000
set_option maxHeartbeats 4000000
namespace Go.Proofs.YtgcmopfhafoabaaGreatDoor.N
open Go.Proofs.YtgcmopfhafoabaaGreatDoor.X
open T Tryz
noncomputable section
theorem vR {k:Nat} {iP:aP->Int->Option (Expr×Int)} (pB:lz iP):lz (iO k iP):=by
 intro a0 a1 aw g_0 S w r h aN hO hlt
 unfold iO at h
 refine au func220 z z ?_
 have s:=Sep.sm hO hlt
 refine .g (.c (.alloc t204 s ?_))
 intro g1 W s
 refine .nil (.seq (.g (.q z (.q z (.q z (bv h λb1 hb1 h=>.chunkL 4 13 (b1.1) (M:=S) (w0:=w) (L:=[.box g1 204 [vi 0,vi 0,sv aA],.box g_0 117 [sv aw,vi b1.2]]) ?_ ?_))))))
 ·refine .both (decide (a1<2)) (λb=>?_) (λb=>?_)
  ·refine .xx b z (.xx b z (.xx b z ?_))
   cases aK b hb1
   exact .s (pkt b z z z) z (.nil (ck 4 (s.to [0,0])))
  have hg1:=b
  have h:=aL b hb1
  refine .g hg1 (.q z (bv h λy1 hy1 h=>?_))
  have s:=s.p1
  refine .g hg1 (.c (.cS (L0:=[.box g_0 117 [sv aw,vi a0.p]]) s func39 (λS h1 h2 h3=>(aj hy1 (s.ks aN h1) h2 (zz h1))) z z ?_))
  rintro ⟨⟩ W s
  refine .g hg1 (.q z (.s (pkf hg1 z z z) z ?_))
  cases h
  exact .nil (ck 4 (s.to [1,0]))
 intro W s
 refine .nil (.cond z (λb=>?_) (λb=>?_))
 ·have h:=aK b h
  refine .g (.q z (bv h λy2 hy2 h=>?_))
  have s:=s.p1
  refine .c (.cS (L0:=[.box g_0 117 [sv aw,vi b1.2]]) s func239 (λS h1 h2 h3=>(uk hy2 (s.ks aN h1) h2 (zz h1))) z z ?_)
  rintro v1 W s
  refine .c (.st t204 s.p2 z z z ?_)
  intro W s
  cases h
  exact .nil (.ret (ac v1 (rc s t204 z rn z z) z (s.to [1,1])))
 have h:=aL b h
 refine .skip (.g (.q z (bv h λy3 hy3 h=>?_)))
 have s:=s.p1
 refine .c (.cS (L0:=[.box g_0 117 [sv aw,vi b1.2]]) s func196 (λS h1 h2 h3=>(qY hy3 (s.ks aN h1) h2 (zz h1))) z z ?_)
 rintro ⟨⟩ W s
 refine .qn z (.g (.q z (.q z (.q z (bv h λy4 hy4 h=>.c (.cS (L0:=[.box g_0 117 [sv aw,vi y3.2]]) s func220 (λS h1 h2 h3=>(pB hy4 (s.ks aN h1) h2 (zz h1))) z z ?_))))))
 rintro v2 W s
 refine .c (.alloc t204 s ?_)
 intro g2 W s
 refine .c (.st t204 s z z z ?_)
 intro W s
 refine .nil (.seq (.rk 7 s [0,2] T.mix ?_))
 intro W s
 have t:=s.to [0,2]
 refine .tp' 0 z z t (.ts' 1 z (λW t=>ld t204 t z z z z z) t z (.tp' 2 z z t (.tp' 3 z z t (.tp' 4 z z t (bv h λy5 hy5 h=>?_)))))
 have s:=s.p1
 refine .by1 5 z (.cS (L0:=[.box g_0 117 [sv aw,vi y4.2]]) s func220 (λS h1 h2 h3=>(pB hy5 (s.ks aN h1) h2 (zz h1))) z z ?_)
 rintro v3 W s
 refine s.an [2,3] λt=>bv h λy6 hy6 h=>?_
 have s:=s.p1.p3
 refine .by1 6 z (.cS (L0:=[ae (sv v2) 204 3 be y4.1.Args,ae (sv v3) 204 3 be y5.1.Args]) s func237 (λS h1 h2 h3=>(dE hy6 h2 (zz h1))) z z ?_)
 rintro v4 W s
 refine s.an [2,2] λt=>.by1 7 z (.st t204 s.p3 z z z ?_)
 intro W s
 refine ⟨λh=>absurd z h,?_⟩
 cases h
 exact .done (.ret (ac v4 (rc s t204 z rn z z) z (s.to [2,1])))
theorem qI (k:Nat):lz (eM k):=by
  induction k with
  | zero=>exact by intro a0 a1 aw g_0 S w r h aN hO hlt; exact no h
  | succ k ih=>exact vR (k:=k) ih
theorem kc {k:Nat}:lz (eM k):=(qI k)
theorem qa {k:Nat} {a0:aP} {aw:Hd} {g_0:Nat} {S:Nat->Prop} {w:World} {r:ax×Int} (h:kt k a0=some r) (aN:RV w (Old S w) (sv aw) 5 1 (D.int .u8) a0.b) (hO:bQ w [.box g_0 117 [sv aw,vi a0.p]] S) (hlt:∀ b,S b->b<w.heap.size):CL 216 #[Pt g_0] w (Ret S w (λs:Hd×Hd×Hd=>.agg #[vi r.1.Kind,vi r.1.Var,vi r.1.Box,vi r.1.Expr.Op,vi r.1.Expr.N,(sv s.1),(sv s.2.1),(sv s.2.2)]) (λs=>[.box g_0 117 [sv aw,vi r.2],ae (sv s.1) 204 3 be r.1.Expr.Args,ae (sv s.2.1) 206 8 aC r.1.Body,ae (sv s.2.2) 206 8 aC r.1.Else])):=by
 unfold kt at h
 refine au func216 z z ?_
 have s:=Sep.sm hO hlt
 refine .g (.c (.alloc t206 s ?_))
 intro g1 W s
 refine .nil (.g (.q z (bv h λy1 hy1 h=>?_)))
 have s:=s.p1
 refine .c (.cS (L0:=[.box g_0 117 [sv aw,vi a0.p]]) s func39 (λS h1 h2 h3=>(aj hy1 (s.ks aN h1) h2 (zz h1))) z z ?_)
 rintro ⟨⟩ W s
 refine .qn z (.g (.q z (.q z (.q z (bv h λy2 hy2 h=>.c (.cS (L0:=[.box g_0 117 [sv aw,vi y1.2]]) s func39 (λS h1 h2 h3=>(aj hy2 (s.ks aN h1) h2 (zz h1))) z z ?_))))))
 rintro ⟨⟩ W s
 refine .q z (bv h λy3 hy3 h=>.c (.cS (L0:=[.box g_0 117 [sv aw,vi y2.2]]) s func220 (λS h1 h2 h3=>(kc hy3 (s.ks aN h1) h2 (zz h1))) z z ?_))
 rintro v1 W s
 refine .s (bs T.s206 z z) z (.c (.st t206 s.p2 z z z ?_))
 intro W s
 refine .nil (.ret ?_)
 have s:=s.nilv 206 8 aC
 have s:=s.nilv 206 8 aC
 cases h
 exact ac (v1,aA,aA) (rc s.p2 t206 z rn z z) z (s.to [3,3,1,0])
theorem ul {k:Nat} {a0:aP} {a1:Int} {aw:Hd} {g_0:Nat} {S:Nat->Prop} {w:World} {r:ax×Int} (h:kH k a0 a1=some r) (aN:RV w (Old S w) (sv aw) 5 1 (D.int .u8) a0.b) (hO:bQ w [.box g_0 117 [sv aw,vi a0.p]] S) (hlt:∀ b,S b->b<w.heap.size):CL 219 #[Pt g_0,vi a1] w (Ret S w (λs:Hd×Hd×Hd=>.agg #[vi r.1.Kind,vi r.1.Var,vi r.1.Box,vi r.1.Expr.Op,vi r.1.Expr.N,(sv s.1),(sv s.2.1),(sv s.2.2)]) (λs=>[.box g_0 117 [sv aw,vi r.2],ae (sv s.1) 204 3 be r.1.Expr.Args,ae (sv s.2.1) 206 8 aC r.1.Body,ae (sv s.2.2) 206 8 aC r.1.Else])):=by
 unfold kH at h
 refine au func219 z z ?_
 have s:=Sep.sm hO hlt
 refine .g (.c (.alloc t206 s ?_))
 intro g1 W s
 refine .nil (.seq (.g (.q z (.qn z (.cond z (λb=>?_) (λb=>?_))))))
 ·have h:=aK b h
  refine .g (.q z (bv h λy1 hy1 h=>?_))
  have s:=s.p1
  refine .c (.cS (L0:=[.box g_0 117 [sv aw,vi a0.p]]) s func216 (λS h1 h2 h3=>(qa hy1 (s.ks aN h1) h2 (zz h1))) z z ?_)
  rintro ⟨v1,v2,v3⟩ W s
  refine .c (.st t206 s.p4 z z z ?_)
  intro W s
  cases h
  exact .nil (.ret (ac (v1,v2,v3) (rc s t206 z rn z z) z (s.to [1,1,1,1])))
 have h:=aL b h
 refine .skip (.g (.q z (.q z (bv h λy2 hy2 h=>?_))))
 have s:=s.p1
 refine .c (.cS (L0:=[.box g_0 117 [sv aw,vi a0.p]]) s func39 (λS h1 h2 h3=>(aj hy2 (s.ks aN h1) h2 (zz h1))) z z ?_)
 rintro ⟨⟩ W s
 refine .qn z (.seq (.g (.q z (bv h λy3 hy3 h=>.c (.cS (L0:=[.box g_0 117 [sv aw,vi y2.2]]) s func39 (λS h1 h2 h3=>(aj hy3 (s.ks aN h1) h2 (zz h1))) z z ?_)))))
 rintro ⟨⟩ W s
 refine .qn z (.cond z (λb=>?_) (λb=>?_))
 ·have h:=aK b h
  refine .g (.q z (.q z (.q z (bv h λy4 hy4 h=>.c (.cS (L0:=[.box g_0 117 [sv aw,vi y3.2]]) s func39 (λS h1 h2 h3=>(aj hy4 (s.ks aN h1) h2 (zz h1))) z z ?_)))))
  rintro ⟨⟩ W s
  refine .q z (bv h λy5 hy5 h=>.c (.cS (L0:=[.box g_0 117 [sv aw,vi y4.2]]) s func220 (λS h1 h2 h3=>(kc hy5 (s.ks aN h1) h2 (zz h1))) z z ?_))
  rintro v4 W s
  refine .s (bs T.s206 z z) z (.c (.st t206 s.p2 z z z ?_))
  intro W s
  refine .nil (.ret ?_)
  have s:=s.nilv 206 8 aC
  have s:=s.nilv 206 8 aC
  cases h
  exact ac (v4,aA,aA) (rc s.p2 t206 z rn z z) z (s.to [3,3,1,0])
 have h:=aL b h
 refine .skip (.g (.q z (.q z (bv h λy6 hy6 h=>.c (.cS (L0:=[.box g_0 117 [sv aw,vi y3.2]]) s func39 (λS h1 h2 h3=>(aj hy6 (s.ks aN h1) h2 (zz h1))) z z ?_)))))
 rintro ⟨⟩ W s
 refine .s (bs T.s206 z z) z (.c (.st t206 s.p1 z z z ?_))
 intro W s
 refine .nil (.ret ?_)
 have s:=s.nilv 204 3 be
 have s:=s.nilv 206 8 aC
 have s:=s.nilv 206 8 aC
 cases h
 exact ac (aA,aA,aA) (rc s.p3 t206 z rn z z) z (s.to [4,2,1,0])
def eG (F:aP->Int->Int->Int->Bool->Option ((List ax)×Int)):Prop:=∀ {a0:aP} {a1:Int} {a2:Int} {a3:Int} {a4:Bool} {aw:Hd} {g_0:Nat} {S:Nat->Prop} {w:World} {r:(List ax)×Int} (h:F a0 a1 a2 a3 a4=some r) (aN:RV w (Old S w) (sv aw) 5 1 (D.int .u8) a0.b) (hO:bQ w [.box g_0 117 [sv aw,vi a0.p]] S) (hlt:∀ b,S b->b<w.heap.size) , CL 175 #[Pt g_0,vi a1,vi a2,vi a3,.bool a4] w (Ret S w (λs:Hd=>(sv s)) (λs=>[.box g_0 117 [sv aw,vi r.2],ae (sv s) 206 8 aC r.1]))
def gI (F:aP->Int->Int->Bool->Option ((List ax)×Int)):Prop:=∀ {a0:aP} {a1:Int} {a2:Int} {a3:Bool} {aw:Hd} {g_0:Nat} {S:Nat->Prop} {w:World} {r:(List ax)×Int} (h:F a0 a1 a2 a3=some r) (aN:RV w (Old S w) (sv aw) 5 1 (D.int .u8) a0.b) (hO:bQ w [.box g_0 117 [sv aw,vi a0.p]] S) (hlt:∀ b,S b->b<w.heap.size) , CL 199 #[Pt g_0,vi a1,vi a2,.bool a3] w (Ret S w (λs:Hd=>(sv s)) (λs=>[.box g_0 117 [sv aw,vi r.2],ae (sv s) 206 8 aC r.1]))
def jz (F:aP->Int->Int->Bool->Option (ax×Int)):Prop:=∀ {a0:aP} {a1:Int} {a2:Int} {a3:Bool} {aw:Hd} {g_0:Nat} {S:Nat->Prop} {w:World} {r:ax×Int} (h:F a0 a1 a2 a3=some r) (aN:RV w (Old S w) (sv aw) 5 1 (D.int .u8) a0.b) (hO:bQ w [.box g_0 117 [sv aw,vi a0.p]] S) (hlt:∀ b,S b->b<w.heap.size) , CL 217 #[Pt g_0,vi a1,vi a2,.bool a3] w (Ret S w (λs:Hd×Hd×Hd=>.agg #[vi r.1.Kind,vi r.1.Var,vi r.1.Box,vi r.1.Expr.Op,vi r.1.Expr.N,(sv s.1),(sv s.2.1),(sv s.2.2)]) (λs=>[.box g_0 117 [sv aw,vi r.2],ae (sv s.1) 204 3 be r.1.Expr.Args,ae (sv s.2.1) 206 8 aC r.1.Body,ae (sv s.2.2) 206 8 aC r.1.Else]))
def gJ (F:aP->Int->Int->Option ((List ax)×Int)):Prop:=∀ {a0:aP} {a1:Int} {a2:Int} {aw:Hd} {g_0:Nat} {S:Nat->Prop} {w:World} {r:(List ax)×Int} (h:F a0 a1 a2=some r) (aN:RV w (Old S w) (sv aw) 5 1 (D.int .u8) a0.b) (hO:bQ w [.box g_0 117 [sv aw,vi a0.p]] S) (hlt:∀ b,S b->b<w.heap.size) , CL 218 #[Pt g_0,vi a1,vi a2] w (Ret S w (λs:Hd=>(sv s)) (λs=>[.box g_0 117 [sv aw,vi r.2],ae (sv s) 206 8 aC r.1]))
theorem um {k:Nat} {bp:aP->Int->Int->Int->Bool->Option ((List ax)×Int)} {bI:aP->Int->Int->Bool->Option ((List ax)×Int)} {cL:aP->Int->Int->Bool->Option (ax×Int)} {ca:aP->Int->Int->Option ((List ax)×Int)} (eZ:eG bp) (kd:gI bI) (mw:jz cL) (ke:gJ ca):eG (gX k bp bI cL ca):=by
 intro a0 a1 a2 a3 a4 aw g_0 S w r h aN hO hlt
 unfold gX at h
 refine au func175 z z ?_
 have s:=Sep.sm hO hlt
 refine .g (.qn z (.g (.c (.lg (L1:=[]) [] aC u162 t206 (s.to [0]) z z z (.nil) ?_ z lG))))
 intro v1 W s
 refine .qn z (.seq (.g (.qn z (.block (bv h λy1 hy1 h=>?_)))))
 refine .via (.iter (λs1 E' W'=>∃ (v4:Hd),aD E' [(0,Pt g_0),(1,vi a1),(2,vi a2),(3,vi a3),(4,.bool a4),(11,(sv v4)),(12,vi s1.2.1)]/\Sep S w W' [.box g_0 117 [sv aw,vi s1.2.2],ae (sv v4) 206 8 aC s1.1]) (λy2 x E' W'=>x=.exit 0/\∃ (v5:Hd),aD E' [(11,(sv v5))]/\Sep S w W' [.box g_0 117 [sv aw,vi y2.2],ae (sv v5) 206 8 aC y2.1]) hy1 ⟨v1,sb z,s.to [1,0]⟩ ?_) ?_
 ·intro s1 y3 E W h hI
  obtain ⟨v3,hE,s⟩:=hI
  refine CW.sub hE ?_
  unfold lL at h
  refine .seq (.g (.q z (.q z (.qn z (.cond z (λb=>?_) (λb=>?_))))))
  ·have h:=aK b h
   refine .skip (.seq (.block (.region (.q z (.q z (.q z (.q z (.q z (bv h λy4 hy4 h=>.c (.cS (L0:=[.box g_0 117 [sv aw,vi s1.2.2]]) s func199 (λS h1 h2 h3=>(kd hy4 (s.ks aN h1) h2 (zz h1))) z z ?_))))))))))
   rintro v6 W s
   refine bv h λr1 hr1 h=>.c (.appv hr1 (s.to [2,1,0]) u162 t206 z z z ?_)
   intro v7 W s
   refine .qn z (.region (.q z (.q z (.q z (.nil ?_)))))
   cases h
   exact ⟨z,v7,sb z,s.to [1,0]⟩
  have h:=aL b h
  refine .exit ?_
  cases h
  exact ⟨by simp,z,v3,sb z,s.to [0,0]⟩
 intro x E W hJ
 obtain ⟨rfl,v8,hE,s⟩:=hJ
 refine ⟨_,hE.sub,?_⟩
 cases h
 exact .g (.q z (.qn z (.ret (ac v8 (rt z rn) z (s.to [0,0])))))
def vS (w:World) (S:Nat->Prop) (aw:Hd) (g_0:Nat) (a0:aP) (a1:Int) (a2:Int) (a3:Bool) (r:(List ax)×Int):Env->World->Prop:=Fin Tryz.prog Tryz.f199 S w (λs:Hd=>(sv s)) (λs=>[.box g_0 117 [sv aw,vi r.2],ae (sv s) 206 8 aC r.1]) .ret
theorem vT {k:Nat} {bp:aP->Int->Int->Int->Bool->Option ((List ax)×Int)} {bI:aP->Int->Int->Bool->Option ((List ax)×Int)} {cL:aP->Int->Int->Bool->Option (ax×Int)} {ca:aP->Int->Int->Option ((List ax)×Int)} (eZ:eG bp) (kd:gI bI) (mw:jz cL) (ke:gJ ca):gI (iQ k bp bI cL ca):=by
 intro a0 a1 a2 a3 aw g_0 S w r h aN hO hlt
 unfold iQ at h
 refine au func199 z z ?_
 have s:=Sep.sm hO hlt
 refine .g (.qn z (bv h λy1 hy1 h=>?_))
 refine .seq (CW.via (R':=λx E' W'=>(match y1 with | .inl o1=>x=.normal/\aD E' [(0,Pt g_0)]/\Sep S w W' [.box g_0 117 [sv aw,vi o1]] | .inr o2=>x=.ret/\vS w S aw g_0 a0 a1 a2 a3 o2 E' W')) ?_ ?_)
 ·have h:=hy1
  refine .g (.q z (bv h λy2 hy2 h=>.c (.cS (L0:=[.box g_0 117 [sv aw,vi a0.p]]) s func39 (λS h1 h2 h3=>(aj hy2 (s.ks aN h1) h2 (zz h1))) z z ?_)))
  rintro ⟨⟩ W s
  refine .nil (.block (bv h λy3 hy3 h=>?_))
  refine .seq (CW.via (R':=λx E' W'=>x=.normal/\aD E' [(0,Pt g_0),(1,vi a1),(2,vi a2),(3,.bool a3),(10,vi y2.1),(11,.bool y3)]/\Sep S w W' [.box g_0 117 [sv aw,vi y2.2]]) ?_ ?_)
  ·have h:=hy3
   refine .g (.q z (.q z (.nil ?_)))
   refine .cs z h ?_ ?_ <;> intro h
   ·refine .skip ?_
    cases h
    exact ⟨z,sb z,s.to [0]⟩
   refine .region (.q z (.q z (.nil ?_)))
   cases h
   exact ⟨z,sb z,s.to [0]⟩
  intro x E W hJ
  obtain ⟨rfl,hE,s⟩:=hJ
  refine ⟨_,hE.sub,?_⟩
  refine .cond z (λb=>?_) (λb=>?_)
  ·have h:=aK b h
   refine .g (.q z (bv h λy4 hy4 h=>.c (.cS (L0:=[.box g_0 117 [sv aw,vi y2.2]]) s func216 (λS h1 h2 h3=>(qa hy4 (s.ks aN h1) h2 (zz h1))) z z ?_)))
   rintro ⟨v1,v2,v3⟩ W s
   refine .c (.lg (L1:=[ae (sv v1) 204 3 be y4.1.Expr.Args,ae (sv v2) 206 8 aC y4.1.Body,ae (sv v3) 206 8 aC y4.1.Else]) [(ax.mk y4.1.Kind y4.1.Var y4.1.Box (Expr.mk y4.1.Expr.Op y4.1.Expr.N y4.1.Expr.Args) y4.1.Body y4.1.Else)] aC u162 t206 (s.to [1,1,1,0]) z z z (.aggE (iI _) (.flat (c1:=[vi y4.1.Kind]) z (.flat (c1:=[vi y4.1.Var]) z (.flat (c1:=[vi y4.1.Box]) z (.aggE (fI _) (.flat (c1:=[vi y4.1.Expr.Op]) z (.flat (c1:=[vi y4.1.Expr.N]) z (.row (.row (.row .nil)))))))))) ?_ z lG)
   intro v4 W s
   refine .qn z (.ret ?_)
   cases h
   exact ⟨z,ac (vs:=[_]) v4 (rt z rn) z (s.to [1,0])⟩
  have h:=aL b h
  refine .g (.q z (.q z (.nil ?_)))
  refine .cs z h ?_ ?_ <;> intro h
  ·refine .g (.q z (.qn z (.cond z (λb=>?_) (λb=>?_))))
   ·have h:=aK b h
    refine .g (.q z (.q z (.q z (.q z (bv h λy5 hy5 h=>.c (.cS (L0:=[.box g_0 117 [sv aw,vi y2.2]]) s func217 (λS h1 h2 h3=>(mw hy5 (s.ks aN h1) h2 (zz h1))) z z ?_))))))
    rintro ⟨v5,v6,v7⟩ W s
    refine .c (.lg (L1:=[ae (sv v5) 204 3 be y5.1.Expr.Args,ae (sv v6) 206 8 aC y5.1.Body,ae (sv v7) 206 8 aC y5.1.Else]) [(ax.mk y5.1.Kind y5.1.Var y5.1.Box (Expr.mk y5.1.Expr.Op y5.1.Expr.N y5.1.Expr.Args) y5.1.Body y5.1.Else)] aC u162 t206 (s.to [1,1,1,0]) z z z (.aggE (iI _) (.flat (c1:=[vi y5.1.Kind]) z (.flat (c1:=[vi y5.1.Var]) z (.flat (c1:=[vi y5.1.Box]) z (.aggE (fI _) (.flat (c1:=[vi y5.1.Expr.Op]) z (.flat (c1:=[vi y5.1.Expr.N]) z (.row (.row (.row .nil)))))))))) ?_ z lG)
    intro v8 W s
    refine .qn z (.ret ?_)
    cases h
    exact ⟨z,ac (vs:=[_]) v8 (rt z rn) z (s.to [1,0])⟩
   have h:=aL b h
   refine .skip ?_
   cases h
   exact ⟨z,sb z,s.to [0]⟩
  refine .g (.q z (.q z (.nil ?_)))
  refine .cs z h ?_ ?_ <;> intro h
  ·refine .g (.q z (.q z (.q z (.cu 2 33 ((decide (a2>0))&&a3) s ?_ ?_))))
   ·refine .both (decide (a2>0)) (λb=>?_) (λb=>?_)
    ·have hg1:=b
     exact .g hg1 (.q z (.s (pkt hg1 z z z) z (.nil (ck 2 s z (bi hg1)))))
    exact .xx b z (.s (pkf b z z z) z (.nil (ck 2 s z (bj b))))
   intro W s
   refine .nil (.cond z (λb=>?_) (λb=>?_))
   ·have h:=aK b h
    refine .g (.q z (.q z (.q z (bv h λy6 hy6 h=>.c (.cS (L0:=[.box g_0 117 [sv aw,vi y2.2]]) s func218 (λS h1 h2 h3=>(ke hy6 (s.ks aN h1) h2 (zz h1))) z z ?_)))))
    rintro v9 W s
    refine .qn z (.ret ?_)
    cases h
    exact ⟨z,ac (vs:=[_]) v9 (rt z rn) z (s.to [0,0])⟩
   have h:=aL b h
   refine .skip ?_
   cases h
   exact ⟨z,sb z,s.to [0]⟩
  refine bv h λy7 hy7 h=>?_
  refine .seq (CW.via (R':=λx E' W'=>x=.normal/\aD E' [(0,Pt g_0),(1,vi a1),(10,vi y2.1),(38,.bool y7)]/\Sep S w W' [.box g_0 117 [sv aw,vi y2.2]]) ?_ ?_)
  ·have h:=hy7
   refine .g (.q z (.q z (.nil ?_)))
   refine .cs z h ?_ ?_ <;> intro h
   ·refine .skip ?_
    cases h
    exact ⟨z,sb z,s.to [0]⟩
   refine .g (.q z (.q z (.nil ?_)))
   refine .cs z h ?_ ?_ <;> intro h
   ·refine .skip ?_
    cases h
    exact ⟨z,sb z,s.to [0]⟩
   refine .region (.q z (.q z (.nil ?_)))
   cases h
   exact ⟨z,sb z,s.to [0]⟩
  intro x E W hJ
  obtain ⟨rfl,hE,s⟩:=hJ
  refine ⟨_,hE.sub,?_⟩
  refine .cond z (λb=>?_) (λb=>?_)
  ·have h:=aK b h
   refine .g (.q z (.q z (bv h λy8 hy8 h=>.c (.cS (L0:=[.box g_0 117 [sv aw,vi y2.2]]) s func219 (λS h1 h2 h3=>(ul hy8 (s.ks aN h1) h2 (zz h1))) z z ?_))))
   rintro ⟨v10,v11,v12⟩ W s
   refine .c (.lg (L1:=[ae (sv v10) 204 3 be y8.1.Expr.Args,ae (sv v11) 206 8 aC y8.1.Body,ae (sv v12) 206 8 aC y8.1.Else]) [(ax.mk y8.1.Kind y8.1.Var y8.1.Box (Expr.mk y8.1.Expr.Op y8.1.Expr.N y8.1.Expr.Args) y8.1.Body y8.1.Else)] aC u162 t206 (s.to [1,1,1,0]) z z z (.aggE (iI _) (.flat (c1:=[vi y8.1.Kind]) z (.flat (c1:=[vi y8.1.Var]) z (.flat (c1:=[vi y8.1.Box]) z (.aggE (fI _) (.flat (c1:=[vi y8.1.Expr.Op]) z (.flat (c1:=[vi y8.1.Expr.N]) z (.row (.row (.row .nil)))))))))) ?_ z lG)
   intro v13 W s
   refine .qn z (.ret ?_)
   cases h
   exact ⟨z,ac (vs:=[_]) v13 (rt z rn) z (s.to [1,0])⟩
  have h:=aL b h
  refine .g (.q z (.q z (.nil ?_)))
  refine .cs z h ?_ ?_ <;> intro h
  ·refine .g (.s (bs T.s206 z z) z ?_)
   have s:=s.nilv 204 3 be
   have s:=s.nilv 206 8 aC
   have s:=s.nilv 206 8 aC
   refine .c (.lg (L1:=[ae (sv aA) 204 3 be [],ae (sv aA) 206 8 aC [],ae (sv aA) 206 8 aC []]) [(ax.mk 6 0 0 (Expr.mk 0 0 []) [] [])] aC u162 t206 (s.to [2,1,0,0]) z z z (.aggE (iI _) (.flat (c1:=[vi 6]) z (.flat (c1:=[vi 0]) z (.flat (c1:=[vi 0]) z (.aggE (fI _) (.flat (c1:=[vi 0]) z (.flat (c1:=[vi 0]) z (.row (.row (.row .nil)))))))))) ?_ z lG)
   intro v14 W s
   refine .qn z (.ret ?_)
   cases h
   exact ⟨z,ac (vs:=[_]) v14 (rt z rn) z (s.to [1,0])⟩
  refine .skip ?_
  cases h
  exact ⟨z,sb z,s.to [0]⟩
 intro x E W hJ
 rcases y1 with o3 | o4
 ·obtain ⟨rfl,hE,s⟩:=hJ
  refine ⟨_,hE.sub,?_⟩
  refine .g (.q z (.q z (bv h λy9 hy9 h=>.c (.cS (L0:=[.box g_0 117 [sv aw,vi o3]]) s func39 (λS h1 h2 h3=>(aj hy9 (s.ks aN h1) h2 (zz h1))) z z ?_))))
  rintro ⟨⟩ W s
  refine .q z (bv h λy10 hy10 h=>.c (.cS (L0:=[.box g_0 117 [sv aw,vi y9.2]]) s func220 (λS h1 h2 h3=>(kc hy10 (s.ks aN h1) h2 (zz h1))) z z ?_))
  rintro v15 W s
  refine .s (bs T.s206 z z) z ?_
  have s:=s.nilv 206 8 aC
  have s:=s.nilv 206 8 aC
  refine .c (.lg (L1:=[ae (sv v15) 204 3 be y10.1.Args,ae (sv aA) 206 8 aC [],ae (sv aA) 206 8 aC []]) [(ax.mk 7 0 0 (Expr.mk y10.1.Op y10.1.N y10.1.Args) [] [])] aC u162 t206 (s.to [3,1,0,0]) z z z (.aggE (iI _) (.flat (c1:=[vi 7]) z (.flat (c1:=[vi 0]) z (.flat (c1:=[vi 0]) z (.aggE (fI _) (.flat (c1:=[vi y10.1.Op]) z (.flat (c1:=[vi y10.1.N]) z (.row (.row (.row .nil)))))))))) ?_ z lG)
  intro v16 W s
  cases h
  exact .qn z (.ret (ac v16 (rt z rn) z (s.to [1,0])))
 obtain ⟨rfl,hF⟩:=hJ
 refine ⟨_,λ_ _ h=>h,?_⟩
 cases h
 exact hF
theorem xw {k:Nat} {bp:aP->Int->Int->Int->Bool->Option ((List ax)×Int)} {bI:aP->Int->Int->Bool->Option ((List ax)×Int)} {cL:aP->Int->Int->Bool->Option (ax×Int)} {ca:aP->Int->Int->Option ((List ax)×Int)} (eZ:eG bp) (kd:gI bI) (mw:jz cL) (ke:gJ ca):jz (kI k bp bI cL ca):=by
 intro a0 a1 a2 a3 aw g_0 S w r h aN hO hlt
 unfold kI at h
 refine au func217 z z ?_
 have s:=Sep.sm hO hlt
 refine .g (.c (.alloc t206 s ?_))
 intro g1 W s
 refine .nil (.g (.q z (.q z (bv h λy1 hy1 h=>?_))))
 have s:=s.p1
 refine .c (.cS (L0:=[.box g_0 117 [sv aw,vi a0.p]]) s func39 (λS h1 h2 h3=>(aj hy1 (s.ks aN h1) h2 (zz h1))) z z ?_)
 rintro ⟨⟩ W s
 refine .q z (bv h λy2 hy2 h=>.c (.cS (L0:=[.box g_0 117 [sv aw,vi y1.2]]) s func220 (λS h1 h2 h3=>(kc hy2 (s.ks aN h1) h2 (zz h1))) z z ?_))
 rintro v1 W s
 refine .c (.alloc t204 s ?_)
 intro g2 W s
 refine .c (.st t204 s z z z ?_)
 intro W s
 refine .nil (.g (.q z (.q z (.q z (.q z (.q z (bv h λy3 hy3 h=>?_)))))))
 have s:=s.p1
 refine .c (.cS (L0:=[.box g_0 117 [sv aw,vi y2.2]]) s func39 (λS h1 h2 h3=>(aj hy3 (s.ks aN h1) h2 (zz h1))) z z ?_)
 rintro ⟨⟩ W s
 refine .q z (bv h λy4 hy4 h=>.c (.cS (L0:=[.box g_0 117 [sv aw,vi y3.2]]) s func175 (λS h1 h2 h3=>(eZ hy4 (s.ks aN h1) h2 (zz h1))) z z ?_))
 rintro v2 W s
 refine .qn z (.seq (.rk 11 s [1,1,1,1] T.mix ?_))
 intro W s
 have t:=s.to [1,1,1,1]
 refine .ts' 0 z (λW t=>ld t204 t.p1 z z z z z) t z (.tp' 1 z z t (.tp' 2 z z t (.tp' 3 z z t (.tp' 4 z z t (.tp' 5 z z t (.tp' 6 z z t (.tp' 8 z z t (bv h λy5 hy5 h=>.by1 7 z (.cS (L0:=[.box g_0 117 [sv aw,vi y4.2]]) s func39 (λS h1 h2 h3=>(aj hy5 (s.ks aN h1) h2 (zz h1))) z z ?_)))))))))
 rintro ⟨⟩ W s
 refine s.an [1,1,1,1] λt=>bv h λy6 hy6 h=>.by1 9 z (.cS (L0:=[.box g_0 117 [sv aw,vi y5.2]]) s func175 (λS h1 h2 h3=>(eZ hy6 (s.ks aN h1) h2 (zz h1))) z z ?_)
 rintro v3 W s
 refine s.an [2,2,2,2] λt=>.ts' 10 z (λW t=>bs T.s206 z z) t z (.by1 11 z (.st t206 s.p5 z z z ?_))
 intro W s
 refine ⟨λh=>absurd z h,?_⟩
 cases h
 exact .done (.ret (ac (v1,v2,v3) (rc s t206 z rn z z) z (s.to [1,4,2,1])))
theorem vU {k:Nat} {bp:aP->Int->Int->Int->Bool->Option ((List ax)×Int)} {bI:aP->Int->Int->Bool->Option ((List ax)×Int)} {cL:aP->Int->Int->Bool->Option (ax×Int)} {ca:aP->Int->Int->Option ((List ax)×Int)} (eZ:eG bp) (kd:gI bI) (mw:jz cL) (ke:gJ ca):gJ (iR k bp bI cL ca):=by
 intro a0 a1 a2 aw g_0 S w r h aN hO hlt
 unfold iR at h
 refine au func218 z z ?_
 have s:=Sep.sm hO hlt
 refine .g (.qn z (.g (.qn z (.g (.q z (.q z (.q z (.q z (.q z (bv h λy1 hy1 h=>.c (.cS (L0:=[.box g_0 117 [sv aw,vi a0.p]]) s func39 (λS h1 h2 h3=>(aj hy1 (s.ks aN h1) h2 (zz h1))) z z ?_)))))))))))
 rintro ⟨⟩ W s
 refine bv h λy2 hy2 h=>.c (.cS (L0:=[.box g_0 117 [sv aw,vi y1.2]]) s func175 (λS h1 h2 h3=>(eZ hy2 (s.ks aN h1) h2 (zz h1))) z z ?_)
 rintro v1 W s
 refine .qn z (.g (.q z (.q z (bv h λy3 hy3 h=>.c (.cV s func238 (bo hy3) z z ?_)))))
 intro v2 W s
 refine bv h λy4 hy4 h=>.c (.cV s func238 (bo hy4) z z ?_)
 intro v3 W s
 refine bv h λy5 hy5 h=>?_
 have s:=s.p1
 refine .c (.cS (L0:=[ae (sv v2) 204 3 be y3.Args,ae (sv v3) 204 3 be y4.Args]) s func237 (λS h1 h2 h3=>(dE hy5 h2 (zz h1))) z z ?_)
 rintro v4 W s
 refine .s (bs T.s206 z z) z (.c (.alloc t206 s ?_))
 intro g1 W s
 refine .c (.st t206 s z z z ?_)
 intro W s
 refine .nil (.seq (bv h λy6 hy6 h=>bv h λy7 hy7 h=>bv h λy8 hy8 h=>bv h λy9 hy9 h=>bv h λr1 hr1 h=>?_))
 refine .via (R':=λx E' W'=>x=.normal/\∃ (g2:Nat) (v5:Hd) (v6:Hd) (v7:Hd),aD E' [(7,vi 3),(10,Pt g2)]/\Sep S w W' [.box g_0 117 [sv aw,vi y7.2],.box g2 206 [vi 3,vi 0,vi 0,vi y9.Op,vi y9.N,sv v5,sv v6,sv v7],ae (sv v5) 204 3 be y9.Args,ae (sv v6) 206 8 aC r1,ae (sv v7) 206 8 aC []]) ?_ ?_
 ·refine .rk 13 s [0] T.mix ?_
  intro W s
  have t:=s.to [0]
  refine .memo (λE' W'=>∃ (v10:Hd) (v11:Hd),aD E' [(7,vi 3),(30,.agg #[vi y9.Op,vi y9.N,sv v10]),(31,(sv v1)),(33,(sv v11))]/\Sep S w W' [.box g1 206 [vi 1,vi 3,vi 0,vi y5.Op,vi y5.N,sv v4,sv aA,sv aA],.box g_0 117 [sv aw,vi y7.2],ae (sv v1) 206 8 aC y2.1,ae (sv v10) 204 3 be y9.Args,ae (sv v11) 206 8 aC [(ax.mk 1 3 0 (Expr.mk y5.Op y5.N y5.Args) [] [])]]) 4 (nQ 14 [0,1,2,3,4,5,6,7,8,9]) ?_ ?_
  ·intro E W hJ
   obtain ⟨v12,v13,hE,s⟩:=hJ
   refine .sub hE ?_
   have t:=s.to [0]
   refine .by [10,12] ⟨⟨_,z,?_⟩,⟨_,z,?_⟩,trivial⟩
   ·refine (.appv hr1 (s.to [2,3,0,0,0]) u162 t206 z z z ?_)
    intro v14 W s
    refine s.an [1] λt=>.ts' 11 z (λW t=>bs T.s206 z z) t z (.by1 12 z (.alloc t206 s ?_))
    intro g3 W s
    refine s.an [2] λt=>.by1 13 z (.st t206 s z z z ?_)
    intro W s
    refine ⟨λh=>absurd z h,?_⟩
    refine .done ?_
    have s:=s.nilv 206 8 aC
    exact ⟨z,g3,v12,v14,aA,sb z,s.to [4,1,3,1,0]⟩
   refine (.alloc t206 s ?_)
   intro g4 W s
   refine s.an [1] λt=>.by1 10 z (.appv hr1 (s.to [3,4,0,0,0,0]) u162 t206 z z z ?_)
   intro v15 W s
   refine s.an [2] λt=>.ts' 11 z (λW t=>bs T.s206 z z) t z (.by1 13 z (.st t206 s.p1 z z z ?_))
   intro W s
   refine ⟨λh=>absurd z h,?_⟩
   refine .done ?_
   have s:=s.nilv 206 8 aC
   exact ⟨z,g4,v12,v15,aA,sb z,s.to [4,1,3,1,0]⟩
  intro J1
  refine .memo (λE' W'=>∃ (g6:Nat) (v17:Hd),aD E' [(7,vi 3),(10,Pt g6),(30,.agg #[vi y9.Op,vi y9.N,sv v17]),(31,(sv v1)),(32,.agg #[vi 1,vi 3,vi 0,vi y5.Op,vi y5.N,sv v4,sv aA,sv aA])]/\Sep S w W' [.box g1 206 [vi 1,vi 3,vi 0,vi y5.Op,vi y5.N,sv v4,sv aA,sv aA],ae (sv v4) 204 3 be y5.Args,.box g_0 117 [sv aw,vi y7.2],ae (sv v1) 206 8 aC y2.1,.box g6 206 [vi 0,vi 0,vi 0,vi 0,vi 0,sv aA,sv aA,sv aA],ae (sv v17) 204 3 be y9.Args]) 4 (nQ 14 [0,1,2,3,4,5,6,7,8,12]) ?_ ?_
  ·intro E W hJ
   obtain ⟨g7,v18,hE,s⟩:=hJ
   refine .sub hE ?_
   have t:=s.to [0]
   have s:=s.nilv 206 8 aC
   have s:=s.nilv 206 8 aC
   refine .by1 9 z (.lg (L1:=[ae (sv v4) 204 3 be y5.Args,ae (sv aA) 206 8 aC [],ae (sv aA) 206 8 aC []]) [(ax.mk 1 3 0 (Expr.mk y5.Op y5.N y5.Args) [] [])] aC u162 t206 (s.to [3,1,0,0,0,0,0,0]) z z z (.aggE (iI _) (.flat (c1:=[vi 1]) z (.flat (c1:=[vi 3]) z (.flat (c1:=[vi 0]) z (.aggE (fI _) (.flat (c1:=[vi y5.Op]) z (.flat (c1:=[vi y5.N]) z (.row (.row (.row .nil)))))))))) ?_ z lG)
   intro v19 W s
   refine s.an [1] λt=>.by1 10 z (.appv hr1 (s.to [3,0,0,0,0,0]) u162 t206 z z z ?_)
   intro v20 W s
   refine s.an [1] λt=>.ts' 11 z (λW t=>bs T.s206 z z) t z (.by1 13 z (.st t206 s.p3 z z z ?_))
   intro W s
   refine ⟨λh=>absurd z h,?_⟩
   refine .done ?_
   have s:=s.nilv 206 8 aC
   exact ⟨z,g7,v18,v20,aA,sb z,s.to [4,1,3,1,0]⟩
  intro J2
  refine .memo (λE' W'=>∃ (g9:Nat) (v24:Hd) (v25:Hd) (v26:Hd),aD E' [(7,vi 3),(10,Pt g9),(25,.agg #[vi y6.Op,vi y6.N,sv v24]),(29,.agg #[vi y8.Op,vi y8.N,sv v25]),(31,(sv v1)),(33,(sv v26))]/\Sep S w W' [.box g1 206 [vi 1,vi 3,vi 0,vi y5.Op,vi y5.N,sv v4,sv aA,sv aA],.box g_0 117 [sv aw,vi y7.2],ae (sv v1) 206 8 aC y2.1,.box g9 206 [vi 0,vi 0,vi 0,vi 0,vi 0,sv aA,sv aA,sv aA],ae (sv v24) 204 3 be y6.Args,ae (sv v25) 204 3 be y8.Args,ae (sv v26) 206 8 aC [(ax.mk 1 3 0 (Expr.mk y5.Op y5.N y5.Args) [] [])]]) 4 (nQ 14 [0,1,2,3,4,5,7,8,9,12]) ?_ ?_
  ·intro E W hJ
   obtain ⟨g10,v27,v28,v29,hE,s⟩:=hJ
   refine .sub hE ?_
   have t:=s.to [0]
   have s:=s.p5.p5
   refine .by1 6 z (.cS (L0:=[ae (sv v27) 204 3 be y6.Args,ae (sv v28) 204 3 be y8.Args]) s func237 (λS h1 h2 h3=>(dE hy9 h2 (zz h1))) z z ?_)
   rintro v30 W s
   refine s.an [1] λt=>.by1 10 z (.appv hr1 (s.to [3,4,0,0,0,0]) u162 t206 z z z ?_)
   intro v31 W s
   refine s.an [2] λt=>.ts' 11 z (λW t=>bs T.s206 z z) t z (.by1 13 z (.st t206 s.p4 z z z ?_))
   intro W s
   refine ⟨λh=>absurd z h,?_⟩
   refine .done ?_
   have s:=s.nilv 206 8 aC
   exact ⟨z,g10,v30,v31,aA,sb z,s.to [5,1,2,1,0]⟩
  intro J3
  refine .memo (λE' W'=>∃ (v35:Hd) (v36:Hd) (v37:Hd),aD E' [(7,vi 3),(25,.agg #[vi y6.Op,vi y6.N,sv v35]),(29,.agg #[vi y8.Op,vi y8.N,sv v36]),(31,(sv v1)),(33,(sv v37))]/\Sep S w W' [.box g1 206 [vi 1,vi 3,vi 0,vi y5.Op,vi y5.N,sv v4,sv aA,sv aA],.box g_0 117 [sv aw,vi y7.2],ae (sv v1) 206 8 aC y2.1,ae (sv v35) 204 3 be y6.Args,ae (sv v36) 204 3 be y8.Args,ae (sv v37) 206 8 aC [(ax.mk 1 3 0 (Expr.mk y5.Op y5.N y5.Args) [] [])]]) 5 (nQ 14 [0,1,2,3,4,5,7,8,9]) ?_ ?_
  ·intro E W hJ
   obtain ⟨v38,v39,v40,hE,s⟩:=hJ
   refine .sub hE ?_
   have t:=s.to [0]
   refine .by [6,12] ⟨⟨_,z,?_⟩,⟨_,z,?_⟩,trivial⟩
   ·have s:=s.p4.p4
    refine (.cS (L0:=[ae (sv v38) 204 3 be y6.Args,ae (sv v39) 204 3 be y8.Args]) s func237 (λS h1 h2 h3=>(dE hy9 h2 (zz h1))) z z ?_)
    rintro v41 W s
    refine s.an [1] λt=>?_
    exact .atl (J1 _ _ ⟨v41,v40,sb z,s.to [1,1,1,0,0]⟩) (by kernel_rfl)
   refine (.alloc t206 s ?_)
   intro g11 W s
   refine s.an [1] λt=>?_
   exact .atl (J3 _ _ ⟨g11,v38,v39,v40,sb z,s.tk [1,1,1,0,0,0,0]⟩) (by kernel_rfl)
  intro J4
  refine .memo (λE' W'=>∃ (g13:Nat) (v44:Hd) (v45:Hd),aD E' [(7,vi 3),(10,Pt g13),(25,.agg #[vi y6.Op,vi y6.N,sv v44]),(29,.agg #[vi y8.Op,vi y8.N,sv v45]),(31,(sv v1)),(32,.agg #[vi 1,vi 3,vi 0,vi y5.Op,vi y5.N,sv v4,sv aA,sv aA])]/\Sep S w W' [.box g1 206 [vi 1,vi 3,vi 0,vi y5.Op,vi y5.N,sv v4,sv aA,sv aA],ae (sv v4) 204 3 be y5.Args,.box g_0 117 [sv aw,vi y7.2],ae (sv v1) 206 8 aC y2.1,.box g13 206 [vi 0,vi 0,vi 0,vi 0,vi 0,sv aA,sv aA,sv aA],ae (sv v44) 204 3 be y6.Args,ae (sv v45) 204 3 be y8.Args]) 5 (nQ 14 [0,1,2,3,4,5,7,8,12]) ?_ ?_
  ·intro E W hJ
   obtain ⟨g14,v46,v47,hE,s⟩:=hJ
   refine .sub hE ?_
   have t:=s.to [0]
   refine .by [6,9] ⟨⟨_,z,?_⟩,⟨_,z,?_⟩,trivial⟩
   ·have s:=s.p6.p6
    refine (.cS (L0:=[ae (sv v46) 204 3 be y6.Args,ae (sv v47) 204 3 be y8.Args]) s func237 (λS h1 h2 h3=>(dE hy9 h2 (zz h1))) z z ?_)
    rintro v48 W s
    refine s.an [1] λt=>?_
    exact .atl (J2 _ _ ⟨g14,v48,sb z,s.to [1,1,1,1,1,0]⟩) (by kernel_rfl)
   have s:=s.nilv 206 8 aC
   have s:=s.nilv 206 8 aC
   refine (.lg (L1:=[ae (sv v4) 204 3 be y5.Args,ae (sv aA) 206 8 aC [],ae (sv aA) 206 8 aC []]) [(ax.mk 1 3 0 (Expr.mk y5.Op y5.N y5.Args) [] [])] aC u162 t206 (s.to [3,1,0,0,0,0,0,0,0]) z z z (.aggE (iI _) (.flat (c1:=[vi 1]) z (.flat (c1:=[vi 3]) z (.flat (c1:=[vi 0]) z (.aggE (fI _) (.flat (c1:=[vi y5.Op]) z (.flat (c1:=[vi y5.N]) z (.row (.row (.row .nil)))))))))) ?_ z lG)
   intro v49 W s
   refine s.an [1] λt=>?_
   exact .atl (J3 _ _ ⟨g14,v46,v47,v49,sb z,s.tk [1,1,1,1,1,1,0]⟩) (by kernel_rfl)
  intro J5
  refine .memo (λE' W'=>∃ (g16:Nat) (v52:Hd) (v53:Hd),aD E' [(7,vi 3),(10,Pt g16),(25,.agg #[vi y6.Op,vi y6.N,sv v52]),(28,vi (w64 (1+y7.1))),(31,(sv v1)),(33,(sv v53))]/\Sep S w W' [.box g1 206 [vi 1,vi 3,vi 0,vi y5.Op,vi y5.N,sv v4,sv aA,sv aA],.box g_0 117 [sv aw,vi y7.2],ae (sv v1) 206 8 aC y2.1,.box g16 206 [vi 0,vi 0,vi 0,vi 0,vi 0,sv aA,sv aA,sv aA],ae (sv v52) 204 3 be y6.Args,ae (sv v53) 206 8 aC [(ax.mk 1 3 0 (Expr.mk y5.Op y5.N y5.Args) [] [])]]) 5 (nQ 14 [0,1,2,3,4,7,8,9,12]) ?_ ?_
  ·intro E W hJ
   obtain ⟨g17,v54,v55,hE,s⟩:=hJ
   refine .sub hE ?_
   have t:=s.to [0]
   refine .by1 5 z (.cV s func238 (bo hy8) z z ?_)
   intro v56 W s
   refine s.an [1] λt=>?_
   have s:=s.p5
   refine .by1 6 z (.cS (L0:=[ae (sv v54) 204 3 be y6.Args,ae (sv v56) 204 3 be y8.Args]) s func237 (λS h1 h2 h3=>(dE hy9 h2 (zz h1))) z z ?_)
   rintro v57 W s
   refine s.an [1] λt=>.by1 10 z (.appv hr1 (s.to [3,4,0,0,0,0]) u162 t206 z z z ?_)
   intro v58 W s
   refine s.an [2] λt=>.ts' 11 z (λW t=>bs T.s206 z z) t z (.by1 13 z (.st t206 s.p4 z z z ?_))
   intro W s
   refine ⟨λh=>absurd z h,?_⟩
   refine .done ?_
   have s:=s.nilv 206 8 aC
   exact ⟨z,g17,v57,v58,aA,sb z,s.to [5,1,2,1,0]⟩
  intro J6
  refine .memo (λE' W'=>∃ (g19:Nat) (v61:Hd) (v62:Hd),aD E' [(7,vi 3),(10,Pt g19),(25,.agg #[vi y6.Op,vi y6.N,sv v61]),(26,Pt g_0),(31,(sv v1)),(33,(sv v62))]/\Sep S w W' [.box g1 206 [vi 1,vi 3,vi 0,vi y5.Op,vi y5.N,sv v4,sv aA,sv aA],.box g_0 117 [sv aw,vi y2.2],ae (sv v1) 206 8 aC y2.1,.box g19 206 [vi 0,vi 0,vi 0,vi 0,vi 0,sv aA,sv aA,sv aA],ae (sv v61) 204 3 be y6.Args,ae (sv v62) 206 8 aC [(ax.mk 1 3 0 (Expr.mk y5.Op y5.N y5.Args) [] [])]]) 7 (nQ 14 [0,1,2,7,8,9,12]) ?_ ?_
  ·intro E W hJ
   obtain ⟨g20,v63,v64,hE,s⟩:=hJ
   refine .sub hE ?_
   have t:=s.to [0]
   have s:=s.p1
   refine .by1 3 z (.cS (L0:=[.box g_0 117 [sv aw,vi y2.2]]) s func39 (λS h1 h2 h3=>(aj hy7 (s.ks aN h1) h2 (zz h1))) z z ?_)
   rintro ⟨⟩ W s
   refine s.an [1] λt=>.tp' 4 z z t (.by1 5 z (.cV s func238 (bo hy8) z z ?_))
   intro v65 W s
   refine s.an [2] λt=>?_
   have s:=s.p5
   refine .by1 6 z (.cS (L0:=[ae (sv v63) 204 3 be y6.Args,ae (sv v65) 204 3 be y8.Args]) s func237 (λS h1 h2 h3=>(dE hy9 h2 (zz h1))) z z ?_)
   rintro v66 W s
   refine s.an [2] λt=>.by1 10 z (.appv hr1 (s.to [3,4,0,0,0,0]) u162 t206 z z z ?_)
   intro v67 W s
   refine s.an [3] λt=>.ts' 11 z (λW t=>bs T.s206 z z) t z (.by1 13 z (.st t206 s.p4 z z z ?_))
   intro W s
   refine ⟨λh=>absurd z h,?_⟩
   refine .done ?_
   have s:=s.nilv 206 8 aC
   exact ⟨z,g20,v66,v67,aA,sb z,s.to [4,1,2,1,0]⟩
  intro J7
  refine .memo (λE' W'=>∃ (v70:Hd) (v71:Hd),aD E' [(7,vi 3),(25,.agg #[vi y6.Op,vi y6.N,sv v70]),(26,Pt g_0),(31,(sv v1)),(33,(sv v71))]/\Sep S w W' [.box g1 206 [vi 1,vi 3,vi 0,vi y5.Op,vi y5.N,sv v4,sv aA,sv aA],.box g_0 117 [sv aw,vi y2.2],ae (sv v1) 206 8 aC y2.1,ae (sv v70) 204 3 be y6.Args,ae (sv v71) 206 8 aC [(ax.mk 1 3 0 (Expr.mk y5.Op y5.N y5.Args) [] [])]]) 8 (nQ 14 [0,1,2,7,8,9]) ?_ ?_
  ·intro E W hJ
   obtain ⟨v72,v73,hE,s⟩:=hJ
   refine .sub hE ?_
   have t:=s.to [0]
   refine .by [3,12] ⟨⟨_,z,?_⟩,⟨_,z,?_⟩,trivial⟩
   ·have s:=s.p1
    refine (.cS (L0:=[.box g_0 117 [sv aw,vi y2.2]]) s func39 (λS h1 h2 h3=>(aj hy7 (s.ks aN h1) h2 (zz h1))) z z ?_)
    rintro ⟨⟩ W s
    refine s.an [1] λt=>.tp' 4 z z t (.by [5,12] ⟨⟨_,z,?_⟩,⟨_,z,?_⟩,trivial⟩)
    ·refine (.cV s func238 (bo hy8) z z ?_)
     intro v74 W s
     refine s.an [2] λt=>?_
     exact .atl (J4 _ _ ⟨v72,v74,v73,sb z,s.to [2,1,1,1,0,0]⟩) (by kernel_rfl)
    refine (.alloc t206 s ?_)
    intro g21 W s
    refine s.an [2] λt=>?_
    exact .atl (J6 _ _ ⟨g21,v72,v73,sb z,s.to [2,1,1,0,0,0]⟩) (by kernel_rfl)
   refine (.alloc t206 s ?_)
   intro g22 W s
   refine s.an [1] λt=>?_
   exact .atl (J7 _ _ ⟨g22,v72,v73,sb z,s.to [1,1,1,0,0,0]⟩) (by kernel_rfl)
  intro J8
  refine .memo (λE' W'=>∃ (g24:Nat) (v76:Hd),aD E' [(7,vi 3),(10,Pt g24),(25,.agg #[vi y6.Op,vi y6.N,sv v76]),(26,Pt g_0),(31,(sv v1)),(32,.agg #[vi 1,vi 3,vi 0,vi y5.Op,vi y5.N,sv v4,sv aA,sv aA])]/\Sep S w W' [.box g1 206 [vi 1,vi 3,vi 0,vi y5.Op,vi y5.N,sv v4,sv aA,sv aA],ae (sv v4) 204 3 be y5.Args,.box g_0 117 [sv aw,vi y2.2],ae (sv v1) 206 8 aC y2.1,.box g24 206 [vi 0,vi 0,vi 0,vi 0,vi 0,sv aA,sv aA,sv aA],ae (sv v76) 204 3 be y6.Args]) 8 (nQ 14 [0,1,2,7,8,12]) ?_ ?_
  ·intro E W hJ
   obtain ⟨g25,v77,hE,s⟩:=hJ
   refine .sub hE ?_
   have t:=s.to [0]
   refine .by [3,9] ⟨⟨_,z,?_⟩,⟨_,z,?_⟩,trivial⟩
   ·have s:=s.p2
    refine (.cS (L0:=[.box g_0 117 [sv aw,vi y2.2]]) s func39 (λS h1 h2 h3=>(aj hy7 (s.ks aN h1) h2 (zz h1))) z z ?_)
    rintro ⟨⟩ W s
    refine s.an [1] λt=>.tp' 4 z z t (.by [5,9] ⟨⟨_,z,?_⟩,⟨_,z,?_⟩,trivial⟩)
    ·refine (.cV s func238 (bo hy8) z z ?_)
     intro v78 W s
     refine s.an [2] λt=>?_
     exact .atl (J5 _ _ ⟨g25,v77,v78,sb z,s.tk [2,2,1,1,1,1,0]⟩) (by kernel_rfl)
    have s:=s.nilv 206 8 aC
    have s:=s.nilv 206 8 aC
    refine (.lg (L1:=[ae (sv v4) 204 3 be y5.Args,ae (sv aA) 206 8 aC [],ae (sv aA) 206 8 aC []]) [(ax.mk 1 3 0 (Expr.mk y5.Op y5.N y5.Args) [] [])] aC u162 t206 (s.to [4,1,0,0,0,0,0,0]) z z z (.aggE (iI _) (.flat (c1:=[vi 1]) z (.flat (c1:=[vi 3]) z (.flat (c1:=[vi 0]) z (.aggE (fI _) (.flat (c1:=[vi y5.Op]) z (.flat (c1:=[vi y5.N]) z (.row (.row (.row .nil)))))))))) ?_ z lG)
    intro v79 W s
    refine s.an [2] λt=>?_
    exact .atl (J6 _ _ ⟨g25,v77,v79,sb z,s.to [2,1,1,1,1,0]⟩) (by kernel_rfl)
   have s:=s.nilv 206 8 aC
   have s:=s.nilv 206 8 aC
   refine (.lg (L1:=[ae (sv v4) 204 3 be y5.Args,ae (sv aA) 206 8 aC [],ae (sv aA) 206 8 aC []]) [(ax.mk 1 3 0 (Expr.mk y5.Op y5.N y5.Args) [] [])] aC u162 t206 (s.to [3,1,0,0,0,0,0,0]) z z z (.aggE (iI _) (.flat (c1:=[vi 1]) z (.flat (c1:=[vi 3]) z (.flat (c1:=[vi 0]) z (.aggE (fI _) (.flat (c1:=[vi y5.Op]) z (.flat (c1:=[vi y5.N]) z (.row (.row (.row .nil)))))))))) ?_ z lG)
   intro v80 W s
   refine s.an [1] λt=>?_
   exact .atl (J7 _ _ ⟨g25,v77,v80,sb z,s.to [1,1,1,1,1,0]⟩) (by kernel_rfl)
  intro J9
  refine .tp' 0 z z t (.tp' 2 z z t (.tp' 7 z z t (.ts' 8 z (λW t=>ld t206 t z z z z z) t z (.by [1,9,12] ⟨⟨_,z,?_⟩,⟨_,z,?_⟩,⟨_,z,?_⟩,trivial⟩))))
  ·refine (.cV s func238 (bo hy6) z z ?_)
   intro v81 W s
   refine s.an [1] λt=>.by [3,9,12] ⟨⟨_,z,?_⟩,⟨_,z,?_⟩,⟨_,z,?_⟩,trivial⟩
   ·have s:=s.p3
    refine (.cS (L0:=[.box g_0 117 [sv aw,vi y2.2]]) s func39 (λS h1 h2 h3=>(aj hy7 (s.ks aN h1) h2 (zz h1))) z z ?_)
    rintro ⟨⟩ W s
    refine s.an [2] λt=>.tp' 4 z z t (.by [5,9,12] ⟨⟨_,z,?_⟩,⟨_,z,?_⟩,⟨_,z,?_⟩,trivial⟩)
    ·refine (.cV s func238 (bo hy8) z z ?_)
     intro v82 W s
     refine s.an [3] λt=>.by [6,9,12] ⟨⟨_,z,?_⟩,⟨_,z,?_⟩,⟨_,z,?_⟩,trivial⟩
     ·have s:=s.p2
      refine (.cS (L0:=[ae (sv v81) 204 3 be y6.Args,ae (sv v82) 204 3 be y8.Args]) s func237 (λS h1 h2 h3=>(dE hy9 h2 (zz h1))) z z ?_)
      rintro v83 W s
      refine s.an [2] λt=>.by [9,12] ⟨⟨_,z,?_⟩,⟨_,z,?_⟩,trivial⟩
      ·have s:=s.nilv 206 8 aC
       have s:=s.nilv 206 8 aC
       refine (.lg (L1:=[ae (sv v4) 204 3 be y5.Args,ae (sv aA) 206 8 aC [],ae (sv aA) 206 8 aC []]) [(ax.mk 1 3 0 (Expr.mk y5.Op y5.N y5.Args) [] [])] aC u162 t206 (s.to [5,1,0,0,0,0,0]) z z z (.aggE (iI _) (.flat (c1:=[vi 1]) z (.flat (c1:=[vi 3]) z (.flat (c1:=[vi 0]) z (.aggE (fI _) (.flat (c1:=[vi y5.Op]) z (.flat (c1:=[vi y5.N]) z (.row (.row (.row .nil)))))))))) ?_ z lG)
       intro v84 W s
       refine s.an [3] λt=>?_
       exact .atl (J1 _ _ ⟨v83,v84,sb z,s.to [3,2,2,1,0]⟩) (by kernel_rfl)
      refine (.alloc t206 s ?_)
      intro g26 W s
      refine s.an [3] λt=>?_
      exact .atl (J2 _ _ ⟨g26,v83,sb z,s.to [3,3,2,2,0,0]⟩) (by kernel_rfl)
     ·have s:=s.nilv 206 8 aC
      have s:=s.nilv 206 8 aC
      refine (.lg (L1:=[ae (sv v4) 204 3 be y5.Args,ae (sv aA) 206 8 aC [],ae (sv aA) 206 8 aC []]) [(ax.mk 1 3 0 (Expr.mk y5.Op y5.N y5.Args) [] [])] aC u162 t206 (s.to [6,1,0,0,0,0,0,0]) z z z (.aggE (iI _) (.flat (c1:=[vi 1]) z (.flat (c1:=[vi 3]) z (.flat (c1:=[vi 0]) z (.aggE (fI _) (.flat (c1:=[vi y5.Op]) z (.flat (c1:=[vi y5.N]) z (.row (.row (.row .nil)))))))))) ?_ z lG)
      intro v85 W s
      refine s.an [4] λt=>?_
      exact .atl (J4 _ _ ⟨v81,v82,v85,sb z,s.to [4,2,3,2,1,0]⟩) (by kernel_rfl)
     refine (.alloc t206 s ?_)
     intro g27 W s
     refine s.an [4] λt=>?_
     exact .atl (J5 _ _ ⟨g27,v81,v82,sb z,s.tk [4,4,2,3,0,1,0]⟩) (by kernel_rfl)
    ·have s:=s.nilv 206 8 aC
     have s:=s.nilv 206 8 aC
     refine (.lg (L1:=[ae (sv v4) 204 3 be y5.Args,ae (sv aA) 206 8 aC [],ae (sv aA) 206 8 aC []]) [(ax.mk 1 3 0 (Expr.mk y5.Op y5.N y5.Args) [] [])] aC u162 t206 (s.to [5,1,0,0,0,0,0]) z z z (.aggE (iI _) (.flat (c1:=[vi 1]) z (.flat (c1:=[vi 3]) z (.flat (c1:=[vi 0]) z (.aggE (fI _) (.flat (c1:=[vi y5.Op]) z (.flat (c1:=[vi y5.N]) z (.row (.row (.row .nil)))))))))) ?_ z lG)
     intro v86 W s
     refine s.an [3] λt=>.by [5,12] ⟨⟨_,z,?_⟩,⟨_,z,?_⟩,trivial⟩
     ·refine (.cV s func238 (bo hy8) z z ?_)
      intro v87 W s
      refine s.an [4] λt=>?_
      exact .atl (J4 _ _ ⟨v81,v87,v86,sb z,s.to [4,2,3,2,0,0]⟩) (by kernel_rfl)
     refine (.alloc t206 s ?_)
     intro g28 W s
     refine s.an [4] λt=>?_
     exact .atl (J6 _ _ ⟨g28,v81,v86,sb z,s.to [4,2,3,0,1,0]⟩) (by kernel_rfl)
    refine (.alloc t206 s ?_)
    intro g29 W s
    refine s.an [3] λt=>.by [5,9] ⟨⟨_,z,?_⟩,⟨_,z,?_⟩,trivial⟩
    ·refine (.cV s func238 (bo hy8) z z ?_)
     intro v88 W s
     refine s.an [4] λt=>?_
     exact .atl (J5 _ _ ⟨g29,v81,v88,sb z,s.tk [4,4,2,3,1,1,0]⟩) (by kernel_rfl)
    have s:=s.nilv 206 8 aC
    have s:=s.nilv 206 8 aC
    refine (.lg (L1:=[ae (sv v4) 204 3 be y5.Args,ae (sv aA) 206 8 aC [],ae (sv aA) 206 8 aC []]) [(ax.mk 1 3 0 (Expr.mk y5.Op y5.N y5.Args) [] [])] aC u162 t206 (s.to [6,1,0,0,0,0,0,0]) z z z (.aggE (iI _) (.flat (c1:=[vi 1]) z (.flat (c1:=[vi 3]) z (.flat (c1:=[vi 0]) z (.aggE (fI _) (.flat (c1:=[vi y5.Op]) z (.flat (c1:=[vi y5.N]) z (.row (.row (.row .nil)))))))))) ?_ z lG)
    intro v89 W s
    refine s.an [4] λt=>?_
    exact .atl (J6 _ _ ⟨g29,v81,v89,sb z,s.to [4,2,3,1,1,0]⟩) (by kernel_rfl)
   ·have s:=s.nilv 206 8 aC
    have s:=s.nilv 206 8 aC
    refine (.lg (L1:=[ae (sv v4) 204 3 be y5.Args,ae (sv aA) 206 8 aC [],ae (sv aA) 206 8 aC []]) [(ax.mk 1 3 0 (Expr.mk y5.Op y5.N y5.Args) [] [])] aC u162 t206 (s.to [4,1,0,0,0,0,0]) z z z (.aggE (iI _) (.flat (c1:=[vi 1]) z (.flat (c1:=[vi 3]) z (.flat (c1:=[vi 0]) z (.aggE (fI _) (.flat (c1:=[vi y5.Op]) z (.flat (c1:=[vi y5.N]) z (.row (.row (.row .nil)))))))))) ?_ z lG)
    intro v90 W s
    refine s.an [2] λt=>?_
    exact .atl (J8 _ _ ⟨v81,v90,sb z,s.to [2,2,2,1,0]⟩) (by kernel_rfl)
   refine (.alloc t206 s ?_)
   intro g30 W s
   refine s.an [2] λt=>?_
   exact .atl (J9 _ _ ⟨g30,v81,sb z,s.to [2,2,2,2,0,0]⟩) (by kernel_rfl)
  ·have s:=s.nilv 206 8 aC
   have s:=s.nilv 206 8 aC
   refine (.lg (L1:=[ae (sv v4) 204 3 be y5.Args,ae (sv aA) 206 8 aC [],ae (sv aA) 206 8 aC []]) [(ax.mk 1 3 0 (Expr.mk y5.Op y5.N y5.Args) [] [])] aC u162 t206 (s.to [3,1,0,0,0,0]) z z z (.aggE (iI _) (.flat (c1:=[vi 1]) z (.flat (c1:=[vi 3]) z (.flat (c1:=[vi 0]) z (.aggE (fI _) (.flat (c1:=[vi y5.Op]) z (.flat (c1:=[vi y5.N]) z (.row (.row (.row .nil)))))))))) ?_ z lG)
   intro v91 W s
   refine s.an [1] λt=>.by [1,12] ⟨⟨_,z,?_⟩,⟨_,z,?_⟩,trivial⟩
   ·refine (.cV s func238 (bo hy6) z z ?_)
    intro v92 W s
    refine s.an [2] λt=>?_
    exact .atl (J8 _ _ ⟨v92,v91,sb z,s.to [2,2,2,0,0]⟩) (by kernel_rfl)
   refine (.alloc t206 s ?_)
   intro g31 W s
   refine s.an [2] λt=>.by1 1 z (.cV s func238 (bo hy6) z z ?_)
   intro v93 W s
   refine s.an [3] λt=>?_
   have s:=s.p4
   refine .by1 3 z (.cS (L0:=[.box g_0 117 [sv aw,vi y2.2]]) s func39 (λS h1 h2 h3=>(aj hy7 (s.ks aN h1) h2 (zz h1))) z z ?_)
   rintro ⟨⟩ W s
   refine s.an [4] λt=>.tp' 4 z z t (.by1 5 z (.cV s func238 (bo hy8) z z ?_))
   intro v94 W s
   refine s.an [5] λt=>?_
   have s:=s.p2
   refine .by1 6 z (.cS (L0:=[ae (sv v93) 204 3 be y6.Args,ae (sv v94) 204 3 be y8.Args]) s func237 (λS h1 h2 h3=>(dE hy9 h2 (zz h1))) z z ?_)
   rintro v95 W s
   refine s.an [4] λt=>.by1 10 z (.appv hr1 (s.to [5,3,0,0,0,0]) u162 t206 z z z ?_)
   intro v96 W s
   refine s.an [4] λt=>.ts' 11 z (λW t=>bs T.s206 z z) t z (.by1 13 z (.st t206 s.p3 z z z ?_))
   intro W s
   refine ⟨λh=>absurd z h,?_⟩
   refine .done ?_
   have s:=s.nilv 206 8 aC
   exact ⟨z,g31,v95,v96,aA,sb z,s.to [4,1,2,1,0]⟩
  refine (.alloc t206 s ?_)
  intro g32 W s
  refine s.an [1] λt=>.by [1,9] ⟨⟨_,z,?_⟩,⟨_,z,?_⟩,trivial⟩
  ·refine (.cV s func238 (bo hy6) z z ?_)
   intro v97 W s
   refine s.an [2] λt=>?_
   exact .atl (J9 _ _ ⟨g32,v97,sb z,s.to [2,2,2,2,1,0]⟩) (by kernel_rfl)
  have s:=s.nilv 206 8 aC
  have s:=s.nilv 206 8 aC
  refine (.lg (L1:=[ae (sv v4) 204 3 be y5.Args,ae (sv aA) 206 8 aC [],ae (sv aA) 206 8 aC []]) [(ax.mk 1 3 0 (Expr.mk y5.Op y5.N y5.Args) [] [])] aC u162 t206 (s.to [4,1,0,0,0,0,0]) z z z (.aggE (iI _) (.flat (c1:=[vi 1]) z (.flat (c1:=[vi 3]) z (.flat (c1:=[vi 0]) z (.aggE (fI _) (.flat (c1:=[vi y5.Op]) z (.flat (c1:=[vi y5.N]) z (.row (.row (.row .nil)))))))))) ?_ z lG)
  intro v98 W s
  refine s.an [2] λt=>.by1 1 z (.cV s func238 (bo hy6) z z ?_)
  intro v99 W s
  refine s.an [3] λt=>?_
  have s:=s.p4
  refine .by1 3 z (.cS (L0:=[.box g_0 117 [sv aw,vi y2.2]]) s func39 (λS h1 h2 h3=>(aj hy7 (s.ks aN h1) h2 (zz h1))) z z ?_)
  rintro ⟨⟩ W s
  refine s.an [4] λt=>.tp' 4 z z t (.by1 5 z (.cV s func238 (bo hy8) z z ?_))
  intro v100 W s
  refine s.an [5] λt=>?_
  have s:=s.p2
  refine .by1 6 z (.cS (L0:=[ae (sv v99) 204 3 be y6.Args,ae (sv v100) 204 3 be y8.Args]) s func237 (λS h1 h2 h3=>(dE hy9 h2 (zz h1))) z z ?_)
  rintro v101 W s
  refine s.an [4] λt=>.by1 10 z (.appv hr1 (s.to [5,2,0,0,0,0]) u162 t206 z z z ?_)
  intro v102 W s
  refine s.an [4] λt=>.ts' 11 z (λW t=>bs T.s206 z z) t z (.by1 13 z (.st t206 s.p3 z z z ?_))
  intro W s
  refine ⟨λh=>absurd z h,?_⟩
  refine .done ?_
  have s:=s.nilv 206 8 aC
  exact ⟨z,g32,v101,v102,aA,sb z,s.to [4,1,2,1,0]⟩
 intro x E W hJ
 obtain ⟨rfl,g33,v103,v104,v105,hE,s⟩:=hJ
 refine ⟨_,hE.sub,?_⟩
 refine .seq (.rk 6 s [0,0] T.mix ?_)
 intro W s
 have t:=s.to [0,0]
 refine .tp' 0 z z t (.ts' 3 z (λW t=>ld t206 t.p1 z z z z z) t z (bv h λy10 hy10 h=>.by1 1 z (.cV s func238 (bo hy10) z z ?_)))
 intro v106 W s
 refine s.an [1,1] λt=>.ts' 2 z (λW t=>bs T.s206 z z) t z ?_
 have s:=s.nilv 206 8 aC
 have s:=s.nilv 206 8 aC
 refine .by1 4 z (.lg (L1:=[ae (sv v106) 204 3 be y10.Args,ae (sv aA) 206 8 aC [],ae (sv aA) 206 8 aC [],ae (sv v103) 204 3 be y9.Args,ae (sv v104) 206 8 aC r1,ae (sv v105) 206 8 aC []]) [(ax.mk 1 3 0 (Expr.mk y10.Op y10.N y10.Args) [] []),(ax.mk 3 0 0 (Expr.mk y9.Op y9.N y9.Args) r1 [])] aC u162 t206 (s.to [2,1,0,2,2,2,0,0]) z z z (.aggE (iI _) (.flat (c1:=[vi 1]) z (.flat (c1:=[vi 3]) z (.flat (c1:=[vi 0]) z (.aggE (fI _) (.flat (c1:=[vi y10.Op]) z (.flat (c1:=[vi y10.N]) z (.row (.row (.row (.aggE (iI _) (.flat (c1:=[vi 3]) z (.flat (c1:=[vi 0]) z (.flat (c1:=[vi 0]) z (.aggE (fI _) (.flat (c1:=[vi y9.Op]) z (.flat (c1:=[vi y9.N]) z (.row (.row (.row .nil)))))))))))))))))))) ?_ z lG)
 intro v107 W s
 refine s.an [1,1] λt=>?_
 cases h
 exact .tp' 5 z z t (.done (.ret (ac v107 (rt z rn) z (s.to [1,0]))))
theorem qb (k:Nat):eG (ef k)/\gI (ji k)/\jz (nj k)/\gJ (kJ k):=by
  induction k with
  | zero=>exact ⟨by intro a0 a1 a2 a3 a4 aw g_0 S w r h aN hO hlt; exact no h,by intro a0 a1 a2 a3 aw g_0 S w r h aN hO hlt; exact no h,by intro a0 a1 a2 a3 aw g_0 S w r h aN hO hlt; exact no h,by intro a0 a1 a2 aw g_0 S w r h aN hO hlt; exact no h⟩
  | succ k ih=>exact ⟨um (k:=k) ih.1 ih.2.1 ih.2.2.1 ih.2.2.2,vT (k:=k) ih.1 ih.2.1 ih.2.2.1 ih.2.2.2,xw (k:=k) ih.1 ih.2.1 ih.2.2.1 ih.2.2.2,vU (k:=k) ih.1 ih.2.1 ih.2.2.1 ih.2.2.2⟩
theorem s9 {k:Nat}:eG (ef k):=(qb k).1
theorem ta {k:Nat} {a0:aP} {a1:Int} {aw:Hd} {g_0:Nat} {S:Nat->Prop} {w:World} {r:(List ax)×Int} (h:jH k a0 a1=some r) (aN:RV w (Old S w) (sv aw) 5 1 (D.int .u8) a0.b) (hO:bQ w [.box g_0 117 [sv aw,vi a0.p]] S) (hlt:∀ b,S b->b<w.heap.size):CL 131 #[Pt g_0,vi a1] w (Ret S w (λs:Hd=>(sv s)) (λs=>[.box g_0 117 [sv aw,vi r.2],ae (sv s) 206 8 aC r.1])):=by
 unfold jH at h
 refine au func131 z z ?_
 have s:=Sep.sm hO hlt
 refine .g (.qn z (.g (.q z (.q z (.q z (bv h λy1 hy1 h=>.c (.cS (L0:=[.box g_0 117 [sv aw,vi a0.p]]) s func39 (λS h1 h2 h3=>(aj hy1 (s.ks aN h1) h2 (zz h1))) z z ?_)))))))
 rintro ⟨⟩ W s
 refine .q z (bv h λy2 hy2 h=>.c (.cS (L0:=[.box g_0 117 [sv aw,vi y1.2]]) s func175 (λS h1 h2 h3=>(s9 hy2 (s.ks aN h1) h2 (zz h1))) z z ?_))
 rintro v1 W s
 refine .qn z (.seq (.block (bv h λy3 hy3 h=>?_)))
 refine .via (.iter (λs1 E' W'=>∃ (v4:Hd),aD E' [(5,(sv v4))]/\Sep S w W' [.box g_0 117 [sv aw,vi y2.2],ae (sv v4) 206 8 aC s1]) (λy4 x E' W'=>x=.exit 0/\∃ (v5:Hd),aD E' [(5,(sv v5))]/\Sep S w W' [.box g_0 117 [sv aw,vi y2.2],ae (sv v5) 206 8 aC y4]) hy3 ⟨v1,sb z,s.to [0,0]⟩ ?_) ?_
 ·intro s1 y5 E W h hI
  obtain ⟨v3,hE,s⟩:=hI
  refine CW.sub hE ?_
  unfold lM at h
  refine .seq (.g (.q z (bv h λy6 hy6 h=>.c (.cO s func176 (oL hy6 s.p1.lv) z z ?_))))
  intro W s
  refine .q z (.nil ?_)
  refine .cs z h ?_ ?_ <;> intro h
  ·refine .skip (.block (.region (.q z (.q z (.s (a8 s.p1.lv u162 z z) z (.q z (bv h λr1 hr1 h=>.c (.cuto hr1 s.p1 u162 t206 z z z z ?_))))))))
   intro v6 s
   refine .q z (.nil ?_)
   cases h
   exact ⟨z,v6,sb z,s.to [1,0]⟩
  refine .exit ?_
  cases h
  exact ⟨by simp,z,v3,sb z,s.to [0,0]⟩
 intro x E W hJ
 obtain ⟨rfl,v7,hE,s⟩:=hJ
 refine ⟨_,hE.sub,?_⟩
 cases h
 exact .g (.q z (.qn z (.ret (ac v7 (rt z rn) z (s.to [0,0])))))
theorem iE {a0:Int} {w:World} {r:Bool} (h:cM a0=some r):CL 140 #[vi a0] w (RU w (.bool r)):=by
 unfold cM at h
 refine au func140 z z ?_
 have s:=Sep.start w
 refine .g (.qn z (.g (.q z (bv h λy1 hy1 h=>.c (.cO s func32 (cE hy1) z z ?_)))))
 intro W s
 obtain rfl:=o9 h
 exact .qn z (.ret (ac () (rt z rn) z (s.to [])))
theorem nA {a0:Int} {a1:Bool} {w:World} {r:Bool} (h:iU a0 a1=some r):CL 232 #[vi a0,.bool a1] w (RU w (.bool r)):=by
 unfold iU at h
 refine au func232 z z ?_
 have s:=Sep.start w
 refine .g (.qn z (.seq (.g (.q z (.nil ?_)))))
 refine .cs z h ?_ ?_ <;> intro h
 ·refine .g (.q z (bv h λy1 hy1 h=>.c (.cO s func32 (cE hy1) z z ?_)))
  intro W s
  obtain rfl:=o9 h
  exact .qn z (.ret (ac () (rt z rn) z (s.to [])))
 cases h
 exact .skip (.g (.q z (.q z (.qn z (.ret (ac () (rt z rn) z (s.to [])))))))
theorem dI {a0:ah} {a1:Bool} {a2:Bool} {a3:Bool} {w:World} {r:Bool} (h:dl a0 a1 a2 a3=some r):CL 207 #[.agg #[vi a0.Op,vi a0.Dst,vi a0.A,vi a0.B,vi a0.N],.bool a1,.bool a2,.bool a3] w (RU w (.bool r)):=by
 unfold dl at h
 refine au func207 z z ?_
 have s:=Sep.start w
 refine .g (.c (.box s z z ?_))
 intro g1 W s
 refine .qn z (.g (.s (fa f102_1 z z z) z (.s (ld T.t3 s z z z z z) z (.q z (bv h λy1 hy1 h=>.c (.cO s func232 (nA hy1) z z ?_))))))
 intro W s
 refine .q z (bv h λb1 hb1 h=>.cu 5 18 (b1) s ?_ ?_)
 ·refine .both (y1) (λb=>?_) (λb=>?_)
  ·have hg1:=b
   have h:=aK b hb1
   refine .g hg1 (.s (fa f102_2 z z z) z (.g hg1 (.s (ld T.t3 s z z z z z) z (.g hg1 (.q z (bv h λy2 hy2 h=>.g hg1 (.c (.cO s func232 (nA hy2) z z ?_))))))))
   intro W s
   refine .s (pkt hg1 z z z) z ?_
   cases h
   exact .nil (ck 5 s)
  refine .xx b z (.xx b z (.xx b z (.xx b z ?_)))
  cases aL b hb1
  exact .s (pkf b z z z) z (.nil (ck 5 s))
 intro W s
 refine .q z (bv h λb2 hb2 h=>.cu 5 24 (b2) s ?_ ?_)
 ·refine .both (b1) (λb=>?_) (λb=>?_)
  ·have hg2:=b
   have h:=aK b hb2
   refine .g hg2 (.s (fa f102_3 z z z) z (.g hg2 (.s (ld T.t3 s z z z z z) z (.g hg2 (.q z (bv h λy3 hy3 h=>.g hg2 (.c (.cO s func232 (nA hy3) z z ?_))))))))
   intro W s
   refine .s (pkt hg2 z z z) z ?_
   cases h
   exact .nil (ck 5 s)
  refine .xx b z (.xx b z (.xx b z (.xx b z ?_)))
  cases aL b hb2
  exact .s (pkf b z z z) z (.nil (ck 5 s))
 intro W s
 obtain rfl:=o9 h
 exact .qn z (.ret (ac () (rt z rn) z (s.to [])))
theorem lA {a0:ah} {a1:Int} {w:World} {r:Bool} (h:fh a0 a1=some r):CL 179 #[.agg #[vi a0.Op,vi a0.Dst,vi a0.A,vi a0.B,vi a0.N],vi a1] w (RU w (.bool r)):=by
 unfold fh at h
 refine au func179 z z ?_
 have s:=Sep.start w
 refine .g (.c (.box s z z ?_))
 intro g1 W s
 refine .qn z (.seq (.g (.s (fa f102_0 z z z) z (.s (ld T.t3 s z z z z z) z (.nil (.block (.g (.q z (.q z (.nil ?_))))))))))
 refine .cs z h ?_ ?_ <;> intro h
 ·refine .g (.s (ld t102 s z z z z z) z (bv h λy1 hy1 h=>.c (.cO s func207 (dI hy1) z z ?_)))
  intro W s
  refine .q z (bv h λb1 hb1 h=>.cu 4 15 (b1) s ?_ ?_)
  ·refine .both (y1) (λb=>?_) (λb=>?_)
   ·have hg1:=b
    have h:=aK b hb1
    refine .g hg1 (.s (fa f102_4 z z z) z (.g hg1 (.s (ld T.t3 s z z z z z) z (bv h λy2 hy2 h=>.g hg1 (.c (.cO s func140 (iE hy2) z z ?_))))))
    intro W s
    refine .s (pkt hg1 z z z) z ?_
    cases h
    exact .nil (ck 4 s)
   refine .xx b z (.xx b z (.xx b z ?_))
   cases aL b hb1
   exact .s (pkf b z z z) z (.nil (ck 4 s))
  intro W s
  obtain rfl:=o9 h
  exact .qn z (.ret (ac () (rt z rn) z (s.to [])))
 refine .g (.q z (.q z (.nil ?_)))
 refine .cs z h ?_ ?_ <;> intro h
 ·refine .g (.s (ld t102 s z z z z z) z (bv h λy3 hy3 h=>.c (.cO s func207 (dI hy3) z z ?_)))
  intro W s
  refine .q z (.cu 4 24 (y3&&(a0.N==0)) s ?_ ?_)
  ·refine .both (y3) (λb=>?_) (λb=>?_)
   ·have hg2:=b
    exact .g hg2 (.s (fa f102_4 z z z) z (.g hg2 (.s (ld T.t3 s z z z z z) z (.g hg2 (.q z (.s (pkt hg2 z z z) z (.nil (ck 4 s z (bi hg2)))))))))
   exact .xx b z (.xx b z (.xx b z (.s (pkf b z z z) z (.nil (ck 4 s z (bj b))))))
  intro W s
  cases h
  exact .qn z (.ret (ac () (rt z rn) z (s.to [])))
 refine .g (.q z (.q z (.nil ?_)))
 refine .cs z h ?_ ?_ <;> intro h
 ·refine .g (.s (ld t102 s z z z z z) z (bv h λy4 hy4 h=>.c (.cO s func207 (dI hy4) z z ?_)))
  intro W s
  refine .q z (bv h λb2 hb2 h=>.cu 4 33 (b2) s ?_ ?_)
  ·refine .both (y4) (λb=>?_) (λb=>?_)
   ·have hg3:=b
    have h:=aK b hb2
    refine .g hg3 (.s (fa f102_4 z z z) z (.g hg3 (.s (ld T.t3 s z z z z z) z (bv h λy5 hy5 h=>.g hg3 (.c (.cO s func208 (mR hy5) z z ?_))))))
    intro W s
    refine .s (pkt hg3 z z z) z ?_
    cases h
    exact .nil (ck 4 s)
   refine .xx b z (.xx b z (.xx b z ?_))
   cases aL b hb2
   exact .s (pkf b z z z) z (.nil (ck 4 s))
  intro W s
  obtain rfl:=o9 h
  exact .qn z (.ret (ac () (rt z rn) z (s.to [])))
 refine .g (.q z (.q z (.nil ?_)))
 refine .cs z h ?_ ?_ <;> intro h
 ·refine .g (.s (ld t102 s z z z z z) z (bv h λy6 hy6 h=>.c (.cO s func207 (dI hy6) z z ?_)))
  intro W s
  refine .q z (.cu 4 42 (y6&&(decide (a0.N>=0))) s ?_ ?_)
  ·refine .both (y6) (λb=>?_) (λb=>?_)
   ·have hg4:=b
    exact .g hg4 (.s (fa f102_4 z z z) z (.g hg4 (.s (ld T.t3 s z z z z z) z (.g hg4 (.q z (.s (pkt hg4 z z z) z (.nil (ck 4 s z (bi hg4)))))))))
   exact .xx b z (.xx b z (.xx b z (.s (pkf b z z z) z (.nil (ck 4 s z (bj b))))))
  intro W s
  refine .q z (.cu 5 48 ((y6&&(decide (a0.N>=0)))&&(decide (a0.N<a1))) s ?_ ?_)
  ·refine .both (y6&&(decide (a0.N>=0))) (λb=>?_) (λb=>?_)
   ·have hg5:=b
    exact .g hg5 (.s (fa f102_4 z z z) z (.g hg5 (.s (ld T.t3 s z z z z z) z (.g hg5 (.q z (.g hg5 (.q z (.s (pkt hg5 z z z) z (.nil (ck 5 s z (bi hg5)))))))))))
   exact .xx b z (.xx b z (.xx b z (.xx b z (.s (pkf b z z z) z (.nil (ck 5 s z (bj b)))))))
  intro W s
  cases h
  exact .qn z (.ret (ac () (rt z rn) z (s.to [])))
 refine .g (.q z (.q z (.nil ?_)))
 refine .cs z h ?_ ?_ <;> intro h
 ·refine .g (.s (ld t102 s z z z z z) z (bv h λy7 hy7 h=>.c (.cO s func207 (dI hy7) z z ?_)))
  intro W s
  refine .q z (.cu 4 57 (y7&&(decide (a0.N>=0))) s ?_ ?_)
  ·refine .both (y7) (λb=>?_) (λb=>?_)
   ·have hg6:=b
    exact .g hg6 (.s (fa f102_4 z z z) z (.g hg6 (.s (ld T.t3 s z z z z z) z (.g hg6 (.q z (.s (pkt hg6 z z z) z (.nil (ck 4 s z (bi hg6)))))))))
   exact .xx b z (.xx b z (.xx b z (.s (pkf b z z z) z (.nil (ck 4 s z (bj b))))))
  intro W s
  refine .q z (.cu 5 63 ((y7&&(decide (a0.N>=0)))&&(decide (a0.N<a1))) s ?_ ?_)
  ·refine .both (y7&&(decide (a0.N>=0))) (λb=>?_) (λb=>?_)
   ·have hg7:=b
    exact .g hg7 (.s (fa f102_4 z z z) z (.g hg7 (.s (ld T.t3 s z z z z z) z (.g hg7 (.q z (.g hg7 (.q z (.s (pkt hg7 z z z) z (.nil (ck 5 s z (bi hg7)))))))))))
   exact .xx b z (.xx b z (.xx b z (.xx b z (.s (pkf b z z z) z (.nil (ck 5 s z (bj b)))))))
  intro W s
  cases h
  exact .qn z (.ret (ac () (rt z rn) z (s.to [])))
 refine .g (.q z (.q z (.nil ?_)))
 refine .cs z h ?_ ?_ <;> intro h
 ·refine .g (.s (ld t102 s z z z z z) z (bv h λy8 hy8 h=>.c (.cO s func207 (dI hy8) z z ?_)))
  intro W s
  refine .q z (bv h λb3 hb3 h=>.cu 4 72 (b3) s ?_ ?_)
  ·refine .both (y8) (λb=>?_) (λb=>?_)
   ·have hg8:=b
    have h:=aK b hb3
    refine .g hg8 (.s (fa f102_4 z z z) z (.g hg8 (.s (ld T.t3 s z z z z z) z (bv h λy9 hy9 h=>.g hg8 (.c (.cO s func32 (cE hy9) z z ?_))))))
    intro W s
    refine .s (pkt hg8 z z z) z ?_
    cases h
    exact .nil (ck 4 s)
   refine .xx b z (.xx b z (.xx b z ?_))
   cases aL b hb3
   exact .s (pkf b z z z) z (.nil (ck 4 s))
  intro W s
  obtain rfl:=o9 h
  exact .qn z (.ret (ac () (rt z rn) z (s.to [])))
 refine .g (.q z (.q z (.nil ?_)))
 refine .cs z h ?_ ?_ <;> intro h
 ·refine .g (.s (ld t102 s z z z z z) z (bv h λy10 hy10 h=>.c (.cO s func207 (dI hy10) z z ?_)))
  intro W s
  refine .q z (bv h λb4 hb4 h=>.cu 4 81 (b4) s ?_ ?_)
  ·refine .both (y10) (λb=>?_) (λb=>?_)
   ·have hg9:=b
    have h:=aK b hb4
    refine .g hg9 (.s (fa f102_4 z z z) z (.g hg9 (.s (ld T.t3 s z z z z z) z (bv h λy11 hy11 h=>.g hg9 (.c (.cO s func32 (cE hy11) z z ?_))))))
    intro W s
    refine .s (pkt hg9 z z z) z ?_
    cases h
    exact .nil (ck 4 s)
   refine .xx b z (.xx b z (.xx b z ?_))
   cases aL b hb4
   exact .s (pkf b z z z) z (.nil (ck 4 s))
  intro W s
  obtain rfl:=o9 h
  exact .qn z (.ret (ac () (rt z rn) z (s.to [])))
 refine .g (.q z (.q z (.nil ?_)))
 refine .cs z h ?_ ?_ <;> intro h
 ·refine .g (.s (ld t102 s z z z z z) z (bv h λy12 hy12 h=>.c (.cO s func207 (dI hy12) z z ?_)))
  intro W s
  refine .q z (.cu 4 90 (y12&&(a0.N==0)) s ?_ ?_)
  ·refine .both (y12) (λb=>?_) (λb=>?_)
   ·have hg10:=b
    exact .g hg10 (.s (fa f102_4 z z z) z (.g hg10 (.s (ld T.t3 s z z z z z) z (.g hg10 (.q z (.s (pkt hg10 z z z) z (.nil (ck 4 s z (bi hg10)))))))))
   exact .xx b z (.xx b z (.xx b z (.s (pkf b z z z) z (.nil (ck 4 s z (bj b))))))
  intro W s
  cases h
  exact .qn z (.ret (ac () (rt z rn) z (s.to [])))
 refine bv h λy13 hy13 h=>?_
 refine .seq (CW.via (R':=λx E' W'=>x=.normal/\aD E' [(2,Pt g1),(91,.bool y13)]/\Sep No w W' [.box g1 102 [vi a0.Op,vi a0.Dst,vi a0.A,vi a0.B,vi a0.N]]) ?_ ?_)
 ·have h:=hy13
  refine .g (.q z (.q z (.nil ?_)))
  refine .cs z h ?_ ?_ <;> intro h
  ·refine .skip ?_
   cases h
   exact ⟨z,sb z,s.to [0]⟩
  refine .region (.q z (.q z (.nil ?_)))
  cases h
  exact ⟨z,sb z,s.to [0]⟩
 intro x E W hJ
 obtain ⟨rfl,hE,s⟩:=hJ
 refine ⟨_,hE.sub,?_⟩
 refine .cs z h ?_ ?_ <;> intro h
 ·refine .g (.s (ld t102 s z z z z z) z (bv h λy14 hy14 h=>.c (.cO s func207 (dI hy14) z z ?_)))
  intro W s
  refine .q z (.cu 4 100 (y14&&(a0.N==0)) s ?_ ?_)
  ·refine .both (y14) (λb=>?_) (λb=>?_)
   ·have hg11:=b
    exact .g hg11 (.s (fa f102_4 z z z) z (.g hg11 (.s (ld T.t3 s z z z z z) z (.g hg11 (.q z (.s (pkt hg11 z z z) z (.nil (ck 4 s z (bi hg11)))))))))
   exact .xx b z (.xx b z (.xx b z (.s (pkf b z z z) z (.nil (ck 4 s z (bj b))))))
  intro W s
  cases h
  exact .qn z (.ret (ac () (rt z rn) z (s.to [])))
 obtain rfl:=o9 h
 exact .skip (.g (.qn z (.ret (ac () (rt z rn) z (s.to [])))))
def tf (w:World) (r:Bool):Env->World->Prop:=Fin Tryz.prog Tryz.f137 No w (λs:Unit=>.bool r) (λs=>[]) .ret
theorem cF {a0:List ah} {v_0:Hd} {w:World} {r:Bool} (h:bP a0=some r) (q_0:RO w v_0 102 5 aq a0):CL 137 #[sv v_0] w (RU w (.bool r)):=by
 unfold bP at h
 refine au func137 z z ?_
 have s:=Sep.start w
 refine .g (.qn z (.g (.q z (.s (a8 (s.keep q_0) u78 z z) z (.qn z (.seq (.g (.q z (bv h λy1 hy1 h=>.c (.cO s func32 (cE hy1) z z ?_))))))))))
 intro W s
 refine .q z (.nil ?_)
 refine .cs z h ?_ ?_ <;> intro h
 ·obtain rfl:=o9 h
  exact .g (.qn z (.ret (ac () (rt z rn) z (s.to []))))
 refine .skip (.seq (.g (.qn z (.block (bv h λy2 hy2 h=>?_)))))
 refine .via (.iter (λs1 E' W'=>aD E' [(0,(sv v_0)),(3,vi (a0.length:Int)),(4,vi s1)]/\Sep No w W' []) (λy3 x E' W'=>(match y3 with | .inl o1=>x=.ret/\tf w o1 E' W' | .inr o2=>x=.exit 0/\aD E' [(0,(sv v_0)),(3,vi (a0.length:Int))]/\Sep No w W' [])) hy2 ⟨sb rfl,s.to [] rfl⟩ ?_) ?_
 ·intro s1 y4 E W h hI
  obtain ⟨hE,s⟩:=hI
  refine CW.sub hE ?_
  unfold kK at h
  refine .seq (.g (.q z (.q z (.q z (.nil ?_)))))
  refine .cs z h ?_ ?_ <;> intro h
  ·refine .skip (.seq (.block (.g (.q z (.q z (bv h λx1 hx1 h=>.s (ixv (s.keep q_0) hx1 u78 t102 z z z) z (.s (lde (RV.flat (s.keep q_0) hx1 z) t102 z z z z z) z (.q z (bv h λy5 hy5 h=>.c (.cO s func179 (lA hy5) z z ?_))))))))))
   intro W s
   refine .q z (.nil ?_)
   refine .cs z h ?_ ?_ <;> intro h
   ·refine .g (.qn z (.ret ?_))
    cases h
    exact ⟨by simp,z,ac (vs:=[_]) () (rt z rn) z (s.to [])⟩
   refine .skip (.region (.q z (.q z (.q z (.nil ?_)))))
   cases h
   exact ⟨z,sb z,s.to []⟩
  refine .exit ?_
  cases h
  exact ⟨by simp,z,sb z,s.to []⟩
 intro x E W hJ
 rcases y2 with o3 | o4
 ·obtain ⟨rfl,hF⟩:=hJ
  refine ⟨_,λ_ _ h=>h,?_⟩
  cases h
  exact hF
 obtain ⟨rfl,hE,s⟩:=hJ
 refine ⟨_,hE.sub,?_⟩
 refine .g (.q z (.q z (.q z (bv h λx2 hx2 h=>.s (ixv (s.keep q_0) hx2 u78 t102 z z z) z (.s (fe f102_0 z z z) z (.s (lde (RV.flat (s.keep q_0) hx2 z) T.t3 z z z z z) z (.q z (.q z (bv h λb1 hb1 h=>.cu 8 37 (b1) s ?_ ?_)))))))))
 ·refine .both (x2.Op==10) (λb=>?_) (λb=>?_)
  ·refine .xx b z (.xx b z (.xx b z (.xx b z (.xx b z (.xx b z (.xx b z ?_))))))
   cases aK b hb1
   exact .s (pkt b z z z) z (.nil (ck 8 s))
  have hg1:=b
  have h:=aL b hb1
  refine .g hg1 (.q z (.g hg1 (.q z (.g hg1 (.q z (bv h λx3 hx3 h=>.g hg1 (.s (ixv (s.keep q_0) hx3 u78 t102 z z z) z (.g hg1 (.s (fe f102_0 z z z) z (.g hg1 (.s (lde (RV.flat (s.keep q_0) hx3 z) T.t3 z z z z z) z (.g hg1 (.q z (.s (pkf hg1 z z z) z ?_))))))))))))))
  cases h
  exact .nil (ck 8 s)
 intro W s
 obtain rfl:=o9 h
 exact .qn z (.ret (ac () (rt z rn) z (s.to [])))
theorem kf {a0:List ah} {a1:Int} {v_0:Hd} {w:World} {r:(List Int)} (h:eg a0 a1=some r) (q_0:RO w v_0 102 5 aq a0):CL 246 #[sv v_0,vi a1] w (Ret No w (λs:Hd=>(sv s)) (λs=>[ae (sv s) 3 1 (D.int .i64) r])):=by
 unfold eg at h
 refine au func246 z z ?_
 have s:=Sep.start w
 refine .g (.qn z (.g (.q z (.q z (bv h λx1 hx1 h=>.s (ixv (s.keep q_0) hx1 u78 t102 z z z) z (.s (lde (RV.flat (s.keep q_0) hx1 z) t102 z z z z z) z (.c (.alloc t102 s ?_))))))))
 intro g1 W s
 refine .c (.st t102 s z z z ?_)
 intro W s
 refine .nil (.seq (.block (.g (.s (fa f102_0 z z z) z (.s (ld T.t3 s z z z z z) z (.q z (.q z (.nil ?_))))))))
 refine .cs z h ?_ ?_ <;> intro h
 ·refine .g (.c (.liv [] (D.int .i64) u23 T.t3 s z z z z ?_ z (λ_=>z)))
  intro v1 W s
  cases h
  exact .qn z (.ret (ac v1 (rt z rn) z (s.to [0])))
 refine .g (.s (fa f102_0 z z z) z (.s (ld T.t3 s z z z z z) z (.q z (.q z (.nil ?_)))))
 refine .cs z h ?_ ?_ <;> intro h
 ·refine .g (.s (fa f102_4 z z z) z (.s (ld T.t3 s z z z z z) z (.c (.liv [x1.N] (D.int .i64) u23 T.t3 s z z z z ?_ z (λ_=>z)))))
  intro v2 W s
  cases h
  exact .qn z (.ret (ac v2 (rt z rn) z (s.to [0])))
 refine .g (.s (fa f102_0 z z z) z (.s (ld T.t3 s z z z z z) z (.q z (.q z (.cu 6 32 ((x1.Op==5)&&(decide (x1.N<(w64 (a1+1))))) s ?_ ?_)))))
 ·refine .both (x1.Op==5) (λb=>?_) (λb=>?_)
  ·have hg1:=b
   exact .g hg1 (.s (fa f102_4 z z z) z (.g hg1 (.s (ld T.t3 s z z z z z) z (.g hg1 (.q z (.g hg1 (.q z (.g hg1 (.q z (.s (pkt hg1 z z z) z (.nil (ck 6 s z (bi hg1)))))))))))))
  exact .xx b z (.xx b z (.xx b z (.xx b z (.xx b z (.s (pkf b z z z) z (.nil (ck 6 s z (bj b))))))))
 intro W s
 refine .q z (.nil ?_)
 refine .cs z h ?_ ?_ <;> intro h
 ·refine .g (.s (fa f102_4 z z z) z (.s (ld T.t3 s z z z z z) z (.q z (.q z (.c (.liv [x1.N,w64 (a1+1)] (D.int .i64) u23 T.t3 s z z z z ?_ z (λ_=>z)))))))
  intro v3 W s
  cases h
  exact .qn z (.ret (ac v3 (rt z rn) z (s.to [0])))
 refine .g (.s (fa f102_0 z z z) z (.s (ld T.t3 s z z z z z) z (.q z (.q z (.cu 6 48 ((x1.Op==5)&&(decide (x1.N>(w64 (a1+1))))) s ?_ ?_)))))
 ·refine .both (x1.Op==5) (λb=>?_) (λb=>?_)
  ·have hg2:=b
   exact .g hg2 (.s (fa f102_4 z z z) z (.g hg2 (.s (ld T.t3 s z z z z z) z (.g hg2 (.q z (.g hg2 (.q z (.g hg2 (.q z (.s (pkt hg2 z z z) z (.nil (ck 6 s z (bi hg2)))))))))))))
  exact .xx b z (.xx b z (.xx b z (.xx b z (.xx b z (.s (pkf b z z z) z (.nil (ck 6 s z (bj b))))))))
 intro W s
 refine .q z (.nil ?_)
 refine .cs z h ?_ ?_ <;> intro h
 ·refine .g (.q z (.q z (.s (fa f102_4 z z z) z (.s (ld T.t3 s z z z z z) z (.c (.liv [w64 (a1+1),x1.N] (D.int .i64) u23 T.t3 s z z z z ?_ z (λ_=>z)))))))
  intro v4 W s
  cases h
  exact .qn z (.ret (ac v4 (rt z rn) z (s.to [0])))
 refine .skip (.g (.q z (.q z (.c (.liv [w64 (a1+1)] (D.int .i64) u23 T.t3 s z z z z ?_ z (λ_=>z))))))
 intro v5 W s
 cases h
 exact .qn z (.ret (ac v5 (rt z rn) z (s.to [0])))
theorem tg {a0:List ah} {a1:List bn} {a2:Int} {v_0:Hd} {v_1:Hd} {w:World} {r:(List Int)} (h:jI a0 a1 a2=some r) (q_0:RO w v_0 102 5 aq a0) (q_1:RO w v_1 238 2 cr a1):CL 250 #[sv v_0,sv v_1,vi a2] w (Ret No w (λs:Hd=>(sv s)) (λs=>[ae (sv s) 3 1 (D.int .i64) r])):=by
 unfold jI at h
 refine au func250 z z ?_
 have s:=Sep.start w
 refine .g (.qn z (.g (.q z (.q z (bv h λx1 hx1 h=>.s (ixv (s.keep q_0) hx1 u78 t102 z z z) z (.s (lde (RV.flat (s.keep q_0) hx1 z) t102 z z z z z) z (.c (.alloc t102 s ?_))))))))
 intro g1 W s
 refine .c (.st t102 s z z z ?_)
 intro W s
 refine .nil (.seq (.g (.s (fa f102_0 z z z) z (.s (ld T.t3 s z z z z z) z (.q z (.q z (bv h λb1 hb1 h=>.cu 8 23 (b1) s ?_ ?_)))))))
 ·refine .both (x1.Op !=5) (λb=>?_) (λb=>?_)
  ·refine .xx b z (.xx b z (.xx b z (.xx b z (.xx b z (.xx b z (.xx b z ?_))))))
   cases aK b hb1
   exact .s (pkt b z z z) z (.nil (ck 8 s))
  have hg1:=b
  have h:=aL b hb1
  refine .g hg1 (.q z (.g hg1 (.s (fa f102_2 z z z) z (.g hg1 (.s (ld T.t3 s z z z z z) z (bv h λx2 hx2 h=>.g hg1 (.s (ixv (s.keep q_1) hx2 u220 t238 z z z) z (.g hg1 (.s (fe f238_0 z z z) z (.g hg1 (.s (lde (RV.flat (s.keep q_1) hx2 z) T.t3 z z z z z) z (.g hg1 (.q z (.s (pkf hg1 z z z) z ?_))))))))))))))
  cases h
  exact .nil (ck 8 s)
 intro W s
 refine .nil ?_
 refine .cs z h ?_ ?_ <;> intro h
 ·refine .g (.q z (.q z (bv h λy1 hy1 h=>.c (.cV s func246 (kf hy1 (s.keep q_0)) z z ?_))))
  intro v1 W s
  obtain rfl:=o9 h
  exact .qn z (.ret (ac v1 (rt z rn) z (s.to [0])))
 refine .skip (.seq (.g (.q z (.s (fa f102_2 z z z) z (.s (ld T.t3 s z z z z z) z (bv h λx3 hx3 h=>.s (ixv (s.keep q_1) hx3 u220 t238 z z z) z (.s (fe f238_1 z z z) z (.s (lde (RV.flat (s.keep q_1) hx3 z) T.t3 z z z z z) z (.q z (.nil ?_))))))))))
 refine .cs z h ?_ ?_ <;> intro h
 ·refine .g (.s (fa f102_4 z z z) z (.s (ld T.t3 s z z z z z) z (.c (.liv [x1.N] (D.int .i64) u23 T.t3 s z z z z ?_ z (λ_=>z)))))
  intro v2 W s
  cases h
  exact .qn z (.ret (ac v2 (rt z rn) z (s.to [0])))
 refine .skip (.g (.q z (.q z (.c (.liv [w64 (a2+1)] (D.int .i64) u23 T.t3 s z z z z ?_ z (λ_=>z))))))
 intro v3 W s
 cases h
 exact .qn z (.ret (ac v3 (rt z rn) z (s.to [0])))
theorem qc {a0:Bool} {w:World} {r:Int} (h:fN a0=some r):CL 264 #[.bool a0] w (RU w (.int .i64 r)):=by
 unfold fN at h
 refine au func264 z z ?_
 have s:=Sep.start w
 refine .g (.qn z (.seq (.g (.q z (.nil ?_)))))
 refine .cs z h ?_ ?_ <;> intro h
 ·cases h
  exact .g (.qn z (.ret (ac () (rt z rn) z (s.to []))))
 cases h
 exact .skip (.g (.qn z (.ret (ac () (rt z rn) z (s.to [])))))
theorem pC {a0:Int} {a1:Int} {a2:Bool} {w:World} {r:Int} (h:fO a0 a1 a2=some r):CL 265 #[vi a0,vi a1,.bool a2] w (RU w (.int .i64 r)):=by
 unfold fO at h
 refine au func265 z z ?_
 have s:=Sep.start w
 refine .g (.qn z (.seq (.g (.q z (.nil ?_)))))
 refine .cs z h ?_ ?_ <;> intro h
 ·refine .g (.q z (.q z (.q z (bv h λd1 hd1 h=>.s (mm hd1 z z z) z (.qn z (.ret ?_))))))
  obtain rfl:=o9 h
  exact ac () (rt z rn) z (s.to [])
 refine .skip (.g (.q z (.q z (.q z (bv h λd2 hd2 h=>.s (mm hd2 z z z) z (bv h λy1 hy1 h=>.c (.cO s func72 (jw hy1) z z ?_)))))))
 intro W s
 obtain rfl:=o9 h
 exact .qn z (.ret (ac () (rt z rn) z (s.to [])))
theorem ti {a0:Int} {a1:Int} {w:World} {r:Int} (h:ib a0 a1=some r):CL 266 #[vi a0,vi a1] w (RU w (.int .i64 r)):=by
 unfold ib at h
 refine au func266 z z ?_
 have s:=Sep.start w
 refine .g (.qn z (.seq (.g (.q z (.q z (.nil ?_))))))
 refine .cs z h ?_ ?_ <;> intro h
 ·cases h
  exact .g (.qn z (.ret (ac () (rt z rn) z (s.to []))))
 refine .skip (.g (.q z (.q z (bv h λd1 hd1 h=>.s (dq hd1 z z z) z (bv h λy1 hy1 h=>.c (.cO s func72 (jw hy1) z z ?_))))))
 intro W s
 obtain rfl:=o9 h
 exact .qn z (.ret (ac () (rt z rn) z (s.to [])))
theorem tj {a0:Int} {a1:Int} {w:World} {r:Int} (h:ic a0 a1=some r):CL 267 #[vi a0,vi a1] w (RU w (.int .i64 r)):=by
 unfold ic at h
 refine au func267 z z ?_
 have s:=Sep.start w
 refine .g (.qn z (.seq (.g (.q z (.q z (.nil ?_))))))
 refine .cs z h ?_ ?_ <;> intro h
 ·obtain rfl:=o9 h
  exact .g (.q z (.qn z (.ret (ac () (rt z rn) z (s.to [])))))
 refine .skip (.g (.q z (.q z (bv h λd1 hd1 h=>.s (dr hd1 z z z) z (.qn z (.ret ?_))))))
 obtain rfl:=o9 h
 exact ac () (rt z rn) z (s.to [])
end
noncomputable section
theorem wt {a0:Int} {a1:Int} {a2:Int} {w:World} {r:Int×Bool} (h:iV a0 a1 a2=some r):CL 260 #[vi a0,vi a1,vi a2] w (RU w (.tuple #[vi r.1,.bool r.2])):=by
 unfold iV at h
 refine au func260 z z ?_
 have s:=Sep.start w
 refine .g (.q z (.qn z (.seq (.g (.q z (bv h λy1 hy1 h=>.c (.cO s func208 (mR hy1) z z ?_)))))))
 intro W s
 refine .q z (.q z (bv h λb1 hb1 h=>.cu 4 15 (b1) s ?_ ?_))
 ·refine .both (!y1) (λb=>?_) (λb=>?_)
  ·refine .xx b z (.xx b z (.xx b z ?_))
   cases aK b hb1
   exact .s (pkt b z z z) z (.nil (ck 4 s))
  have hg1:=b
  have h:=aL b hb1
  refine .g hg1 (.q z (bv h λy2 hy2 h=>.g hg1 (.c (.cO s func140 (iE hy2) z z ?_))))
  intro W s
  refine .g hg1 (.q z (.s (pkf hg1 z z z) z ?_))
  cases h
  exact .nil (ck 4 s)
 intro W s
 refine .q z (bv h λb2 hb2 h=>.cu 4 20 (b2) s ?_ ?_)
 ·refine .both (b1) (λb=>?_) (λb=>?_)
  ·refine .xx b z (.xx b z (.xx b z ?_))
   cases aK b hb2
   exact .s (pkt b z z z) z (.nil (ck 4 s))
  have hg2:=b
  have h:=aL b hb2
  refine .g hg2 (.q z (bv h λy3 hy3 h=>.g hg2 (.c (.cO s func140 (iE hy3) z z ?_))))
  intro W s
  refine .g hg2 (.q z (.s (pkf hg2 z z z) z ?_))
  cases h
  exact .nil (ck 4 s)
 intro W s
 refine .nil ?_
 refine .cs z h ?_ ?_ <;> intro h
 ·cases h
  exact .g (.q z (.qn z (.ret (ac (vs:=[_,_]) () (rt z (rt z rn)) z (s.to [])))))
 refine .skip (.seq (.g (.qn z (.block (.g (.q z (.q z (.nil ?_))))))))
 refine .cs z h ?_ ?_ <;> intro h
 ·cases h
  exact .g (.q z (.q z (.q z (.q z (.qn z (.ret (ac (vs:=[_,_]) () (rt z (rt z rn)) z (s.to []))))))))
 refine .g (.q z (.q z (.nil ?_)))
 refine .cs z h ?_ ?_ <;> intro h
 ·cases h
  exact .g (.q z (.q z (.q z (.q z (.qn z (.ret (ac (vs:=[_,_]) () (rt z (rt z rn)) z (s.to []))))))))
 refine .g (.q z (.q z (.nil ?_)))
 refine .cs z h ?_ ?_ <;> intro h
 ·cases h
  exact .g (.q z (.q z (.q z (.q z (.qn z (.ret (ac (vs:=[_,_]) () (rt z (rt z rn)) z (s.to []))))))))
 refine .g (.q z (.q z (.nil ?_)))
 refine .cs z h ?_ ?_ <;> intro h
 ·refine .g (.q z (.q z (.q z (bv h λy4 hy4 h=>.c (.cO s func264 (qc hy4) z z ?_)))))
  intro W s
  cases h
  exact .q z (.qn z (.ret (ac (vs:=[_,_]) () (rt z (rt z rn)) z (s.to []))))
 refine .g (.q z (.q z (.nil ?_)))
 refine .cs z h ?_ ?_ <;> intro h
 ·refine .g (.q z (.q z (.q z (bv h λy5 hy5 h=>.c (.cO s func264 (qc hy5) z z ?_)))))
  intro W s
  cases h
  exact .q z (.qn z (.ret (ac (vs:=[_,_]) () (rt z (rt z rn)) z (s.to []))))
 refine .g (.q z (.q z (.nil ?_)))
 refine .cs z h ?_ ?_ <;> intro h
 ·refine .g (.q z (.q z (bv h λy6 hy6 h=>.c (.cO s func265 (pC hy6) z z ?_))))
  intro W s
  cases h
  exact .q z (.qn z (.ret (ac (vs:=[_,_]) () (rt z (rt z rn)) z (s.to []))))
 refine .g (.q z (.q z (.nil ?_)))
 refine .cs z h ?_ ?_ <;> intro h
 ·refine .g (.q z (.q z (bv h λy7 hy7 h=>.c (.cO s func265 (pC hy7) z z ?_))))
  intro W s
  cases h
  exact .q z (.qn z (.ret (ac (vs:=[_,_]) () (rt z (rt z rn)) z (s.to []))))
 refine .g (.q z (.q z (.nil ?_)))
 refine .cs z h ?_ ?_ <;> intro h
 ·refine .g (.q z (.q z (.q z (bv h λy8 hy8 h=>.c (.cO s func72 (jw hy8) z z ?_)))))
  intro W s
  cases h
  exact .q z (.qn z (.ret (ac (vs:=[_,_]) () (rt z (rt z rn)) z (s.to []))))
 refine .g (.q z (.q z (.nil ?_)))
 refine .cs z h ?_ ?_ <;> intro h
 ·refine .g (.q z (.q z (.q z (bv h λy9 hy9 h=>.c (.cO s func72 (jw hy9) z z ?_)))))
  intro W s
  cases h
  exact .q z (.qn z (.ret (ac (vs:=[_,_]) () (rt z (rt z rn)) z (s.to []))))
 refine .g (.q z (.q z (.nil ?_)))
 refine .cs z h ?_ ?_ <;> intro h
 ·refine .g (.q z (.q z (.q z (bv h λy10 hy10 h=>.c (.cO s func72 (jw hy10) z z ?_)))))
  intro W s
  cases h
  exact .q z (.qn z (.ret (ac (vs:=[_,_]) () (rt z (rt z rn)) z (s.to []))))
 refine .g (.q z (.q z (.nil ?_)))
 refine .cs z h ?_ ?_ <;> intro h
 ·refine .g (.q z (.q z (bv h λy11 hy11 h=>.c (.cO s func266 (ti hy11) z z ?_))))
  intro W s
  cases h
  exact .q z (.qn z (.ret (ac (vs:=[_,_]) () (rt z (rt z rn)) z (s.to []))))
 refine .skip (.g (.q z (.q z (bv h λy12 hy12 h=>.c (.cO s func267 (tj hy12) z z ?_)))))
 intro W s
 cases h
 exact .q z (.qn z (.ret (ac (vs:=[_,_]) () (rt z (rt z rn)) z (s.to []))))
theorem nY {a0:ah} {a1:bn} {a2:bn} {w:World} {r:bn} (h:gm a0 a1 a2=some r):CL 253 #[.agg #[vi a0.Op,vi a0.Dst,vi a0.A,vi a0.B,vi a0.N],.agg #[vi a1.Kind,vi a1.N],.agg #[vi a2.Kind,vi a2.N]] w (RU w (.agg #[vi r.Kind,vi r.N])):=by
 unfold gm at h
 refine au func253 z z ?_
 have s:=Sep.start w
 refine .g (.c (.box s z z ?_))
 intro g1 W s
 refine .c (.box s z z ?_)
 intro g2 W s
 refine .c (.box s z z ?_)
 intro g3 W s
 refine .c (.alloc t238 s ?_)
 intro g4 W s
 refine .nil (.seq (.g (.s (fa f238_0 z z z) z (.s (ld T.t3 s.p2 z z z z z) z (.q z (.q z (.cu 4 16 ((a1.Kind !=1)||(a2.Kind !=1)) s ?_ ?_)))))))
 ·refine .both (a1.Kind !=1) (λb=>?_) (λb=>?_)
  ·exact .xx b z (.xx b z (.xx b z (.s (pkt b z z z) z (.nil (ck 4 s z (ff b))))))
  have hg1:=b
  exact .g hg1 (.s (fa f238_0 z z z) z (.g hg1 (.s (ld T.t3 s.p1 z z z z z) z (.g hg1 (.q z (.s (pkf hg1 z z z) z (.nil (ck 4 s z (fg hg1)))))))))
 intro W s
 refine .nil ?_
 refine .cs z h ?_ ?_ <;> intro h
 ·refine .g (.s (bs T.s238 z z) z (.c (.st t238 s z z z ?_)))
  intro W s
  cases h
  exact .nil (.ret (ac () (rc s t238 z rn z z) z (s.to [])))
 refine .skip (.g (.s (fa f102_4 z z z) z (.s (ld T.t3 s.p3 z z z z z) z (.s (fa f238_1 z z z) z (.s (ld T.t3 s.p2 z z z z z) z (.s (fa f238_1 z z z) z (.s (ld T.t3 s.p1 z z z z z) z (bv h λy1 hy1 h=>.c (.cO s func260 (wt hy1) z z ?_)))))))))
 intro W s
 refine .q z (.q z (.q z (.q z (.qn z (.g (.q z (.s (bs T.s238 z z) z (.c (.st t238 s z z z ?_)))))))))
 intro W s
 cases h
 exact .nil (.ret (ac () (rc s t238 z rn z z) z (s.to [])))
theorem tm {a0:ah} {a1:List bn} {v_1:Hd} {w:World} {r:(List bn)} (h:jJ a0 a1=some r) (q_1:RO w v_1 238 2 cr a1):CL 251 #[.agg #[vi a0.Op,vi a0.Dst,vi a0.A,vi a0.B,vi a0.N],sv v_1] w (Ret No w (λs:Hd=>(sv s)) (λs=>[ae (sv s) 238 2 cr r])):=by
 unfold jJ at h
 refine au func251 z z ?_
 have s:=Sep.start w
 refine .g (.c (.box s z z ?_))
 intro g1 W s
 refine .qn z (.g (.c (.liv [] cr u220 t238 s z z z z ?_ z (λ_=>z))))
 intro v1 W s
 refine .q z (bv h λr1 hr1 h=>.c (.av hr1 s (s.keep q_1) (λ_=>z) u220 t238 z z z ?_))
 intro v2 W s
 refine .qn z (.seq (.g (.s (fa f102_0 z z z) z (.s (ld T.t3 s.p1 z z z z z) z (.nil (.block (.g (.q z (.q z (.nil ?_))))))))))
 refine .cs z h ?_ ?_ <;> intro h
 ·refine .region (.q z (.s (fa f102_1 z z z) z (.s (ld T.t3 s.p1 z z z z z) z (.s (fa f102_4 z z z) z (.s (ld T.t3 s.p1 z z z z z) z (.s (bs T.s238 z z) z (bv h λx1 hx1 h=>.s (ixv s.lv hx1 u220 t238 z z z) z (bv h λr2 hr2 h=>.c (.sev hr2 hx1 s t238 z z z z z z ?_)))))))))
  intro W s
  obtain rfl:=o9 h
  exact .nil (.g (.q z (.qn z (.ret (ac v2 (rt z rn) z (s.to [0]))))))
 refine .g (.q z (.q z (.nil ?_)))
 refine .cs z h ?_ ?_ <;> intro h
 ·refine .rk 9 s [0,0] T.mix ?_
  intro W s
  have t:=s.to [0,0]
  refine .tp' 0 z z t (.ts' 1 z (λW t=>fa f102_1 z z z) t z (.ts' 2 z (λW t=>ld T.t3 t.p1 z z z z z) t z (.tp' 3 z z t (.ts' 4 z (λW t=>fa f102_2 z z z) t z (.ts' 5 z (λW t=>ld T.t3 t.p1 z z z z z) t z (bv h λx2 hx2 h=>.ts' 6 z (λW t=>ixv (s.keep q_1) hx2 u220 t238 z z z) t z (.ts' 7 z (λW t=>lde (RV.flat (t.keep q_1) hx2 z) t238 z z z z z) t z (bv h λx3 hx3 h=>.ts' 8 z (λW t=>ixv s.lv hx3 u220 t238 z z z) t z (bv h λr3 hr3 h=>.by1 9 z (.sev hr3 hx3 s t238 z z z z z z ?_))))))))))
  intro W s
  refine ⟨λh=>absurd z h,?_⟩
  obtain rfl:=o9 h
  exact .done (.g (.q z (.qn z (.ret (ac v2 (rt z rn) z (s.to [0]))))))
 refine .g (.q z (.q z (.nil ?_)))
 refine .cs z h ?_ ?_ <;> intro h
 ·refine .region (.q z (.s (fa f102_1 z z z) z (.s (ld T.t3 s.p1 z z z z z) z (.s (bs T.s238 z z) z (bv h λx4 hx4 h=>.s (ixv s.lv hx4 u220 t238 z z z) z (bv h λr4 hr4 h=>.c (.sev hr4 hx4 s t238 z z z z z z ?_)))))))
  intro W s
  obtain rfl:=o9 h
  exact .nil (.g (.q z (.qn z (.ret (ac v2 (rt z rn) z (s.to [0]))))))
 refine .g (.q z (.q z (.nil ?_)))
 refine .cs z h ?_ ?_ <;> intro h
 ·refine .rk 16 s [0,0] T.mix ?_
  intro W s
  have t:=s.to [0,0]
  refine .tp' 0 z z t (.ts' 1 z (λW t=>fa f102_1 z z z) t z (.ts' 2 z (λW t=>ld T.t3 t.p1 z z z z z) t z (.ts' 3 z (λW t=>ld t102 t.p1 z z z z z) t z (.tp' 4 z z t (.ts' 5 z (λW t=>fa f102_2 z z z) t z (.ts' 6 z (λW t=>ld T.t3 t.p1 z z z z z) t z (bv h λx5 hx5 h=>.ts' 7 z (λW t=>ixv (s.keep q_1) hx5 u220 t238 z z z) t z (.ts' 8 z (λW t=>lde (RV.flat (t.keep q_1) hx5 z) t238 z z z z z) t z (.tp' 9 z z t (.ts' 10 z (λW t=>fa f102_3 z z z) t z (.ts' 11 z (λW t=>ld T.t3 t.p1 z z z z z) t z (bv h λx6 hx6 h=>.ts' 12 z (λW t=>ixv (s.keep q_1) hx6 u220 t238 z z z) t z (.ts' 13 z (λW t=>lde (RV.flat (t.keep q_1) hx6 z) t238 z z z z z) t z (bv h λy1 hy1 h=>.by1 14 z (.cO s func253 (nY hy1) z z ?_)))))))))))))))
  intro W s
  refine s.an [0,0] λt=>bv h λx7 hx7 h=>.ts' 15 z (λW t=>ixv s.lv hx7 u220 t238 z z z) t z (bv h λr5 hr5 h=>.by1 16 z (.sev hr5 hx7 s t238 z z z z z z ?_))
  intro W s
  refine ⟨λh=>absurd z h,?_⟩
  obtain rfl:=o9 h
  exact .done (.g (.q z (.qn z (.ret (ac v2 (rt z rn) z (s.to [0]))))))
 obtain rfl:=o9 h
 exact .skip (.g (.q z (.qn z (.ret (ac v2 (rt z rn) z (s.to [0]))))))
theorem pD {a0:bn} {a1:bn} {w:World} {r:bn} (h:kL a0 a1=some r):CL 259 #[.agg #[vi a0.Kind,vi a0.N],.agg #[vi a1.Kind,vi a1.N]] w (RU w (.agg #[vi r.Kind,vi r.N])):=by
 unfold kL at h
 refine au func259 z z ?_
 have s:=Sep.start w
 refine .g (.c (.box s z z ?_))
 intro g1 W s
 refine .c (.box s z z ?_)
 intro g2 W s
 refine .c (.alloc t238 s ?_)
 intro g3 W s
 refine .nil (.seq (.g (.s (fa f238_0 z z z) z (.s (ld T.t3 s.p2 z z z z z) z (.q z (.nil ?_))))))
 refine .cs z h ?_ ?_ <;> intro h
 ·refine .g (.s (ld t238 s.p1 z z z z z) z (.c (.st t238 s z z z ?_)))
  intro W s
  obtain rfl:=o9 h
  exact .nil (.ret (ac () (rc s t238 z rn z z) z (s.to [])))
 refine .skip (.seq (.g (.s (fa f238_0 z z z) z (.s (ld T.t3 s.p1 z z z z z) z (.q z (.q z (.cu 4 16 ((a1.Kind==0)||((a0.Kind==a1.Kind)&&((a0.N==a1.N)&&true))) s ?_ ?_)))))))
 ·refine .both (a1.Kind==0) (λb=>?_) (λb=>?_)
  ·exact .xx b z (.xx b z (.xx b z (.s (pkt b z z z) z (.nil (ck 4 s z (ff b))))))
  have hg1:=b
  exact .g hg1 (.s (ld t238 s.p2 z z z z z) z (.g hg1 (.s (ld t238 s.p1 z z z z z) z (.g hg1 (.s (eqs T.e238 z z z z) z (.s (pkf hg1 z z z) z (.nil (ck 4 s z (fg hg1)))))))))
 intro W s
 refine .nil ?_
 refine .cs z h ?_ ?_ <;> intro h
 ·refine .g (.s (ld t238 s.p2 z z z z z) z (.c (.st t238 s z z z ?_)))
  intro W s
  obtain rfl:=o9 h
  exact .nil (.ret (ac () (rc s t238 z rn z z) z (s.to [])))
 refine .skip (.g (.s (bs T.s238 z z) z (.c (.st t238 s z z z ?_))))
 intro W s
 cases h
 exact .nil (.ret (ac () (rc s t238 z rn z z) z (s.to [])))
theorem tr {a0:List (List bn)} {a1:Int} {a2:List bn} {v_0:Hd} {v_2:Hd} {S:Nat->Prop} {w:World} {r:Bool×(List (List bn))} (h:jK a0 a1 a2=some r) (q_2:RV w (Old S w) (sv v_2) 238 2 cr a2) (hO:bQ w [ae (sv v_0) 220 1 (λ(l:List bn)=>D.row 238 2 (l.map cr)) a0] S) (hlt:∀ b,S b->b<w.heap.size):CL 252 #[sv v_0,vi a1,sv v_2] w (Ret S w (λs:Unit=>.bool r.1) (λs=>[ae (sv v_0) 220 1 (λ(l:List bn)=>D.row 238 2 (l.map cr)) r.2])):=by
 unfold jK at h
 refine au func252 z z ?_
 have s:=Sep.sm hO hlt
 refine .g (.qn z (.g (.qn z (.seq (.g (.qn z (.block (bv h λy1 hy1 h=>?_))))))))
 refine .via (.iter (λs1 E' W'=>aD E' [(0,(sv v_0)),(1,vi a1),(2,(sv v_2)),(7,.bool s1.1),(8,vi s1.2.1)]/\Sep S w W' [ae (sv v_0) 220 1 (λ(l:List bn)=>D.row 238 2 (l.map cr)) s1.2.2]) (λy2 x E' W'=>x=.exit 0/\aD E' [(7,.bool y2.1)]/\Sep S w W' [ae (sv v_0) 220 1 (λ(l:List bn)=>D.row 238 2 (l.map cr)) y2.2]) hy1 ⟨sb z,s.to [0]⟩ ?_) ?_
 ·intro s1 y3 E W h hI
  obtain ⟨hE,s⟩:=hI
  refine CW.sub hE ?_
  unfold lN at h
  refine .seq (.g (.q z (.q z (.nil ?_))))
  refine .cs z h ?_ ?_ <;> intro h
  ·refine .skip (bv h λy4 hy4 h=>?_)
   refine .seq (CW.via (R':=λx E' W'=>x=.normal/\aD E' [(0,(sv v_0)),(1,vi a1),(2,(sv v_2)),(7,.bool y4.1),(8,vi s1.2.1)]/\Sep S w W' [ae (sv v_0) 220 1 (λ(l:List bn)=>D.row 238 2 (l.map cr)) y4.2]) ?_ ?_)
   ·have h:=hy4
    refine .block (.seq (bv h λx1 hx1 h=>?_))
    obtain ⟨k1,s⟩:=Sep.ov s hx1
    obtain ⟨v1,k1,rfl,s⟩:=s.ow
    obtain ⟨rfl,s⟩:=s.oN
    refine bv h λx4 hx4 h=>bv h λx5 hx5 h=>bv h λy6 hy6 h=>?_
    refine .via (R':=λx E' W'=>x=.normal/\∃ (g2:Nat),aD E' [(0,(sv v_0)),(1,vi a1),(2,(sv v_2)),(7,.bool s1.1),(8,vi s1.2.1),(9,Pt g2)]/\Sep S w W' [ae (sv v_0) 220 1 (λ(l:List bn)=>D.row 238 2 (l.map cr)) s1.2.2,.box g2 238 [vi y6.Kind,vi y6.N]]) ?_ ?_
    ·refine .rk 13 s [0,0] T.mix ?_
     intro W s
     have t:=s.to [0,0]
     refine .tp' 0 z z t (.tp' 1 z z t (.ts' 2 z (λW t=>ixh t.p1 hx1 u217 t220 z z z) t z (.ts' 3 z (λW t=>lde (t.p1.hcellsv) t220 z z z z z) t z (.tp' 4 z z t (.ts' 5 z (λW t=>ixv s.lv hx4 u220 t238 z z z) t z (.ts' 6 z (λW t=>lde (RV.flat t.lv hx4 z) t238 z z z z z) t z (.tp' 7 z z t (.tp' 8 z z t (.ts' 9 z (λW t=>ixv (s.keep q_2) hx5 u220 t238 z z z) t z (.ts' 10 z (λW t=>lde (RV.flat (t.keep q_2) hx5 z) t238 z z z z z) t z (.by [11,12] ⟨⟨_,z,?_⟩,⟨_,z,?_⟩,trivial⟩)))))))))))
     ·refine (.cO s func259 (pD hy6) z z ?_)
      intro W s
      refine s.an [0,0] λt=>.by1 12 z (.alloc t238 s ?_)
      intro g3 W s
      refine s.an [1,1] λt=>.by1 13 z (.st t238 s z z z ?_)
      intro W s
      refine ⟨λh=>absurd z h,?_⟩
      refine .done ?_
      have s:=Sep.gat (ds:=[.row 238 2 (x1.map cr)]) (cs:=[sv v1]) (L1:=[ae (sv v1) 238 2 cr x1]) (.row (.nil)) (s.to [1,1,0])
      have s:Sep _ _ _ [ae (sv v_0) 220 1 (λ(l:List bn)=>D.row 238 2 (l.map cr)) s1.2.2,.box g3 238 [vi y6.Kind,vi y6.N]]:=Sep.back0v hx1 s
      exact ⟨z,g3,sb z,s.to [0,0]⟩
     refine (.alloc t238 s ?_)
     intro g4 W s
     refine s.an [1,1] λt=>.by1 11 z (.cO s func259 (pD hy6) z z ?_)
     intro W s
     refine s.an [1,1] λt=>.by1 13 z (.st t238 s z z z ?_)
     intro W s
     refine ⟨λh=>absurd z h,?_⟩
     refine .done ?_
     have s:=Sep.gat (ds:=[.row 238 2 (x1.map cr)]) (cs:=[sv v1]) (L1:=[ae (sv v1) 238 2 cr x1]) (.row (.nil)) (s.to [1,1,0])
     have s:Sep _ _ _ [ae (sv v_0) 220 1 (λ(l:List bn)=>D.row 238 2 (l.map cr)) s1.2.2,.box g4 238 [vi y6.Kind,vi y6.N]]:=Sep.back0v hx1 s
     exact ⟨z,g4,sb z,s.to [0,0]⟩
    intro x E W hJ
    obtain ⟨rfl,g5,hE,s⟩:=hJ
    refine ⟨_,hE.sub,?_⟩
    refine .seq (bv h λx6 hx6 h=>?_)
    obtain ⟨k2,s⟩:=Sep.ov s hx6
    obtain ⟨v2,k2,rfl,s⟩:=s.ow
    obtain ⟨rfl,s⟩:=s.oN
    refine .rk 9 s [0,0,0] T.mix ?_
    intro W s
    have t:=s.to [0,0,0]
    refine .ts' 0 z (λW t=>ld t238 t.p2 z z z z z) t z (.tp' 1 z z t (.tp' 2 z z t (.ts' 3 z (λW t=>ixh t.p1 hx6 u217 t220 z z z) t z (.ts' 4 z (λW t=>lde (t.p1.hcellsv) t220 z z z z z) t z (.tp' 5 z z t (bv h λx8 hx8 h=>.ts' 6 z (λW t=>ixv s.lv hx8 u220 t238 z z z) t z (.ts' 7 z (λW t=>lde (RV.flat t.lv hx8 z) t238 z z z z z) t z (.ts' 8 z (λW t=>nes T.e238 z z z z) t z (.done ?_)))))))))
    refine .cs z h ?_ ?_ <;> intro h
    ·refine .seq (.rk 7 s [0,0,0] T.mix ?_)
     intro W s
     have t:=s.to [0,0,0]
     refine .tp' 0 z z t (.tp' 1 z z t (.ts' 2 z (λW t=>ixh t.p1 hx6 u217 t220 z z z) t z (.ts' 3 z (λW t=>lde (t.p1.hcellsv) t220 z z z z z) t z (.tp' 4 z z t (.ts' 5 z (λW t=>ld t238 t.p2 z z z z z) t z (bv h λx9 hx9 h=>.ts' 6 z (λW t=>ixv s.lv hx9 u220 t238 z z z) t z (bv h λr1 hr1 h=>.by1 7 z (.sev hr1 hx9 s t238 z z z z z z ?_))))))))
     intro W s
     refine ⟨λh=>absurd z h,?_⟩
     refine .done (.region (.q z (.nil ?_)))
     have s:=Sep.gat (ds:=[.row 238 2 (r1.map cr)]) (cs:=[sv v2]) (L1:=[ae (sv v2) 238 2 cr r1]) (.row (.nil)) (s.to [0,0,0])
     have s:Sep _ _ _ [ae (sv v_0) 220 1 (λ(l:List bn)=>D.row 238 2 (l.map cr)) (s1.2.2.set (Int.toNat a1) r1),.box g5 238 [vi y6.Kind,vi y6.N]]:=s.bv
     cases h
     exact ⟨z,sb z,s.to [0]⟩
    refine .skip ?_
    have s:=Sep.gat (ds:=[.row 238 2 (x6.map cr)]) (cs:=[sv v2]) (L1:=[ae (sv v2) 238 2 cr x6]) (.row (.nil)) (s.to [0,0,0])
    have s:Sep _ _ _ [ae (sv v_0) 220 1 (λ(l:List bn)=>D.row 238 2 (l.map cr)) s1.2.2,.box g5 238 [vi y6.Kind,vi y6.N]]:=Sep.back0v hx6 s
    cases h
    exact ⟨z,sb z,s.to [0]⟩
   intro x E W hJ
   obtain ⟨rfl,hE,s⟩:=hJ
   refine ⟨_,hE.sub,?_⟩
   refine .region (.q z (.q z (.q z (.nil ?_))))
   cases h
   exact ⟨z,sb z,s.to [0]⟩
  refine .exit ?_
  cases h
  exact ⟨by simp,z,sb z,s.to [0]⟩
 intro x E W hJ
 obtain ⟨rfl,hE,s⟩:=hJ
 refine ⟨_,hE.sub,?_⟩
 cases h
 exact .g (.q z (.qn z (.ret (ac () (rt z rn) z (s.to [0])))))
theorem tu {a0:List ah} {a1:List (List bn)} {v_0:Hd} {v_1:Hd} {S:Nat->Prop} {w:World} {r:Bool×(List (List bn))} (h:jL a0 a1=some r) (q_0:RV w (Old S w) (sv v_0) 102 5 aq a0) (hO:bQ w [ae (sv v_1) 220 1 (λ(l:List bn)=>D.row 238 2 (l.map cr)) a1] S) (hlt:∀ b,S b->b<w.heap.size):CL 240 #[sv v_0,sv v_1] w (Ret S w (λs:Unit=>.bool r.1) (λs=>[ae (sv v_1) 220 1 (λ(l:List bn)=>D.row 238 2 (l.map cr)) r.2])):=by
 unfold jL at h
 refine au func240 z z ?_
 have s:=Sep.sm hO hlt
 refine .g (.qn z (.g (.qn z (.seq (.g (.qn z (.block (bv h λy1 hy1 h=>?_))))))))
 refine .via (.iter (λs1 E' W'=>aD E' [(0,(sv v_0)),(1,(sv v_1)),(5,.bool s1.1),(6,vi s1.2.1)]/\Sep S w W' [ae (sv v_1) 220 1 (λ(l:List bn)=>D.row 238 2 (l.map cr)) s1.2.2]) (λy2 x E' W'=>x=.exit 0/\aD E' [(5,.bool y2.1)]/\Sep S w W' [ae (sv v_1) 220 1 (λ(l:List bn)=>D.row 238 2 (l.map cr)) y2.2]) hy1 ⟨sb z,s.to [0]⟩ ?_) ?_
 ·intro s1 y3 E W h hI
  obtain ⟨hE,s⟩:=hI
  refine CW.sub hE ?_
  unfold lP at h
  refine .seq (.g (.q z (.q z (.s (a8 (s.keep q_0) u78 z z) z (.q z (.nil ?_))))))
  refine .cs z h ?_ ?_ <;> intro h
  ·refine .skip (bv h λy4 hy4 h=>?_)
   refine .seq (CW.via (R':=λx E' W'=>x=.normal/\aD E' [(0,(sv v_0)),(1,(sv v_1)),(5,.bool y4.1),(6,vi s1.2.1)]/\Sep S w W' [ae (sv v_1) 220 1 (λ(l:List bn)=>D.row 238 2 (l.map cr)) y4.2]) ?_ ?_)
   ·have h:=hy4
    refine .block (.seq (.g (.q z (.q z (bv h λx1 hx1 h=>.s (ixv s.lv hx1 u217 t220 z z z) z ?_)))))
    obtain ⟨k1,s⟩:=Sep.ov s hx1
    obtain ⟨v1,k1,rfl,s⟩:=s.ow
    obtain ⟨rfl,s⟩:=s.oN
    refine .s (lde (s.p1.hcellsv) t220 z z z z z) z (bv h λx2 hx2 h=>.s (ixv s.lv hx2 u220 t238 z z z) z (.s (fe f238_0 z z z) z (.s (lde (RV.flat s.lv hx2 z) T.t3 z z z z z) z (.q z (.nil ?_)))))
    refine .cs z h ?_ ?_ <;> intro h
    ·refine .exit ?_
     have s:=Sep.gat (ds:=[.row 238 2 (x1.map cr)]) (cs:=[sv v1]) (L1:=[ae (sv v1) 238 2 cr x1]) (.row (.nil)) (s.to [0,0])
     have s:Sep _ _ _ [ae (sv v_1) 220 1 (λ(l:List bn)=>D.row 238 2 (l.map cr)) s1.2.2]:=Sep.back0v hx1 s
     cases h
     exact ⟨z,sb z,s.to [0]⟩
    refine .skip (.g (.q z (.q z (.q z (.s (ixh s.p1 hx1 u217 t220 z z z) z (.s (lde (s.p1.hcellsv) t220 z z z z z) z (.q z (bv h λy5 hy5 h=>.c (.cV s func250 (tg hy5 (s.keep q_0) s.lv) z z ?_)))))))))
    intro v2 W s
    refine .qn z (.seq (.rk 10 s [0,0,0] T.mix ?_))
    intro W s
    have t:=s.to [0,0,0]
    refine .tp' 0 z z t (.tp' 1 z z t (bv h λx3 hx3 h=>.ts' 2 z (λW t=>ixv (s.keep q_0) hx3 u78 t102 z z z) t z (.ts' 3 z (λW t=>lde (RV.flat (t.keep q_0) hx3 z) t102 z z z z z) t z (.tp' 4 z z t (.tp' 5 z z t (.ts' 6 z (λW t=>ixh t.p2 hx1 u217 t220 z z z) t z (.ts' 7 z (λW t=>lde (t.p2.hcellsv) t220 z z z z z) t z (bv h λy6 hy6 h=>.by1 8 z (.cV s func251 (tm hy6 s.p1.lv) z z ?_)))))))))
    intro v3 W s
    refine s.an [1,1,1] λt=>.tp' 9 z z t (.done (.g (.qn z (.block ?_))))
    have s:=Sep.gat (ds:=[.row 238 2 (x1.map cr)]) (cs:=[sv v1]) (L1:=[ae (sv v1) 238 2 cr x1]) (.row (.nil)) (s.to [2,2,0,0])
    have s:Sep _ _ _ [ae (sv v_1) 220 1 (λ(l:List bn)=>D.row 238 2 (l.map cr)) s1.2.2,ae (sv v3) 238 2 cr y6,ae (sv v2) 3 1 (D.int .i64) y5]:=Sep.back0v hx1 s
    refine bv h λy7 hy7 h=>?_
    refine .via (.iter (λs2 E' W'=>aD E' [(0,(sv v_0)),(1,(sv v_1)),(5,.bool s2.1),(6,vi s1.2.1),(7,(sv v2)),(8,(sv v3)),(9,vi s2.2.1)]/\Sep S w W' [ae (sv v_1) 220 1 (λ(l:List bn)=>D.row 238 2 (l.map cr)) s2.2.2,ae (sv v3) 238 2 cr y6,ae (sv v2) 3 1 (D.int .i64) y5]) (λy8 x E' W'=>x=.exit 2/\aD E' [(0,(sv v_0)),(1,(sv v_1)),(5,.bool y8.1),(6,vi s1.2.1)]/\Sep S w W' [ae (sv v_1) 220 1 (λ(l:List bn)=>D.row 238 2 (l.map cr)) y8.2,ae (sv v3) 238 2 cr y6,ae (sv v2) 3 1 (D.int .i64) y5]) hy7 ⟨sb z,s.to [0,0,0]⟩ ?_) ?_
    ·intro s2 y9 E W h hI
     obtain ⟨hE,s⟩:=hI
     refine CW.sub hE ?_
     unfold lO at h
     refine .seq (.g (.q z (.q z (.s (a8 s.p2.lv u23 z z) z (.qn z (.cond z (λb=>?_) (λb=>?_)))))))
     ·have h:=aK b h
      refine .skip (bv h λy10 hy10 h=>?_)
      refine .seq (CW.via (R':=λx E' W'=>x=.normal/\aD E' [(0,(sv v_0)),(1,(sv v_1)),(5,.bool y10.1),(6,vi s1.2.1),(7,(sv v2)),(8,(sv v3)),(9,vi s2.2.1)]/\Sep S w W' [ae (sv v_1) 220 1 (λ(l:List bn)=>D.row 238 2 (l.map cr)) y10.2,ae (sv v3) 238 2 cr y6,ae (sv v2) 3 1 (D.int .i64) y5]) ?_ ?_)
      ·have h:=hy10
       refine .block (.g (.q z (.q z (.q z (bv h λx4 hx4 h=>.s (ixv s.p2.lv hx4 u23 T.t3 z z z) z (.s (lde (RV.flat s.p2.lv hx4 z) T.t3 z z z z z) z (.q z (bv h λy11 hy11 h=>.c (.cS (L0:=[ae (sv v_1) 220 1 (λ(l:List bn)=>D.row 238 2 (l.map cr)) s2.2.2]) s func252 (λS h1 h2 h3=>(tr hy11 (h3.rdv (k:=0) z) h2 (zz h1))) z z ?_)))))))))
       rintro ⟨⟩ W s
       refine .nil ?_
       refine .cs z h ?_ ?_ <;> intro h
       ·refine .region (.q z (.nil ?_))
        cases h
        exact ⟨z,sb z,s.to [0,0,0]⟩
       refine .skip ?_
       cases h
       exact ⟨z,sb z,s.to [0,0,0]⟩
      intro x E W hJ
      obtain ⟨rfl,hE,s⟩:=hJ
      refine ⟨_,hE.sub,?_⟩
      refine .region (.q z (.q z (.q z (.nil ?_))))
      cases h
      exact ⟨z,sb z,s.to [0,0,0]⟩
     have h:=aL b h
     refine .exit ?_
     cases h
     exact ⟨by simp,z,sb z,s.to [0,0,0]⟩
    intro x E W hJ
    obtain ⟨rfl,hE,s⟩:=hJ
    refine ⟨_,hE.sub,?_⟩
    cases h
    exact ⟨z,sb z,s.to [0]⟩
   intro x E W hJ
   obtain ⟨rfl,hE,s⟩:=hJ
   refine ⟨_,hE.sub,?_⟩
   refine .region (.q z (.q z (.q z (.nil ?_))))
   cases h
   exact ⟨z,sb z,s.to [0]⟩
  refine .exit ?_
  cases h
  exact ⟨by simp,z,sb z,s.to [0]⟩
 intro x E W hJ
 obtain ⟨rfl,hE,s⟩:=hJ
 refine ⟨_,hE.sub,?_⟩
 cases h
 exact .g (.q z (.qn z (.ret (ac () (rt z rn) z (s.to [0])))))
theorem un {a0:List ah} {v_0:Hd} {w:World} {r:(List (List bn))} (h:kM a0=some r) (q_0:RO w v_0 102 5 aq a0):CL 221 #[sv v_0] w (Ret No w (λs:Hd=>(sv s)) (λs=>[ae (sv s) 220 1 (λ(l:List bn)=>D.row 238 2 (l.map cr)) r])):=by
 unfold kM at h
 refine au func221 z z ?_
 have s:=Sep.start w
 refine .g (.qn z (.g (.c (.lg (L1:=[]) [] (λ(l:List bn)=>D.row 238 2 (l.map cr)) u217 t220 (s.to []) z z z (.nil) ?_ z (λ_=>z)))))
 intro v1 W s
 refine .qn z (.seq (.g (.q z (bv h λy1 hy1 h=>.c (.cO s func137 (cF hy1 (s.keep q_0)) z z ?_)))))
 intro W s
 refine .qn z (.cond z (λb=>?_) (λb=>?_))
 ·have h:=aK b h
  cases h
  exact .g (.q z (.qn z (.ret (ac v1 (rt z rn) z (s.to [0])))))
 have h:=aL b h
 refine .skip (.seq (.g (.qn z (.block (bv h λy2 hy2 h=>?_)))))
 refine .via (.iter (λs1 E' W'=>∃ (v4:Hd),aD E' [(0,(sv v_0)),(3,(sv v4)),(4,vi s1.2)]/\Sep No w W' [ae (sv v4) 220 1 (λ(l:List bn)=>D.row 238 2 (l.map cr)) s1.1]) (λy3 x E' W'=>x=.exit 0/\∃ (v5:Hd),aD E' [(0,(sv v_0)),(3,(sv v5))]/\Sep No w W' [ae (sv v5) 220 1 (λ(l:List bn)=>D.row 238 2 (l.map cr)) y3]) hy2 ⟨v1,sb z,s.to [0]⟩ ?_) ?_
 ·intro s1 y4 E W h hI
  obtain ⟨v3,hE,s⟩:=hI
  refine CW.sub hE ?_
  unfold mM at h
  refine .seq (.g (.q z (.q z (.s (a8 (s.keep q_0) u78 z z) z (.q z (.nil ?_))))))
  refine .cs z h ?_ ?_ <;> intro h
  ·refine .skip (.seq (.block (.region (.q z (bv h λr1 hr1 h=>.c (.mkv (bn.mk 0 0) cr hr1 u220 t238 s z z z z z (λ_=>z) ?_))))))
   intro v6 W s
   refine .c (.lg (L1:=[ae (sv v6) 238 2 cr r1]) [r1] (λ(l:List bn)=>D.row 238 2 (l.map cr)) u217 t220 (s.to [0,0]) z z z (.row (.nil)) ?_ z (λ_=>z))
   intro v7 W s
   refine bv h λr2 hr2 h=>.c (.appv hr2 (s.to [1,0]) u217 t220 z z z ?_)
   intro v8 W s
   refine .qn z (.region (.q z (.q z (.q z (.nil ?_)))))
   cases h
   exact ⟨z,v8,sb z,s.to [0]⟩
  refine .exit ?_
  cases h
  exact ⟨by simp,z,v3,sb z,s.to [0]⟩
 intro x E W hJ
 obtain ⟨rfl,v9,hE,s⟩:=hJ
 refine ⟨_,hE.sub,?_⟩
 refine .seq (.g (.qn z (.block (bv h λy5 hy5 h=>?_))))
 refine .via (.iter (λs2 E' W'=>aD E' [(0,(sv v_0)),(3,(sv v9)),(5,vi s2.1)]/\Sep No w W' [ae (sv v9) 220 1 (λ(l:List bn)=>D.row 238 2 (l.map cr)) s2.2]) (λy6 x E' W'=>x=.exit 2/\aD E' [(0,(sv v_0)),(3,(sv v9))]/\Sep No w W' [ae (sv v9) 220 1 (λ(l:List bn)=>D.row 238 2 (l.map cr)) y6]) hy5 ⟨sb z,s.to [0]⟩ ?_) ?_
 ·intro s2 y7 E W h hI
  obtain ⟨hE,s⟩:=hI
  refine CW.sub hE ?_
  unfold mN at h
  refine .seq (.g (.q z (.q z (.nil ?_))))
  refine .cs z h ?_ ?_ <;> intro h
  ·refine .skip (.seq (.block (.region (.q z (bv h λx1 hx1 h=>.s (ixv s.lv hx1 u217 t220 z z z) z ?_)))))
   obtain ⟨k1,s⟩:=Sep.ov s hx1
   obtain ⟨v10,k1,rfl,s⟩:=s.ow
   obtain ⟨rfl,s⟩:=s.oN
   refine .s (lde (s.p1.hcellsv) t220 z z z z z) z (.q z (.s (bs T.s238 z z) z (bv h λx2 hx2 h=>.s (ixv s.lv hx2 u220 t238 z z z) z (bv h λr3 hr3 h=>.c (.sev hr3 hx2 s t238 z z z z z z ?_)))))
   intro W s
   refine .nil (.region (.q z (.q z (.q z (.nil ?_)))))
   have s:=Sep.gat (ds:=[.row 238 2 (r3.map cr)]) (cs:=[sv v10]) (L1:=[ae (sv v10) 238 2 cr r3]) (.row (.nil)) (s.to [0,0])
   have s:Sep _ _ _ [ae (sv v9) 220 1 (λ(l:List bn)=>D.row 238 2 (l.map cr)) (s2.2.set (Int.toNat 0) r3)]:=s.bv
   cases h
   exact ⟨z,sb z,s.to [0]⟩
  refine .exit ?_
  cases h
  exact ⟨by simp,z,sb z,s.to [0]⟩
 intro x E W hJ
 obtain ⟨rfl,hE,s⟩:=hJ
 refine ⟨_,hE.sub,?_⟩
 refine .seq (.block (bv h λy8 hy8 h=>?_))
 refine .via (.iter (λs3 E' W'=>aD E' [(0,(sv v_0)),(3,(sv v9))]/\Sep No w W' [ae (sv v9) 220 1 (λ(l:List bn)=>D.row 238 2 (l.map cr)) s3]) (λy9 x E' W'=>x=.exit 4/\aD E' [(3,(sv v9))]/\Sep No w W' [ae (sv v9) 220 1 (λ(l:List bn)=>D.row 238 2 (l.map cr)) y9]) hy8 ⟨sb z,s.to [0]⟩ ?_) ?_
 ·intro s3 y10 E W h hI
  obtain ⟨hE,s⟩:=hI
  refine CW.sub hE ?_
  unfold mO at h
  refine .seq (.g (.q z (.q z (bv h λy11 hy11 h=>.c (.cS (L0:=[ae (sv v9) 220 1 (λ(l:List bn)=>D.row 238 2 (l.map cr)) s3]) s func240 (λS h1 h2 h3=>(tu hy11 (s.ks q_0 h1) h2 (zz h1))) z z ?_)))))
  rintro ⟨⟩ W s
  refine .nil ?_
  refine .cs z h ?_ ?_ <;> intro h
  ·refine .skip (.block (.skip ?_))
   cases h
   exact ⟨z,sb z,s.to [0]⟩
  refine .exit ?_
  cases h
  exact ⟨by simp,z,sb z,s.to [0]⟩
 intro x E W hJ
 obtain ⟨rfl,hE,s⟩:=hJ
 refine ⟨_,hE.sub,?_⟩
 obtain rfl:=o9 h
 exact .g (.q z (.qn z (.ret (ac v9 (rt z rn) z (s.to [0])))))
theorem gb {a0:bn} {a1:Int} {w:World} {r:Bool} (h:f0 a0 a1=some r):CL 242 #[.agg #[vi a0.Kind,vi a0.N],vi a1] w (RU w (.bool r)):=by
 unfold f0 at h
 refine au func242 z z ?_
 have s:=Sep.start w
 refine .g (.c (.box s z z ?_))
 intro g1 W s
 refine .qn z (.g (.s (fa f238_0 z z z) z (.s (ld T.t3 s z z z z z) z (.q z (.q z (.cu 5 13 ((a0.Kind==1)&&(a0.N==a1)) s ?_ ?_))))))
 ·refine .both (a0.Kind==1) (λb=>?_) (λb=>?_)
  ·have hg1:=b
   exact .g hg1 (.s (fa f238_1 z z z) z (.g hg1 (.s (ld T.t3 s z z z z z) z (.g hg1 (.q z (.g hg1 (.q z (.s (pkt hg1 z z z) z (.nil (ck 5 s z (bi hg1)))))))))))
  exact .xx b z (.xx b z (.xx b z (.xx b z (.s (pkf b z z z) z (.nil (ck 5 s z (bj b)))))))
 intro W s
 cases h
 exact .qn z (.ret (ac () (rt z rn) z (s.to [])))
def wu (w:World) (r:Bool):Env->World->Prop:=Fin Tryz.prog Tryz.f261 No w (λs:Unit=>.bool r) (λs=>[]) .ret
theorem vV {a0:List Int} {a1:Int} {v_0:Hd} {w:World} {r:Bool} (h:mD a0 a1=some r) (q_0:RO w v_0 3 1 (D.int .i64) a0):CL 261 #[sv v_0,vi a1] w (RU w (.bool r)):=by
 unfold mD at h
 refine au func261 z z ?_
 have s:=Sep.start w
 refine .g (.qn z (.seq (.g (.qn z (.block (bv h λy1 hy1 h=>?_))))))
 refine .via (.iter (λs1 E' W'=>aD E' [(0,(sv v_0)),(1,vi a1),(5,vi s1)]/\Sep No w W' []) (λy2 x E' W'=>(match y2 with | .inl o1=>x=.ret/\wu w o1 E' W' | .inr o2=>x=.exit 0/\aD E' []/\Sep No w W' [])) hy1 ⟨sb rfl,s.to [] rfl⟩ ?_) ?_
 ·intro s1 y3 E W h hI
  obtain ⟨hE,s⟩:=hI
  refine CW.sub hE ?_
  unfold nk at h
  refine .seq (.g (.q z (.q z (.s (a8 (s.keep q_0) u23 z z) z (.q z (.nil ?_))))))
  refine .cs z h ?_ ?_ <;> intro h
  ·refine .skip (.seq (.block (.g (.q z (.q z (bv h λx1 hx1 h=>.s (ixv (s.keep q_0) hx1 u23 T.t3 z z z) z (.s (lde (RV.flat (s.keep q_0) hx1 z) T.t3 z z z z z) z (.q z (.q z (.nil ?_))))))))))
   refine .cs z h ?_ ?_ <;> intro h
   ·refine .g (.qn z (.ret ?_))
    cases h
    exact ⟨by simp,z,ac (vs:=[_]) () (rt z rn) z (s.to [])⟩
   refine .skip (.region (.q z (.q z (.q z (.nil ?_)))))
   cases h
   exact ⟨z,sb z,s.to []⟩
  refine .exit ?_
  cases h
  exact ⟨by simp,z,sb z,s.to []⟩
 intro x E W hJ
 rcases y1 with o3 | o4
 ·obtain ⟨rfl,hF⟩:=hJ
  refine ⟨_,λ_ _ h=>h,?_⟩
  cases h
  exact hF
 obtain ⟨rfl,hE,s⟩:=hJ
 refine ⟨_,hE.sub,?_⟩
 obtain rfl:=o9 h
 exact .g (.qn z (.ret (ac () (rt z rn) z (s.to []))))
theorem lB {a0:Int} {a1:List Int} {v_1:Hd} {w:World} {r:Bool} (h:gM a0 a1=some r) (q_1:RO w v_1 3 1 (D.int .i64) a1):CL 254 #[vi a0,sv v_1] w (RU w (.bool r)):=by
 unfold gM at h
 refine au func254 z z ?_
 have s:=Sep.start w
 refine .g (.qn z (.g (.q z (.q z (bv h λy1 hy1 h=>.c (.cO s func261 (vV hy1 (s.keep q_1)) z z ?_))))))
 intro W s
 obtain rfl:=o9 h
 exact .qn z (.ret (ac () (rt z rn) z (s.to [])))
theorem vW {a0:ah} {a1:bn} {a2:bn} {w:World} {r:ah} (h:mE a0 a1 a2=some r):CL 241 #[.agg #[vi a0.Op,vi a0.Dst,vi a0.A,vi a0.B,vi a0.N],.agg #[vi a1.Kind,vi a1.N],.agg #[vi a2.Kind,vi a2.N]] w (RU w (.agg #[vi r.Op,vi r.Dst,vi r.A,vi r.B,vi r.N])):=by
 unfold mE at h
 refine au func241 z z ?_
 have s:=Sep.start w
 refine .g (.c (.box s z z ?_))
 intro g1 W s
 refine .c (.box s z z ?_)
 intro g2 W s
 refine .c (.box s z z ?_)
 intro g3 W s
 refine .c (.alloc t102 s ?_)
 intro g4 W s
 refine .nil (.g (.s (ld t102 s.p3 z z z z z) z (.s (ld t238 s.p2 z z z z z) z (.s (ld t238 s.p1 z z z z z) z (bv h λy1 hy1 h=>.c (.cO s func253 (nY hy1) z z ?_))))))
 intro W s
 refine .c (.alloc t238 s ?_)
 intro g5 W s
 refine .c (.st t238 s z z z ?_)
 intro W s
 refine .nil (.seq (.block (.g (.s (fa f238_0 z z z) z (.s (ld T.t3 s z z z z z) z (.q z (.q z (.nil ?_))))))))
 refine .cs z h ?_ ?_ <;> intro h
 ·refine .g (.s (fa f102_1 z z z) z (.s (ld T.t3 s.p4 z z z z z) z (.s (fa f238_1 z z z) z (.s (ld T.t3 s z z z z z) z (.s (bs T.s102 z z) z (.c (.st t102 s.p1 z z z ?_)))))))
  intro W s
  cases h
  exact .nil (.ret (ac () (rc s t102 z rn z z) z (s.to [])))
 refine .g (.s (ld t238 s.p2 z z z z z) z (bv h λy2 hy2 h=>.c (.cO s func242 (gb hy2) z z ?_)))
 intro W s
 refine .q z (bv h λb1 hb1 h=>.cu 5 29 (b1) s ?_ ?_)
 ·refine .both (y2) (λb=>?_) (λb=>?_)
  ·have hg1:=b
   have h:=aK b hb1
   refine .g hg1 (.s (fa f102_4 z z z) z (.g hg1 (.s (ld T.t3 s.p4 z z z z z) z (.g hg1 (.c (.liv [1,2,6,7,8,9] (D.int .i64) u23 T.t3 s z z z z ?_ z (λ_=>z)))))))
   intro v1 W s
   refine bv h λy3 hy3 h=>.g hg1 (.c (.cO s func254 (lB hy3 s.lv) z z ?_))
   intro W s
   refine .s (pkt hg1 z z z) z ?_
   cases h
   exact .nil (ck 5 (s.to [1,1,1,1,1]))
  refine .xx b z (.xx b z (.xx b z (.xx b z ?_)))
  cases aL b hb1
  exact .s (pkf b z z z) z (.nil (ck 5 s))
 intro W s
 refine .q z (.nil ?_)
 refine .cs z h ?_ ?_ <;> intro h
 ·refine .g (.s (fa f102_1 z z z) z (.s (ld T.t3 s.p4 z z z z z) z (.s (fa f102_2 z z z) z (.s (ld T.t3 s.p4 z z z z z) z (.s (bs T.s102 z z) z (.c (.st t102 s.p1 z z z ?_)))))))
  intro W s
  cases h
  exact .nil (.ret (ac () (rc s t102 z rn z z) z (s.to [])))
 refine .g (.s (ld t238 s.p2 z z z z z) z (bv h λy4 hy4 h=>.c (.cO s func242 (gb hy4) z z ?_)))
 intro W s
 refine .q z (bv h λb2 hb2 h=>.cu 5 43 (b2) s ?_ ?_)
 ·refine .both (y4) (λb=>?_) (λb=>?_)
  ·have hg2:=b
   have h:=aK b hb2
   refine .g hg2 (.s (fa f102_4 z z z) z (.g hg2 (.s (ld T.t3 s.p4 z z z z z) z (.g hg2 (.c (.liv [10,11] (D.int .i64) u23 T.t3 s z z z z ?_ z (λ_=>z)))))))
   intro v2 W s
   refine bv h λy5 hy5 h=>.g hg2 (.c (.cO s func254 (lB hy5 s.lv) z z ?_))
   intro W s
   refine .s (pkt hg2 z z z) z ?_
   cases h
   exact .nil (ck 5 (s.to [1,1,1,1,1]))
  refine .xx b z (.xx b z (.xx b z (.xx b z ?_)))
  cases aL b hb2
  exact .s (pkf b z z z) z (.nil (ck 5 s))
 intro W s
 refine .q z (.nil ?_)
 refine .cs z h ?_ ?_ <;> intro h
 ·refine .g (.s (fa f102_1 z z z) z (.s (ld T.t3 s.p4 z z z z z) z (.s (fa f102_2 z z z) z (.s (ld T.t3 s.p4 z z z z z) z (.s (bs T.s102 z z) z (.c (.st t102 s.p1 z z z ?_)))))))
  intro W s
  cases h
  exact .nil (.ret (ac () (rc s t102 z rn z z) z (s.to [])))
 refine .g (.s (ld t238 s.p3 z z z z z) z (bv h λy6 hy6 h=>.c (.cO s func242 (gb hy6) z z ?_)))
 intro W s
 refine .q z (bv h λb3 hb3 h=>.cu 5 57 (b3) s ?_ ?_)
 ·refine .both (y6) (λb=>?_) (λb=>?_)
  ·have hg3:=b
   have h:=aK b hb3
   refine .g hg3 (.s (fa f102_4 z z z) z (.g hg3 (.s (ld T.t3 s.p4 z z z z z) z (.g hg3 (.c (.liv [1,2,8] (D.int .i64) u23 T.t3 s z z z z ?_ z (λ_=>z)))))))
   intro v3 W s
   refine bv h λy7 hy7 h=>.g hg3 (.c (.cO s func254 (lB hy7 s.lv) z z ?_))
   intro W s
   refine .s (pkt hg3 z z z) z ?_
   cases h
   exact .nil (ck 5 (s.to [1,1,1,1,1]))
  refine .xx b z (.xx b z (.xx b z (.xx b z ?_)))
  cases aL b hb3
  exact .s (pkf b z z z) z (.nil (ck 5 s))
 intro W s
 refine .q z (.nil ?_)
 refine .cs z h ?_ ?_ <;> intro h
 ·refine .g (.s (fa f102_1 z z z) z (.s (ld T.t3 s.p4 z z z z z) z (.s (fa f102_3 z z z) z (.s (ld T.t3 s.p4 z z z z z) z (.s (bs T.s102 z z) z (.c (.st t102 s.p1 z z z ?_)))))))
  intro W s
  cases h
  exact .nil (.ret (ac () (rc s t102 z rn z z) z (s.to [])))
 refine .g (.s (ld t238 s.p3 z z z z z) z (bv h λy8 hy8 h=>.c (.cO s func242 (gb hy8) z z ?_)))
 intro W s
 refine .q z (.cu 4 70 (y8&&(a0.N==10)) s ?_ ?_)
 ·refine .both (y8) (λb=>?_) (λb=>?_)
  ·have hg4:=b
   exact .g hg4 (.s (fa f102_4 z z z) z (.g hg4 (.s (ld T.t3 s.p4 z z z z z) z (.g hg4 (.q z (.s (pkt hg4 z z z) z (.nil (ck 4 s z (bi hg4)))))))))
  exact .xx b z (.xx b z (.xx b z (.s (pkf b z z z) z (.nil (ck 4 s z (bj b))))))
 intro W s
 refine .q z (.nil ?_)
 refine .cs z h ?_ ?_ <;> intro h
 ·refine .g (.s (fa f102_1 z z z) z (.s (ld T.t3 s.p4 z z z z z) z (.s (fa f102_3 z z z) z (.s (ld T.t3 s.p4 z z z z z) z (.s (bs T.s102 z z) z (.c (.st t102 s.p1 z z z ?_)))))))
  intro W s
  cases h
  exact .nil (.ret (ac () (rc s t102 z rn z z) z (s.to [])))
 refine .g (.s (ld t238 s.p3 z z z z z) z (bv h λy9 hy9 h=>.c (.cO s func242 (gb hy9) z z ?_)))
 intro W s
 refine .q z (bv h λb4 hb4 h=>.cu 3 82 (b4) s ?_ ?_)
 ·refine .both (y9) (λb=>?_) (λb=>?_)
  ·refine .xx b z (.xx b z ?_)
   cases aK b hb4
   exact .s (pkt b z z z) z (.nil (ck 3 s))
  have hg5:=b
  have h:=aL b hb4
  refine .g hg5 (.s (ld t238 s.p2 z z z z z) z (bv h λy10 hy10 h=>.g hg5 (.c (.cO s func242 (gb hy10) z z ?_))))
  intro W s
  refine .s (pkf hg5 z z z) z ?_
  cases h
  exact .nil (ck 3 s)
 intro W s
 refine .q z (bv h λb5 hb5 h=>.cu 5 88 (b5) s ?_ ?_)
 ·refine .both (b4) (λb=>?_) (λb=>?_)
  ·have hg6:=b
   have h:=aK b hb5
   refine .g hg6 (.s (fa f102_4 z z z) z (.g hg6 (.s (ld T.t3 s.p4 z z z z z) z (.g hg6 (.c (.liv [3,10] (D.int .i64) u23 T.t3 s z z z z ?_ z (λ_=>z)))))))
   intro v4 W s
   refine bv h λy11 hy11 h=>.g hg6 (.c (.cO s func254 (lB hy11 s.lv) z z ?_))
   intro W s
   refine .s (pkt hg6 z z z) z ?_
   cases h
   exact .nil (ck 5 (s.to [1,1,1,1,1]))
  refine .xx b z (.xx b z (.xx b z (.xx b z ?_)))
  cases aL b hb5
  exact .s (pkf b z z z) z (.nil (ck 5 s))
 intro W s
 refine .q z (.nil ?_)
 refine .cs z h ?_ ?_ <;> intro h
 ·refine .g (.s (fa f102_1 z z z) z (.s (ld T.t3 s.p4 z z z z z) z (.s (bs T.s102 z z) z (.c (.st t102 s.p1 z z z ?_)))))
  intro W s
  cases h
  exact .nil (.ret (ac () (rc s t102 z rn z z) z (s.to [])))
 refine .skip (.g (.s (ld t102 s.p4 z z z z z) z (.c (.st t102 s.p1 z z z ?_))))
 intro W s
 obtain rfl:=o9 h
 exact .nil (.ret (ac () (rc s t102 z rn z z) z (s.to [])))
theorem uo {a0:ah} {a1:List bn} {a2:Int} {v_1:Hd} {w:World} {r:ah} (h:kN a0 a1 a2=some r) (q_1:RO w v_1 238 2 cr a1):CL 222 #[.agg #[vi a0.Op,vi a0.Dst,vi a0.A,vi a0.B,vi a0.N],sv v_1,vi a2] w (RU w (.agg #[vi r.Op,vi r.Dst,vi r.A,vi r.B,vi r.N])):=by
 unfold kN at h
 refine au func222 z z ?_
 have s:=Sep.start w
 refine .g (.c (.box s z z ?_))
 intro g1 W s
 refine .c (.alloc t102 s ?_)
 intro g2 W s
 refine .nil (.seq (.g (.q z (bv h λx1 hx1 h=>.s (ixv (s.keep q_1) hx1 u220 t238 z z z) z (.s (fe f238_0 z z z) z (.s (lde (RV.flat (s.keep q_1) hx1 z) T.t3 z z z z z) z (.q z (.nil ?_))))))))
 refine .cs z h ?_ ?_ <;> intro h
 ·refine .g (.s (ld t102 s.p1 z z z z z) z (.c (.st t102 s z z z ?_)))
  intro W s
  obtain rfl:=o9 h
  exact .nil (.ret (ac () (rc s t102 z rn z z) z (s.to [])))
 refine .skip (.seq (.g (.s (fa f102_0 z z z) z (.s (ld T.t3 s.p1 z z z z z) z (.nil (.block (.g (.q z (.q z (.nil ?_))))))))))
 refine .cs z h ?_ ?_ <;> intro h
 ·refine .g (.q z (.s (fa f102_2 z z z) z (.s (ld T.t3 s.p1 z z z z z) z (bv h λx2 hx2 h=>.s (ixv (s.keep q_1) hx2 u220 t238 z z z) z (.s (fe f238_0 z z z) z (.s (lde (RV.flat (s.keep q_1) hx2 z) T.t3 z z z z z) z (.q z (.nil ?_))))))))
  refine .cs z h ?_ ?_ <;> intro h
  ·refine .seq (.rk 9 s [0,0] T.mix ?_)
   intro W s
   have t:=s.to [0,0]
   refine .ts' 0 z (λW t=>fa f102_1 z z z) t z (.ts' 1 z (λW t=>ld T.t3 t.p1 z z z z z) t z (.tp' 2 z z t (.ts' 3 z (λW t=>fa f102_2 z z z) t z (.ts' 4 z (λW t=>ld T.t3 t.p1 z z z z z) t z (bv h λx3 hx3 h=>.ts' 5 z (λW t=>ixv (s.keep q_1) hx3 u220 t238 z z z) t z (.ts' 6 z (λW t=>fe f238_1 z z z) t z (.ts' 7 z (λW t=>lde (RV.flat (t.keep q_1) hx3 z) T.t3 z z z z z) t z (.ts' 8 z (λW t=>bs T.s102 z z) t z (.by1 9 z (.st t102 s z z z ?_))))))))))
   intro W s
   refine ⟨λh=>absurd z h,?_⟩
   cases h
   exact .done (.ret (ac () (rc s t102 z rn z z) z (s.to [])))
  refine .skip (.g (.s (ld t102 s.p1 z z z z z) z (.c (.st t102 s z z z ?_))))
  intro W s
  obtain rfl:=o9 h
  exact .nil (.ret (ac () (rc s t102 z rn z z) z (s.to [])))
 refine .g (.q z (.q z (.nil ?_)))
 refine .cs z h ?_ ?_ <;> intro h
 ·refine .seq (.rk 12 s [0,0] T.mix ?_)
  intro W s
  have t:=s.to [0,0]
  refine .ts' 0 z (λW t=>ld t102 t.p1 z z z z z) t z (.tp' 1 z z t (.ts' 2 z (λW t=>fa f102_2 z z z) t z (.ts' 3 z (λW t=>ld T.t3 t.p1 z z z z z) t z (bv h λx4 hx4 h=>.ts' 4 z (λW t=>ixv (s.keep q_1) hx4 u220 t238 z z z) t z (.ts' 5 z (λW t=>lde (RV.flat (t.keep q_1) hx4 z) t238 z z z z z) t z (.tp' 6 z z t (.ts' 7 z (λW t=>fa f102_3 z z z) t z (.ts' 8 z (λW t=>ld T.t3 t.p1 z z z z z) t z (bv h λx5 hx5 h=>.ts' 9 z (λW t=>ixv (s.keep q_1) hx5 u220 t238 z z z) t z (.ts' 10 z (λW t=>lde (RV.flat (t.keep q_1) hx5 z) t238 z z z z z) t z (bv h λy1 hy1 h=>.by1 11 z (.cO s func241 (vW hy1) z z ?_))))))))))))
  intro W s
  refine s.an [0,0] λt=>.by1 12 z (.st t102 s z z z ?_)
  intro W s
  refine ⟨λh=>absurd z h,?_⟩
  obtain rfl:=o9 h
  exact .done (.ret (ac () (rc s t102 z rn z z) z (s.to [])))
 refine .g (.q z (.q z (.nil ?_)))
 refine .cs z h ?_ ?_ <;> intro h
 ·refine .seq (.g (.q z (.s (fa f102_2 z z z) z (.s (ld T.t3 s.p1 z z z z z) z (bv h λx6 hx6 h=>.s (ixv (s.keep q_1) hx6 u220 t238 z z z) z (.s (lde (RV.flat (s.keep q_1) hx6 z) t238 z z z z z) z (bv h λy2 hy2 h=>.c (.cO s func242 (gb hy2) z z ?_))))))))
  intro W s
  refine .nil ?_
  refine .cs z h ?_ ?_ <;> intro h
  ·refine .g (.s (fa f102_4 z z z) z (.s (ld T.t3 s.p1 z z z z z) z (.s (bs T.s102 z z) z (.c (.st t102 s z z z ?_)))))
   intro W s
   cases h
   exact .nil (.ret (ac () (rc s t102 z rn z z) z (s.to [])))
  refine .skip (.g (.q z (.s (fa f102_2 z z z) z (.s (ld T.t3 s.p1 z z z z z) z (bv h λx7 hx7 h=>.s (ixv (s.keep q_1) hx7 u220 t238 z z z) z (.s (fe f238_0 z z z) z (.s (lde (RV.flat (s.keep q_1) hx7 z) T.t3 z z z z z) z (.q z (.nil ?_)))))))))
  refine .cs z h ?_ ?_ <;> intro h
  ·refine .g (.q z (.q z (.s (bs T.s102 z z) z (.c (.st t102 s z z z ?_)))))
   intro W s
   cases h
   exact .nil (.ret (ac () (rc s t102 z rn z z) z (s.to [])))
  refine .skip (.g (.s (ld t102 s.p1 z z z z z) z (.c (.st t102 s z z z ?_))))
  intro W s
  obtain rfl:=o9 h
  exact .nil (.ret (ac () (rc s t102 z rn z z) z (s.to [])))
 refine .skip (.g (.s (ld t102 s.p1 z z z z z) z (.c (.st t102 s z z z ?_))))
 intro W s
 obtain rfl:=o9 h
 exact .nil (.ret (ac () (rc s t102 z rn z z) z (s.to [])))
theorem tv {a0:List ah} {v_0:Hd} {w:World} {r:(List ah)×Bool} (h:jM a0=some r) (q_0:RO w v_0 102 5 aq a0):CL 200 #[sv v_0] w (Ret No w (λs:Hd=>.tuple #[sv s,.bool r.2]) (λs=>[ae (sv s) 102 5 aq r.1])):=by
 unfold jM at h
 refine au func200 z z ?_
 have s:=Sep.start w
 refine .g (.q z (.qn z (.g (.c (.liv [] aq u78 t102 s z z z z ?_ z (λ_=>z))))))
 intro v1 W s
 refine .qn z (.seq (.g (.q z (bv h λy1 hy1 h=>.c (.cO s func137 (cF hy1 (s.keep q_0)) z z ?_)))))
 intro W s
 refine .q z (.nil ?_)
 refine .cs z h ?_ ?_ <;> intro h
 ·cases h
  exact .g (.q z (.q z (.qn z (.ret (ac (vs:=[_,_]) v1 (rt z (rt z rn)) z (s.to [0]))))))
 refine .skip (.g (.q z (bv h λy2 hy2 h=>.c (.cV s func221 (un hy2 (s.keep q_0)) z z ?_))))
 intro v2 W s
 refine .qn z (.seq (.g (.qn z (.block (bv h λy3 hy3 h=>?_)))))
 refine .via (.iter (λs1 E' W'=>∃ (v5:Hd),aD E' [(0,(sv v_0)),(4,(sv v5)),(5,(sv v2)),(6,vi s1.2)]/\Sep No w W' [ae (sv v2) 220 1 (λ(l:List bn)=>D.row 238 2 (l.map cr)) y2,ae (sv v5) 102 5 aq s1.1]) (λy4 x E' W'=>x=.exit 0/\∃ (v6:Hd),aD E' [(4,(sv v6))]/\Sep No w W' [ae (sv v2) 220 1 (λ(l:List bn)=>D.row 238 2 (l.map cr)) y2,ae (sv v6) 102 5 aq y4]) hy3 ⟨v1,sb z,s.to [0,0]⟩ ?_) ?_
 ·intro s1 y5 E W h hI
  obtain ⟨v4,hE,s⟩:=hI
  refine CW.sub hE ?_
  unfold jj at h
  refine .seq (.g (.q z (.q z (.s (a8 (s.keep q_0) u78 z z) z (.q z (.nil ?_))))))
  refine .cs z h ?_ ?_ <;> intro h
  ·refine .skip (.seq (.block (bv h λx1 hx1 h=>?_)))
   obtain ⟨k1,s⟩:=Sep.ov s hx1
   obtain ⟨v7,k1,rfl,s⟩:=s.ow
   obtain ⟨rfl,s⟩:=s.oN
   refine .rk 14 s [0,0] T.mix ?_
   intro W s
   have t:=s.to [0,0]
   refine .tp' 0 z z t (.tp' 1 z z t (.tp' 2 z z t (bv h λx3 hx3 h=>.ts' 3 z (λW t=>ixv (s.keep q_0) hx3 u78 t102 z z z) t z (.ts' 4 z (λW t=>lde (RV.flat (t.keep q_0) hx3 z) t102 z z z z z) t z (.tp' 5 z z t (.tp' 6 z z t (.ts' 7 z (λW t=>ixh t.p1 hx1 u217 t220 z z z) t z (.ts' 8 z (λW t=>lde (t.p1.hcellsv) t220 z z z z z) t z (.tp' 9 z z t (bv h λy7 hy7 h=>.by1 10 z (.cO s func222 (uo hy7 s.lv) z z ?_)))))))))))
   intro W s
   refine s.an [0,0] λt=>.by1 11 z (.liv [y7] aq u78 t102 s z z z z ?_ z (λ_=>z))
   intro v10 W s
   refine s.an [1,1] λt=>bv h λr2 hr2 h=>?_
   have hT0:=s.p3
   refine .by1 12 z (.av hr2 hT0 hT0.p1.lv (λ_=>z) u78 t102 z z z ?_)
   intro v11 W s
   refine s.an [2,2] λt=>.tp' 13 z z t (.done (.region (.q z (.q z (.q z (.nil ?_))))))
   have s:=Sep.gat (ds:=[.row 238 2 (x1.map cr)]) (cs:=[sv v7]) (L1:=[ae (sv v7) 238 2 cr x1]) (.row (.nil)) (s.to [2,2,0,0])
   have s:Sep _ _ _ [ae (sv v2) 220 1 (λ(l:List bn)=>D.row 238 2 (l.map cr)) y2,ae (sv v11) 102 5 aq r2,ae (sv v10) 102 5 aq [y7]]:=Sep.back0v hx1 s
   cases h
   exact ⟨z,v11,sb z,s.to [0,0]⟩
  refine .exit ?_
  cases h
  exact ⟨by simp,z,v4,sb z,s.to [0,0]⟩
 intro x E W hJ
 obtain ⟨rfl,v12,hE,s⟩:=hJ
 refine ⟨_,hE.sub,?_⟩
 cases h
 exact .g (.q z (.q z (.qn z (.ret (ac (vs:=[_,_]) v12 (rt z (rt z rn)) z (s.to [1]))))))
theorem pE {w:World} {r:(List Int)} (h:jk=some r):CL 243 #[] w (Ret No w (λs:Hd=>(sv s)) (λs=>[ae (sv s) 3 1 (D.int .i64) r])):=by
 unfold jk at h
 refine au func243 z z ?_
 have s:=Sep.start w
 refine .g (.qn z (.g (.c (.liv [] (D.int .i64) u23 T.t3 s z z z z ?_ z (λ_=>z)))))
 intro v1 W s
 refine .qn z (.seq (.g (.qn z (.block (bv h λy1 hy1 h=>?_)))))
 refine .via (.iter (λs1 E' W'=>∃ (v4:Hd),aD E' [(1,(sv v4)),(2,vi s1.2)]/\Sep No w W' [ae (sv v4) 3 1 (D.int .i64) s1.1]) (λy2 x E' W'=>x=.exit 0/\∃ (v5:Hd),aD E' [(1,(sv v5))]/\Sep No w W' [ae (sv v5) 3 1 (D.int .i64) y2]) hy1 ⟨v1,sb z,s.to [0]⟩ ?_) ?_
 ·intro s1 y3 E W h hI
  obtain ⟨v3,hE,s⟩:=hI
  refine CW.sub hE ?_
  unfold mP at h
  refine .seq (.g (.q z (.q z (.nil ?_))))
  refine .cs z h ?_ ?_ <;> intro h
  ·refine .skip (.seq (.block (.region (.q z (.q z (.c (.liv [s1.2] (D.int .i64) u23 T.t3 s z z z z ?_ z (λ_=>z))))))))
   intro v6 W s
   refine bv h λr1 hr1 h=>?_
   have hT0:=s.p1
   refine .c (.av hr1 hT0 hT0.p1.lv (λ_=>z) u23 T.t3 z z z ?_)
   intro v7 W s
   refine .qn z (.region (.q z (.q z (.q z (.nil ?_)))))
   cases h
   exact ⟨z,v7,sb z,s.to [0]⟩
  refine .exit ?_
  cases h
  exact ⟨by simp,z,v3,sb z,s.to [0]⟩
 intro x E W hJ
 obtain ⟨rfl,v8,hE,s⟩:=hJ
 refine ⟨_,hE.sub,?_⟩
 obtain rfl:=o9 h
 exact .g (.q z (.qn z (.ret (ac v8 (rt z rn) z (s.to [0])))))
theorem mi {a0:ah} {w:World} {r:Int} (h:eh a0=some r):CL 262 #[.agg #[vi a0.Op,vi a0.Dst,vi a0.A,vi a0.B,vi a0.N]] w (RU w (.int .i64 r)):=by
 unfold eh at h
 refine au func262 z z ?_
 have s:=Sep.start w
 refine .g (.c (.box s z z ?_))
 intro g1 W s
 refine .qn z (.seq (.g (.s (ld t102 s z z z z z) z (bv h λy1 hy1 h=>.c (.cO s func179 (lA hy1) z z ?_)))))
 intro W s
 refine .q z (.nil ?_)
 refine .cs z h ?_ ?_ <;> intro h
 ·cases h
  exact .g (.qn z (.ret (ac () (rt z rn) z (s.to []))))
 refine .skip (.seq (.g (.s (fa f102_0 z z z) z (.s (ld T.t3 s z z z z z) z (.nil (.block (bv h λy2 hy2 h=>?_)))))))
 refine .seq (CW.via (R':=λx E' W'=>x=.normal/\aD E' [(1,Pt g1),(8,.bool y2)]/\Sep No w W' [.box g1 102 [vi a0.Op,vi a0.Dst,vi a0.A,vi a0.B,vi a0.N]]) ?_ ?_)
 ·have h:=hy2
  refine .g (.q z (.q z (.nil ?_)))
  refine .cs z h ?_ ?_ <;> intro h
  ·refine .skip ?_
   cases h
   exact ⟨z,sb z,s.to [0]⟩
  refine .g (.q z (.q z (.nil ?_)))
  refine .cs z h ?_ ?_ <;> intro h
  ·refine .skip ?_
   cases h
   exact ⟨z,sb z,s.to [0]⟩
  refine .g (.q z (.q z (.nil ?_)))
  refine .cs z h ?_ ?_ <;> intro h
  ·refine .skip ?_
   cases h
   exact ⟨z,sb z,s.to [0]⟩
  refine .region (.q z (.q z (.nil ?_)))
  cases h
  exact ⟨z,sb z,s.to [0]⟩
 intro x E W hJ
 obtain ⟨rfl,hE,s⟩:=hJ
 refine ⟨_,hE.sub,?_⟩
 refine .cs z h ?_ ?_ <;> intro h
 ·cases h
  exact .g (.s (fa f102_1 z z z) z (.s (ld T.t3 s z z z z z) z (.qn z (.ret (ac () (rt z rn) z (s.to []))))))
 cases h
 exact .skip (.g (.qn z (.ret (ac () (rt z rn) z (s.to [])))))
theorem tw {a0:ah} {a1:List Int} {v_1:Hd} {w:World} {r:(List Int)} (h:jN a0 a1=some r) (q_1:RO w v_1 3 1 (D.int .i64) a1):CL 255 #[.agg #[vi a0.Op,vi a0.Dst,vi a0.A,vi a0.B,vi a0.N],sv v_1] w (Ret No w (λs:Hd=>(sv s)) (λs=>[ae (sv s) 3 1 (D.int .i64) r])):=by
 unfold jN at h
 refine au func255 z z ?_
 have s:=Sep.start w
 refine .g (.c (.box s z z ?_))
 intro g1 W s
 refine .qn z (.g (.c (.liv [] (D.int .i64) u23 T.t3 s z z z z ?_ z (λ_=>z))))
 intro v1 W s
 refine .q z (bv h λr1 hr1 h=>.c (.av hr1 s (s.keep q_1) (λ_=>z) u23 T.t3 z z z ?_))
 intro v2 W s
 refine .qn z (.g (.s (ld t102 s.p1 z z z z z) z (bv h λy1 hy1 h=>.c (.cO s func262 (mi hy1) z z ?_))))
 intro W s
 refine .qn z (.seq (.g (.q z (.q z (.nil ?_)))))
 refine .cs z h ?_ ?_ <;> intro h
 ·obtain rfl:=o9 h
  exact .g (.q z (.qn z (.ret (ac v2 (rt z rn) z (s.to [0])))))
 refine .skip (.seq (.g (.qn z (.block (bv h λy2 hy2 h=>?_)))))
 refine .via (.iter (λs1 E' W'=>aD E' [(2,Pt g1),(5,(sv v2)),(6,vi y1),(7,vi s1.1)]/\Sep No w W' [ae (sv v2) 3 1 (D.int .i64) s1.2,.box g1 102 [vi a0.Op,vi a0.Dst,vi a0.A,vi a0.B,vi a0.N]]) (λy3 x E' W'=>x=.exit 0/\aD E' [(2,Pt g1),(5,(sv v2)),(6,vi y1)]/\Sep No w W' [ae (sv v2) 3 1 (D.int .i64) y3,.box g1 102 [vi a0.Op,vi a0.Dst,vi a0.A,vi a0.B,vi a0.N]]) hy2 ⟨sb z,s.to [0,0]⟩ ?_) ?_
 ·intro s1 y4 E W h hI
  obtain ⟨hE,s⟩:=hI
  refine CW.sub hE ?_
  unfold lQ at h
  refine .seq (.g (.q z (.q z (.nil ?_))))
  refine .cs z h ?_ ?_ <;> intro h
  ·refine .skip (bv h λy5 hy5 h=>?_)
   refine .seq (CW.via (R':=λx E' W'=>x=.normal/\aD E' [(2,Pt g1),(5,(sv v2)),(6,vi y1),(7,vi s1.1)]/\Sep No w W' [ae (sv v2) 3 1 (D.int .i64) y5,.box g1 102 [vi a0.Op,vi a0.Dst,vi a0.A,vi a0.B,vi a0.N]]) ?_ ?_)
   ·have h:=hy5
    refine .block (.g (.q z (.q z (bv h λx1 hx1 h=>.s (ixv s.lv hx1 u23 T.t3 z z z) z (.s (lde (RV.flat s.lv hx1 z) T.t3 z z z z z) z (.q z (.q z (.nil ?_))))))))
    refine .cs z h ?_ ?_ <;> intro h
    ·refine .region (.q z (.q z (.q z (bv h λx2 hx2 h=>.s (ixv s.lv hx2 u23 T.t3 z z z) z (bv h λr2 hr2 h=>.c (.sev hr2 hx2 s T.t3 z z z z z z ?_))))))
     intro W s
     refine .nil ?_
     obtain rfl:=o9 h
     exact ⟨z,sb z,s.to [0,0]⟩
    refine .skip ?_
    cases h
    exact ⟨z,sb z,s.to [0,0]⟩
   intro x E W hJ
   obtain ⟨rfl,hE,s⟩:=hJ
   refine ⟨_,hE.sub,?_⟩
   refine .region (.q z (.q z (.q z (.nil ?_))))
   cases h
   exact ⟨z,sb z,s.to [0,0]⟩
  refine .exit ?_
  cases h
  exact ⟨by simp,z,sb z,s.to [0,0]⟩
 intro x E W hJ
 obtain ⟨rfl,hE,s⟩:=hJ
 refine ⟨_,hE.sub,?_⟩
 refine .g (.q z (.q z (.q z (bv h λx3 hx3 h=>.s (ixv s.lv hx3 u23 T.t3 z z z) z (bv h λr3 hr3 h=>.c (.sev hr3 hx3 s T.t3 z z z z z z ?_))))))
 intro W s
 refine .nil (.seq (.g (.s (fa f102_0 z z z) z (.s (ld T.t3 s.p1 z z z z z) z (.q z (.nil ?_))))))
 refine .cs z h ?_ ?_ <;> intro h
 ·refine .region (.q z (.q z (.s (fa f102_2 z z z) z (.s (ld T.t3 s.p1 z z z z z) z (bv h λx4 hx4 h=>.s (ixv s.lv hx4 u23 T.t3 z z z) z (bv h λr4 hr4 h=>.c (.sev hr4 hx4 s T.t3 z z z z z z ?_)))))))
  intro W s
  obtain rfl:=o9 h
  exact .nil (.g (.q z (.qn z (.ret (ac v2 (rt z rn) z (s.to [0]))))))
 obtain rfl:=o9 h
 exact .skip (.g (.q z (.qn z (.ret (ac v2 (rt z rn) z (s.to [0]))))))
theorem tx {a0:List (List Int)} {a1:Int} {a2:List Int} {v_0:Hd} {v_2:Hd} {S:Nat->Prop} {w:World} {r:Bool×(List (List Int))} (h:jO a0 a1 a2=some r) (q_2:RV w (Old S w) (sv v_2) 3 1 (D.int .i64) a2) (hO:bQ w [ae (sv v_0) 23 1 (λ(l:List Int)=>D.row 3 1 (l.map (D.int .i64))) a0] S) (hlt:∀ b,S b->b<w.heap.size):CL 256 #[sv v_0,vi a1,sv v_2] w (Ret S w (λs:Unit=>.bool r.1) (λs=>[ae (sv v_0) 23 1 (λ(l:List Int)=>D.row 3 1 (l.map (D.int .i64))) r.2])):=by
 unfold jO at h
 refine au func256 z z ?_
 have s:=Sep.sm hO hlt
 refine .g (.qn z (.seq (.g (.q z (.q z (bv h λx1 hx1 h=>.s (ixv s.lv hx1 u47 t23 z z z) z ?_))))))
 obtain ⟨k1,s⟩:=Sep.ov s hx1
 obtain ⟨v1,k1,rfl,s⟩:=s.ow
 obtain ⟨rfl,s⟩:=s.oN
 refine .s (lde (s.p1.hcellsv) t23 z z z z z) z (.s (a8 s.lv u23 z z) z (.q z (.nil ?_)))
 refine .cs z h ?_ ?_ <;> intro h
 ·refine .g (.q z (.q z (.c (.liv [] (D.int .i64) u23 T.t3 s z z z z ?_ z (λ_=>z)))))
  intro v2 W s
  refine .q z (bv h λr1 hr1 h=>.c (.av hr1 s (s.keep q_2) (λ_=>z) u23 T.t3 z z z ?_))
  intro v3 W s
  refine .s (ixh s.p2 hx1 u47 t23 z z z) z (.c (.sthv s.p2 t23 z z z ?_))
  intro W s
  refine .nil (.g (.qn z (.ret ?_)))
  have s:=Sep.gat (ds:=[.row 3 1 (r1.map (D.int .i64))]) (cs:=[sv v3]) (L1:=[ae (sv v3) 3 1 (D.int .i64) r1]) (.row (.nil)) (s.to [1,0,0])
  have s:Sep _ _ _ [ae (sv v_0) 23 1 (λ(l:List Int)=>D.row 3 1 (l.map (D.int .i64))) (a0.set (Int.toNat a1) r1),ae (sv v1) 3 1 (D.int .i64) x1]:=s.bv
  cases h
  exact ac () (rt z rn) z (s.to [0])
 refine .skip (.g (.qn z (.seq (.g (.qn z (.block ?_))))))
 have s:=Sep.gat (ds:=[.row 3 1 (x1.map (D.int .i64))]) (cs:=[sv v1]) (L1:=[ae (sv v1) 3 1 (D.int .i64) x1]) (.row (.nil)) (s.to [0,0])
 have s:Sep _ _ _ [ae (sv v_0) 23 1 (λ(l:List Int)=>D.row 3 1 (l.map (D.int .i64))) a0]:=Sep.back0v hx1 s
 refine bv h λy1 hy1 h=>?_
 refine .via (.iter (λs1 E' W'=>aD E' [(0,(sv v_0)),(1,vi a1),(2,(sv v_2)),(7,.bool s1.1),(8,vi s1.2.1)]/\Sep S w W' [ae (sv v_0) 23 1 (λ(l:List Int)=>D.row 3 1 (l.map (D.int .i64))) s1.2.2]) (λy2 x E' W'=>x=.exit 0/\aD E' [(7,.bool y2.1)]/\Sep S w W' [ae (sv v_0) 23 1 (λ(l:List Int)=>D.row 3 1 (l.map (D.int .i64))) y2.2]) hy1 ⟨sb z,s.to [0]⟩ ?_) ?_
 ·intro s1 y3 E W h hI
  obtain ⟨hE,s⟩:=hI
  refine CW.sub hE ?_
  unfold lR at h
  refine .seq (.g (.q z (.q z (.nil ?_))))
  refine .cs z h ?_ ?_ <;> intro h
  ·refine .skip (bv h λy4 hy4 h=>?_)
   refine .seq (CW.via (R':=λx E' W'=>x=.normal/\aD E' [(0,(sv v_0)),(1,vi a1),(2,(sv v_2)),(7,.bool y4.1),(8,vi s1.2.1)]/\Sep S w W' [ae (sv v_0) 23 1 (λ(l:List Int)=>D.row 3 1 (l.map (D.int .i64))) y4.2]) ?_ ?_)
   ·have h:=hy4
    refine .block (.seq (bv h λx2 hx2 h=>?_))
    obtain ⟨k2,s⟩:=Sep.ov s hx2
    obtain ⟨v4,k2,rfl,s⟩:=s.ow
    obtain ⟨rfl,s⟩:=s.oN
    refine bv h λx6 hx6 h=>bv h λb2 hb2 h=>?_
    refine .via (R':=λx E' W'=>x=.normal/\aD E' [(0,(sv v_0)),(1,vi a1),(2,(sv v_2)),(7,.bool s1.1),(8,vi s1.2.1),(47,.bool b2)]/\Sep S w W' [ae (sv v_0) 23 1 (λ(l:List Int)=>D.row 3 1 (l.map (D.int .i64))) s1.2.2]) ?_ ?_
    ·refine .rk 23 s [0,0] T.mix ?_
     intro W s
     have t:=s.to [0,0]
     refine .tp' 0 z z t (.tp' 1 z z t (.ts' 2 z (λW t=>ixh t.p1 hx2 u47 t23 z z z) t z (.ts' 3 z (λW t=>lde (t.p1.hcellsv) t23 z z z z z) t z (.tp' 4 z z t (.ts' 5 z (λW t=>ixv s.lv hx6 u23 T.t3 z z z) t z (.ts' 6 z (λW t=>lde (RV.flat t.lv hx6 z) T.t3 z z z z z) t z (.tp' 7 z z t (.tp' 8 z z t (.tp' 9 z z t (.both (x6 !=s1.2.1) (λb=>?_) (λb=>?_)))))))))))
     ·have hg2:=b
      have h_b2:=aK b hb2
      refine .t1g 10 z hg2 (λW t=>pr z) t (.t1g 11 z hg2 (λW t=>pr z) t (.t1g 12 z hg2 (λW t=>ixh t.p1 hx2 u47 t23 z z z) t (.t1g 13 z hg2 (λW t=>lde (t.p1.hcellsv) t23 z z z z z) t (.t1g 14 z hg2 (λW t=>pr z) t (bv h_b2 λx7 hx7 h_b2=>.t1g 15 z hg2 (λW t=>ixv s.lv hx7 u23 T.t3 z z z) t (.t1g 16 z hg2 (λW t=>lde (RV.flat t.lv hx7 z) T.t3 z z z z z) t (.t1g 17 z hg2 (λW t=>pr z) t (.t1g 18 z hg2 (λW t=>pr z) t (bv h_b2 λx8 hx8 h_b2=>.t1g 19 z hg2 (λW t=>ixv (s.keep q_2) hx8 u23 T.t3 z z z) t (.t1g 20 z hg2 (λW t=>lde (RV.flat (t.keep q_2) hx8 z) T.t3 z z z z z) t (.t1g 21 z hg2 (λW t=>pr z) t (.ts' 22 z (λW t=>pkt hg2 z z z) t z (.eqv 47 z (nP h_b2) (.done ?_))) (by kernel_rfl) z z) (by kernel_rfl) z z) (by kernel_rfl) z z) (by kernel_rfl) z z) (by kernel_rfl) z z) (by kernel_rfl) z z) (by kernel_rfl) z z) (by kernel_rfl) z z) (by kernel_rfl) z z) (by kernel_rfl) z z) (by kernel_rfl) z z) (by kernel_rfl) z z
      have s:=Sep.gat (ds:=[.row 3 1 (x2.map (D.int .i64))]) (cs:=[sv v4]) (L1:=[ae (sv v4) 3 1 (D.int .i64) x2]) (.row (.nil)) (s.to [0,0])
      have s:Sep _ _ _ [ae (sv v_0) 23 1 (λ(l:List Int)=>D.row 3 1 (l.map (D.int .i64))) s1.2.2]:=Sep.back0v hx2 s
      exact ⟨z,sb z,s.to [0]⟩
     refine .off 10 z b t (.off 11 z b t (.off 12 z b t (.off 13 z b t (.off 14 z b t (.off 15 z b t (.off 16 z b t (.off 17 z b t (.off 18 z b t (.off 19 z b t (.off 20 z b t (.off 21 z b t (.ts' 22 z (λW t=>pkf b z z z) t z (.eqv 47 z (nP (aL b hb2)) (.done ?_))) (by kernel_rfl) z z) (by kernel_rfl) z z) (by kernel_rfl) z z) (by kernel_rfl) z z) (by kernel_rfl) z z) (by kernel_rfl) z z) (by kernel_rfl) z z) (by kernel_rfl) z z) (by kernel_rfl) z z) (by kernel_rfl) z z) (by kernel_rfl) z z) (by kernel_rfl) z z
     have s:=Sep.gat (ds:=[.row 3 1 (x2.map (D.int .i64))]) (cs:=[sv v4]) (L1:=[ae (sv v4) 3 1 (D.int .i64) x2]) (.row (.nil)) (s.to [0,0])
     have s:Sep _ _ _ [ae (sv v_0) 23 1 (λ(l:List Int)=>D.row 3 1 (l.map (D.int .i64))) s1.2.2]:=Sep.back0v hx2 s
     exact ⟨z,sb z,s.to [0]⟩
    intro x E W hJ
    obtain ⟨rfl,hE,s⟩:=hJ
    refine ⟨_,hE.sub,?_⟩
    refine .cs z h ?_ ?_ <;> intro h
    ·refine .g (.q z (.q z (bv h λx9 hx9 h=>.s (ixv s.lv hx9 u47 t23 z z z) z ?_)))
     obtain ⟨k3,s⟩:=Sep.ov s hx9
     obtain ⟨v5,k3,rfl,s⟩:=s.ow
     obtain ⟨rfl,s⟩:=s.oN
     refine .s (lde (s.p1.hcellsv) t23 z z z z z) z (.q z (.q z (bv h λx10 hx10 h=>.s (ixv s.lv hx10 u23 T.t3 z z z) z (bv h λr2 hr2 h=>.c (.sev hr2 hx10 s T.t3 z z z z z z ?_)))))
     intro W s
     refine .nil (.region (.q z (.nil ?_)))
     have s:=Sep.gat (ds:=[.row 3 1 (r2.map (D.int .i64))]) (cs:=[sv v5]) (L1:=[ae (sv v5) 3 1 (D.int .i64) r2]) (.row (.nil)) (s.to [0,0])
     have s:Sep _ _ _ [ae (sv v_0) 23 1 (λ(l:List Int)=>D.row 3 1 (l.map (D.int .i64))) (s1.2.2.set (Int.toNat a1) r2)]:=s.bv
     cases h
     exact ⟨z,sb z,s.to [0]⟩
    refine .skip ?_
    cases h
    exact ⟨z,sb z,s.to [0]⟩
   intro x E W hJ
   obtain ⟨rfl,hE,s⟩:=hJ
   refine ⟨_,hE.sub,?_⟩
   refine .region (.q z (.q z (.q z (.nil ?_))))
   cases h
   exact ⟨z,sb z,s.to [0]⟩
  refine .exit ?_
  cases h
  exact ⟨by simp,z,sb z,s.to [0]⟩
 intro x E W hJ
 obtain ⟨rfl,hE,s⟩:=hJ
 refine ⟨_,hE.sub,?_⟩
 cases h
 exact .g (.q z (.qn z (.ret (ac () (rt z rn) z (s.to [0])))))
theorem tz {a0:List ah} {a1:List (List Int)} {v_0:Hd} {v_1:Hd} {S:Nat->Prop} {w:World} {r:Bool×(List (List Int))} (h:jP a0 a1=some r) (q_0:RV w (Old S w) (sv v_0) 102 5 aq a0) (hO:bQ w [ae (sv v_1) 23 1 (λ(l:List Int)=>D.row 3 1 (l.map (D.int .i64))) a1] S) (hlt:∀ b,S b->b<w.heap.size):CL 244 #[sv v_0,sv v_1] w (Ret S w (λs:Unit=>.bool r.1) (λs=>[ae (sv v_1) 23 1 (λ(l:List Int)=>D.row 3 1 (l.map (D.int .i64))) r.2])):=by
 unfold jP at h
 refine au func244 z z ?_
 have s:=Sep.sm hO hlt
 refine .g (.qn z (.g (.qn z (.seq (.g (.qn z (.block (bv h λy1 hy1 h=>?_))))))))
 refine .via (.iter (λs1 E' W'=>aD E' [(0,(sv v_0)),(1,(sv v_1)),(5,.bool s1.1),(6,vi s1.2.1)]/\Sep S w W' [ae (sv v_1) 23 1 (λ(l:List Int)=>D.row 3 1 (l.map (D.int .i64))) s1.2.2]) (λy2 x E' W'=>x=.exit 0/\aD E' [(5,.bool y2.1)]/\Sep S w W' [ae (sv v_1) 23 1 (λ(l:List Int)=>D.row 3 1 (l.map (D.int .i64))) y2.2]) hy1 ⟨sb z,s.to [0]⟩ ?_) ?_
 ·intro s1 y3 E W h hI
  obtain ⟨hE,s⟩:=hI
  refine CW.sub hE ?_
  unfold lU at h
  refine .seq (.g (.q z (.q z (.s (a8 (s.keep q_0) u78 z z) z (.q z (.nil ?_))))))
  refine .cs z h ?_ ?_ <;> intro h
  ·refine .skip (bv h λy4 hy4 h=>?_)
   refine .seq (CW.via (R':=λx E' W'=>x=.normal/\aD E' [(0,(sv v_0)),(1,(sv v_1)),(5,.bool y4.1),(6,vi s1.2.1)]/\Sep S w W' [ae (sv v_1) 23 1 (λ(l:List Int)=>D.row 3 1 (l.map (D.int .i64))) y4.2]) ?_ ?_)
   ·have h:=hy4
    refine .block (.seq (.g (.q z (.q z (bv h λx1 hx1 h=>.s (ixv s.lv hx1 u47 t23 z z z) z ?_)))))
    obtain ⟨k1,s⟩:=Sep.ov s hx1
    obtain ⟨v1,k1,rfl,s⟩:=s.ow
    obtain ⟨rfl,s⟩:=s.oN
    refine .s (lde (s.p1.hcellsv) t23 z z z z z) z (.s (a8 s.lv u23 z z) z (.q z (.nil ?_)))
    refine .cs z h ?_ ?_ <;> intro h
    ·refine .exit ?_
     have s:=Sep.gat (ds:=[.row 3 1 (x1.map (D.int .i64))]) (cs:=[sv v1]) (L1:=[ae (sv v1) 3 1 (D.int .i64) x1]) (.row (.nil)) (s.to [0,0])
     have s:Sep _ _ _ [ae (sv v_1) 23 1 (λ(l:List Int)=>D.row 3 1 (l.map (D.int .i64))) s1.2.2]:=Sep.back0v hx1 s
     cases h
     exact ⟨z,sb z,s.to [0]⟩
    refine .skip (.g (.q z (.q z (bv h λy5 hy5 h=>.c (.cV s func246 (kf hy5 (s.keep q_0)) z z ?_)))))
    intro v2 W s
    refine .qn z (.seq (.rk 10 s [0,0,0] T.mix ?_))
    intro W s
    have t:=s.to [0,0,0]
    refine .tp' 0 z z t (.tp' 1 z z t (bv h λx2 hx2 h=>.ts' 2 z (λW t=>ixv (s.keep q_0) hx2 u78 t102 z z z) t z (.ts' 3 z (λW t=>lde (RV.flat (t.keep q_0) hx2 z) t102 z z z z z) t z (.tp' 4 z z t (.tp' 5 z z t (.ts' 6 z (λW t=>ixh t.p2 hx1 u47 t23 z z z) t z (.ts' 7 z (λW t=>lde (t.p2.hcellsv) t23 z z z z z) t z (bv h λy6 hy6 h=>.by1 8 z (.cV s func255 (tw hy6 s.p1.lv) z z ?_)))))))))
    intro v3 W s
    refine s.an [1,1,1] λt=>.tp' 9 z z t (.done (.g (.qn z (.block ?_))))
    have s:=Sep.gat (ds:=[.row 3 1 (x1.map (D.int .i64))]) (cs:=[sv v1]) (L1:=[ae (sv v1) 3 1 (D.int .i64) x1]) (.row (.nil)) (s.to [2,2,0,0])
    have s:Sep _ _ _ [ae (sv v_1) 23 1 (λ(l:List Int)=>D.row 3 1 (l.map (D.int .i64))) s1.2.2,ae (sv v3) 3 1 (D.int .i64) y6,ae (sv v2) 3 1 (D.int .i64) y5]:=Sep.back0v hx1 s
    refine bv h λy7 hy7 h=>?_
    refine .via (.iter (λs2 E' W'=>aD E' [(0,(sv v_0)),(1,(sv v_1)),(5,.bool s2.1),(6,vi s1.2.1),(7,(sv v2)),(8,(sv v3)),(9,vi s2.2.1)]/\Sep S w W' [ae (sv v_1) 23 1 (λ(l:List Int)=>D.row 3 1 (l.map (D.int .i64))) s2.2.2,ae (sv v3) 3 1 (D.int .i64) y6,ae (sv v2) 3 1 (D.int .i64) y5]) (λy8 x E' W'=>x=.exit 2/\aD E' [(0,(sv v_0)),(1,(sv v_1)),(5,.bool y8.1),(6,vi s1.2.1)]/\Sep S w W' [ae (sv v_1) 23 1 (λ(l:List Int)=>D.row 3 1 (l.map (D.int .i64))) y8.2,ae (sv v3) 3 1 (D.int .i64) y6,ae (sv v2) 3 1 (D.int .i64) y5]) hy7 ⟨sb z,s.to [0,0,0]⟩ ?_) ?_
    ·intro s2 y9 E W h hI
     obtain ⟨hE,s⟩:=hI
     refine CW.sub hE ?_
     unfold lS at h
     refine .seq (.g (.q z (.q z (.s (a8 s.p2.lv u23 z z) z (.qn z (.cond z (λb=>?_) (λb=>?_)))))))
     ·have h:=aK b h
      refine .skip (bv h λy10 hy10 h=>?_)
      refine .seq (CW.via (R':=λx E' W'=>x=.normal/\aD E' [(0,(sv v_0)),(1,(sv v_1)),(5,.bool y10.1),(6,vi s1.2.1),(7,(sv v2)),(8,(sv v3)),(9,vi s2.2.1)]/\Sep S w W' [ae (sv v_1) 23 1 (λ(l:List Int)=>D.row 3 1 (l.map (D.int .i64))) y10.2,ae (sv v3) 3 1 (D.int .i64) y6,ae (sv v2) 3 1 (D.int .i64) y5]) ?_ ?_)
      ·have h:=hy10
       refine .block (.g (.q z (.q z (.q z (bv h λx3 hx3 h=>.s (ixv s.p2.lv hx3 u23 T.t3 z z z) z (.s (lde (RV.flat s.p2.lv hx3 z) T.t3 z z z z z) z (.q z (bv h λy11 hy11 h=>.c (.cS (L0:=[ae (sv v_1) 23 1 (λ(l:List Int)=>D.row 3 1 (l.map (D.int .i64))) s2.2.2]) s func256 (λS h1 h2 h3=>(tx hy11 (h3.rdv (k:=0) z) h2 (zz h1))) z z ?_)))))))))
       rintro ⟨⟩ W s
       refine .nil ?_
       refine .cs z h ?_ ?_ <;> intro h
       ·refine .region (.q z (.nil ?_))
        cases h
        exact ⟨z,sb z,s.to [0,0,0]⟩
       refine .skip ?_
       cases h
       exact ⟨z,sb z,s.to [0,0,0]⟩
      intro x E W hJ
      obtain ⟨rfl,hE,s⟩:=hJ
      refine ⟨_,hE.sub,?_⟩
      refine .region (.q z (.q z (.q z (.nil ?_))))
      cases h
      exact ⟨z,sb z,s.to [0,0,0]⟩
     have h:=aL b h
     refine .exit ?_
     cases h
     exact ⟨by simp,z,sb z,s.to [0,0,0]⟩
    intro x E W hJ
    obtain ⟨rfl,hE,s⟩:=hJ
    refine ⟨_,hE.sub,?_⟩
    cases h
    exact ⟨z,sb z,s.to [0]⟩
   intro x E W hJ
   obtain ⟨rfl,hE,s⟩:=hJ
   refine ⟨_,hE.sub,?_⟩
   refine .region (.q z (.q z (.q z (.nil ?_))))
   cases h
   exact ⟨z,sb z,s.to [0]⟩
  refine .exit ?_
  cases h
  exact ⟨by simp,z,sb z,s.to [0]⟩
 intro x E W hJ
 obtain ⟨rfl,hE,s⟩:=hJ
 refine ⟨_,hE.sub,?_⟩
 cases h
 exact .g (.q z (.qn z (.ret (ac () (rt z rn) z (s.to [0])))))
theorem tA {a0:List ah} {v_0:Hd} {w:World} {r:(List (List Int))} (h:jQ a0=some r) (q_0:RO w v_0 102 5 aq a0):CL 223 #[sv v_0] w (Ret No w (λs:Hd=>(sv s)) (λs=>[ae (sv s) 23 1 (λ(l:List Int)=>D.row 3 1 (l.map (D.int .i64))) r])):=by
 unfold jQ at h
 refine au func223 z z ?_
 have s:=Sep.start w
 refine .g (.qn z (.g (.c (.lg (L1:=[]) [] (λ(l:List Int)=>D.row 3 1 (l.map (D.int .i64))) u47 t23 (s.to []) z z z (.nil) ?_ z (λ_=>z)))))
 intro v1 W s
 refine .qn z (.seq (.g (.q z (bv h λy1 hy1 h=>.c (.cO s func137 (cF hy1 (s.keep q_0)) z z ?_)))))
 intro W s
 refine .qn z (.cond z (λb=>?_) (λb=>?_))
 ·have h:=aK b h
  cases h
  exact .g (.q z (.qn z (.ret (ac v1 (rt z rn) z (s.to [0])))))
 have h:=aL b h
 refine .skip (.seq (.g (.qn z (.block (bv h λy2 hy2 h=>?_)))))
 refine .via (.iter (λs1 E' W'=>∃ (v4:Hd),aD E' [(0,(sv v_0)),(3,(sv v4)),(4,vi s1.2)]/\Sep No w W' [ae (sv v4) 23 1 (λ(l:List Int)=>D.row 3 1 (l.map (D.int .i64))) s1.1]) (λy3 x E' W'=>x=.exit 0/\∃ (v5:Hd),aD E' [(0,(sv v_0)),(3,(sv v5))]/\Sep No w W' [ae (sv v5) 23 1 (λ(l:List Int)=>D.row 3 1 (l.map (D.int .i64))) y3]) hy2 ⟨v1,sb z,s.to [0]⟩ ?_) ?_
 ·intro s1 y4 E W h hI
  obtain ⟨v3,hE,s⟩:=hI
  refine CW.sub hE ?_
  unfold lV at h
  refine .seq (.g (.q z (.q z (.s (a8 (s.keep q_0) u78 z z) z (.q z (.nil ?_))))))
  refine .cs z h ?_ ?_ <;> intro h
  ·refine .skip (.seq (.block (.region (.q z (.c (.liv [] (D.int .i64) u23 T.t3 s z z z z ?_ z (λ_=>z)))))))
   intro v6 W s
   refine .c (.lg (L1:=[ae (sv v6) 3 1 (D.int .i64) []]) [[]] (λ(l:List Int)=>D.row 3 1 (l.map (D.int .i64))) u47 t23 (s.to [0,0]) z z z (.row (.nil)) ?_ z (λ_=>z))
   intro v7 W s
   refine bv h λr1 hr1 h=>.c (.appv hr1 (s.to [1,0]) u47 t23 z z z ?_)
   intro v8 W s
   refine .qn z (.region (.q z (.q z (.q z (.nil ?_)))))
   cases h
   exact ⟨z,v8,sb z,s.to [0]⟩
  refine .exit ?_
  cases h
  exact ⟨by simp,z,v3,sb z,s.to [0]⟩
 intro x E W hJ
 obtain ⟨rfl,v9,hE,s⟩:=hJ
 refine ⟨_,hE.sub,?_⟩
 refine .g (.q z (bv h λy5 hy5 h=>.c (.cV s func243 (pE hy5) z z ?_)))
 intro v10 W s
 refine bv h λx1 hx1 h=>.s (ixv s.p1.lv hx1 u47 t23 z z z) z ?_
 obtain ⟨k1,s⟩:=Sep.ov s.p1 hx1
 obtain ⟨v11,k1,rfl,s⟩:=s.ow
 obtain ⟨rfl,s⟩:=s.oN
 refine .c (.sthv s.p1 t23 z z z ?_)
 intro W s
 refine .nil (.seq (.block ?_))
 have s:=Sep.gat (ds:=[.row 3 1 (y5.map (D.int .i64))]) (cs:=[sv v10]) (L1:=[ae (sv v10) 3 1 (D.int .i64) y5]) (.row (.nil)) (s.to [2,0,0])
 have s:Sep _ _ _ [ae (sv v9) 23 1 (λ(l:List Int)=>D.row 3 1 (l.map (D.int .i64))) (y2.set (Int.toNat 0) y5),ae (sv v11) 3 1 (D.int .i64) x1]:=s.bv
 refine bv h λy6 hy6 h=>?_
 refine .via (.iter (λs2 E' W'=>aD E' [(0,(sv v_0)),(3,(sv v9))]/\Sep No w W' [ae (sv v9) 23 1 (λ(l:List Int)=>D.row 3 1 (l.map (D.int .i64))) s2,ae (sv v11) 3 1 (D.int .i64) x1]) (λy7 x E' W'=>x=.exit 2/\aD E' [(0,(sv v_0)),(3,(sv v9))]/\Sep No w W' [ae (sv v9) 23 1 (λ(l:List Int)=>D.row 3 1 (l.map (D.int .i64))) y7,ae (sv v11) 3 1 (D.int .i64) x1]) hy6 ⟨sb z,s.to [0,0]⟩ ?_) ?_
 ·intro s2 y8 E W h hI
  obtain ⟨hE,s⟩:=hI
  refine CW.sub hE ?_
  unfold lW at h
  refine .seq (.g (.q z (.q z (bv h λy9 hy9 h=>.c (.cS (L0:=[ae (sv v9) 23 1 (λ(l:List Int)=>D.row 3 1 (l.map (D.int .i64))) s2]) s func244 (λS h1 h2 h3=>(tz hy9 (s.ks q_0 h1) h2 (zz h1))) z z ?_)))))
  rintro ⟨⟩ W s
  refine .nil ?_
  refine .cs z h ?_ ?_ <;> intro h
  ·refine .skip (.block (.skip ?_))
   cases h
   exact ⟨z,sb z,s.to [0,0]⟩
  refine .exit ?_
  cases h
  exact ⟨by simp,z,sb z,s.to [0,0]⟩
 intro x E W hJ
 obtain ⟨rfl,hE,s⟩:=hJ
 refine ⟨_,hE.sub,?_⟩
 refine .seq (.g (.qn z (.block (bv h λy10 hy10 h=>?_))))
 refine .via (.iter (λs3 E' W'=>aD E' [(0,(sv v_0)),(3,(sv v9)),(5,vi s3.1)]/\Sep No w W' [ae (sv v9) 23 1 (λ(l:List Int)=>D.row 3 1 (l.map (D.int .i64))) s3.2,ae (sv v11) 3 1 (D.int .i64) x1]) (λy11 x E' W'=>x=.exit 4/\aD E' [(3,(sv v9))]/\Sep No w W' [ae (sv v9) 23 1 (λ(l:List Int)=>D.row 3 1 (l.map (D.int .i64))) y11,ae (sv v11) 3 1 (D.int .i64) x1]) hy10 ⟨sb z,s.to [0,0]⟩ ?_) ?_
 ·intro s3 y12 E W h hI
  obtain ⟨hE,s⟩:=hI
  refine CW.sub hE ?_
  unfold lX at h
  refine .seq (.g (.q z (.q z (.s (a8 (s.keep q_0) u78 z z) z (.q z (.nil ?_))))))
  refine .cs z h ?_ ?_ <;> intro h
  ·refine .skip (bv h λy13 hy13 h=>?_)
   refine .seq (CW.via (R':=λx E' W'=>x=.normal/\aD E' [(0,(sv v_0)),(3,(sv v9)),(5,vi s3.1)]/\Sep No w W' [ae (sv v9) 23 1 (λ(l:List Int)=>D.row 3 1 (l.map (D.int .i64))) y13,ae (sv v11) 3 1 (D.int .i64) x1]) ?_ ?_)
   ·have h:=hy13
    refine .block (.g (.q z (.q z (bv h λx2 hx2 h=>.s (ixv s.lv hx2 u47 t23 z z z) z ?_))))
    obtain ⟨k2,s⟩:=Sep.ov s hx2
    obtain ⟨v12,k2,rfl,s⟩:=s.ow
    obtain ⟨rfl,s⟩:=s.oN
    refine .s (lde (s.p1.hcellsv) t23 z z z z z) z (.s (a8 s.lv u23 z z) z (.q z (.nil ?_)))
    refine .cs z h ?_ ?_ <;> intro h
    ·refine .region (.q z (.q z (bv h λy14 hy14 h=>.c (.cV s func243 (pE hy14) z z ?_))))
     intro v13 W s
     refine .s (ixh s.p2 hx2 u47 t23 z z z) z (.c (.sthv s.p2 t23 z z z ?_))
     intro W s
     refine .nil ?_
     have s:=Sep.gat (ds:=[.row 3 1 (y14.map (D.int .i64))]) (cs:=[sv v13]) (L1:=[ae (sv v13) 3 1 (D.int .i64) y14]) (.row (.nil)) (s.to [1,0,0,0])
     have s:Sep _ _ _ [ae (sv v9) 23 1 (λ(l:List Int)=>D.row 3 1 (l.map (D.int .i64))) (s3.2.set (Int.toNat s3.1) y14),ae (sv v12) 3 1 (D.int .i64) x2,ae (sv v11) 3 1 (D.int .i64) x1]:=s.bv
     cases h
     exact ⟨z,sb z,s.to [0,1]⟩
    refine .skip ?_
    have s:=Sep.gat (ds:=[.row 3 1 (x2.map (D.int .i64))]) (cs:=[sv v12]) (L1:=[ae (sv v12) 3 1 (D.int .i64) x2]) (.row (.nil)) (s.to [0,0,0])
    have s:Sep _ _ _ [ae (sv v9) 23 1 (λ(l:List Int)=>D.row 3 1 (l.map (D.int .i64))) s3.2,ae (sv v11) 3 1 (D.int .i64) x1]:=Sep.back0v hx2 s
    cases h
    exact ⟨z,sb z,s.to [0,0]⟩
   intro x E W hJ
   obtain ⟨rfl,hE,s⟩:=hJ
   refine ⟨_,hE.sub,?_⟩
   refine .region (.q z (.q z (.q z (.nil ?_))))
   cases h
   exact ⟨z,sb z,s.to [0,0]⟩
  refine .exit ?_
  cases h
  exact ⟨by simp,z,sb z,s.to [0,0]⟩
 intro x E W hJ
 obtain ⟨rfl,hE,s⟩:=hJ
 refine ⟨_,hE.sub,?_⟩
 obtain rfl:=o9 h
 exact .g (.q z (.qn z (.ret (ac v9 (rt z rn) z (s.to [0])))))
theorem uq {a0:ah} {a1:List Int} {v_1:Hd} {w:World} {r:ah} (h:kO a0 a1=some r) (q_1:RO w v_1 3 1 (D.int .i64) a1):CL 224 #[.agg #[vi a0.Op,vi a0.Dst,vi a0.A,vi a0.B,vi a0.N],sv v_1] w (RU w (.agg #[vi r.Op,vi r.Dst,vi r.A,vi r.B,vi r.N])):=by
 unfold kO at h
 refine au func224 z z ?_
 have s:=Sep.start w
 refine .g (.c (.box s z z ?_))
 intro g1 W s
 refine .c (.alloc t102 s ?_)
 intro g2 W s
 refine .nil (.seq (.g (.s (fa f102_0 z z z) z (.s (ld T.t3 s.p1 z z z z z) z (.nil (.block (bv h λy1 hy1 h=>?_)))))))
 refine .seq (CW.via (R':=λx E' W'=>x=.normal/\aD E' [(1,(sv v_1)),(2,Pt g1),(4,Pt g2),(6,vi a0.Op),(7,.bool y1)]/\Sep No w W' [.box g2 102 [vi 0,vi 0,vi 0,vi 0,vi 0],.box g1 102 [vi a0.Op,vi a0.Dst,vi a0.A,vi a0.B,vi a0.N]]) ?_ ?_)
 ·have h:=hy1
  refine .g (.q z (.q z (.nil ?_)))
  refine .cs z h ?_ ?_ <;> intro h
  ·refine .skip ?_
   cases h
   exact ⟨z,sb z,s.to [0,0]⟩
  refine .g (.q z (.q z (.nil ?_)))
  refine .cs z h ?_ ?_ <;> intro h
  ·refine .skip ?_
   cases h
   exact ⟨z,sb z,s.to [0,0]⟩
  refine .g (.q z (.q z (.nil ?_)))
  refine .cs z h ?_ ?_ <;> intro h
  ·refine .skip ?_
   cases h
   exact ⟨z,sb z,s.to [0,0]⟩
  refine .region (.q z (.q z (.nil ?_)))
  cases h
  exact ⟨z,sb z,s.to [0,0]⟩
 intro x E W hJ
 obtain ⟨rfl,hE,s⟩:=hJ
 refine ⟨_,hE.sub,?_⟩
 refine .cs z h ?_ ?_ <;> intro h
 ·refine .region (.q z (.s (fa f102_2 z z z) z (.s (ld T.t3 s.p1 z z z z z) z (bv h λx1 hx1 h=>.s (ixv (s.keep q_1) hx1 u23 T.t3 z z z) z (.s (lde (RV.flat (s.keep q_1) hx1 z) T.t3 z z z z z) z (.s (fa f102_2 z z z) z (.c (.st T.t3 s.p1 z z z ?_))))))))
  intro W s
  refine .nil (.g (.s (ld t102 s z z z z z) z (.c (.st t102 s.p1 z z z ?_))))
  intro W s
  cases h
  exact .nil (.ret (ac () (rc s t102 z rn z z) z (s.to [])))
 refine .g (.q z (.q z (.nil ?_)))
 refine .cs z h ?_ ?_ <;> intro h
 ·refine .g (.q z (.s (fa f102_2 z z z) z (.s (ld T.t3 s.p1 z z z z z) z (bv h λx2 hx2 h=>.s (ixv (s.keep q_1) hx2 u23 T.t3 z z z) z (.s (lde (RV.flat (s.keep q_1) hx2 z) T.t3 z z z z z) z (.s (fa f102_2 z z z) z (.c (.st T.t3 s.p1 z z z ?_))))))))
  intro W s
  refine .nil (.region (.q z (.s (fa f102_3 z z z) z (.s (ld T.t3 s z z z z z) z (bv h λx3 hx3 h=>.s (ixv (s.keep q_1) hx3 u23 T.t3 z z z) z (.s (lde (RV.flat (s.keep q_1) hx3 z) T.t3 z z z z z) z (.s (fa f102_3 z z z) z (.c (.st T.t3 s z z z ?_)))))))))
  intro W s
  refine .nil (.g (.s (ld t102 s z z z z z) z (.c (.st t102 s.p1 z z z ?_))))
  intro W s
  cases h
  exact .nil (.ret (ac () (rc s t102 z rn z z) z (s.to [])))
 refine .skip (.g (.s (ld t102 s.p1 z z z z z) z (.c (.st t102 s z z z ?_))))
 intro W s
 obtain rfl:=o9 h
 exact .nil (.ret (ac () (rc s t102 z rn z z) z (s.to [])))
end
noncomputable section
theorem tB {a0:List ah} {v_0:Hd} {w:World} {r:(List ah)×Bool} (h:jR a0=some r) (q_0:RO w v_0 102 5 aq a0):CL 201 #[sv v_0] w (Ret No w (λs:Hd=>.tuple #[sv s,.bool r.2]) (λs=>[ae (sv s) 102 5 aq r.1])):=by
 unfold jR at h
 refine au func201 z z ?_
 have s:=Sep.start w
 refine .g (.q z (.qn z (.g (.c (.liv [] aq u78 t102 s z z z z ?_ z (λ_=>z))))))
 intro v1 W s
 refine .qn z (.seq (.g (.q z (bv h λy1 hy1 h=>.c (.cO s func137 (cF hy1 (s.keep q_0)) z z ?_)))))
 intro W s
 refine .q z (.nil ?_)
 refine .cs z h ?_ ?_ <;> intro h
 ·cases h
  exact .g (.q z (.q z (.qn z (.ret (ac (vs:=[_,_]) v1 (rt z (rt z rn)) z (s.to [0]))))))
 refine .skip (.g (.q z (bv h λy2 hy2 h=>.c (.cV s func223 (tA hy2 (s.keep q_0)) z z ?_))))
 intro v2 W s
 refine .qn z (.seq (.g (.qn z (.block (bv h λy3 hy3 h=>?_)))))
 refine .via (.iter (λs1 E' W'=>∃ (v5:Hd),aD E' [(0,(sv v_0)),(4,(sv v5)),(5,(sv v2)),(6,vi s1.2)]/\Sep No w W' [ae (sv v2) 23 1 (λ(l:List Int)=>D.row 3 1 (l.map (D.int .i64))) y2,ae (sv v5) 102 5 aq s1.1]) (λy4 x E' W'=>x=.exit 0/\∃ (v6:Hd),aD E' [(4,(sv v6))]/\Sep No w W' [ae (sv v2) 23 1 (λ(l:List Int)=>D.row 3 1 (l.map (D.int .i64))) y2,ae (sv v6) 102 5 aq y4]) hy3 ⟨v1,sb z,s.to [0,0]⟩ ?_) ?_
 ·intro s1 y5 E W h hI
  obtain ⟨v4,hE,s⟩:=hI
  refine CW.sub hE ?_
  unfold jl at h
  refine .seq (.g (.q z (.q z (.s (a8 (s.keep q_0) u78 z z) z (.q z (.nil ?_))))))
  refine .cs z h ?_ ?_ <;> intro h
  ·refine .skip (.seq (.block (bv h λx1 hx1 h=>?_)))
   obtain ⟨k1,s⟩:=Sep.ov s hx1
   obtain ⟨v7,k1,rfl,s⟩:=s.ow
   obtain ⟨rfl,s⟩:=s.oN
   refine .rk 13 s [0,0] T.mix ?_
   intro W s
   have t:=s.to [0,0]
   refine .tp' 0 z z t (.tp' 1 z z t (.tp' 2 z z t (bv h λx3 hx3 h=>.ts' 3 z (λW t=>ixv (s.keep q_0) hx3 u78 t102 z z z) t z (.ts' 4 z (λW t=>lde (RV.flat (t.keep q_0) hx3 z) t102 z z z z z) t z (.tp' 5 z z t (.tp' 6 z z t (.ts' 7 z (λW t=>ixh t.p1 hx1 u47 t23 z z z) t z (.ts' 8 z (λW t=>lde (t.p1.hcellsv) t23 z z z z z) t z (bv h λy7 hy7 h=>.by1 9 z (.cO s func224 (uq hy7 s.lv) z z ?_))))))))))
   intro W s
   refine s.an [0,0] λt=>.by1 10 z (.liv [y7] aq u78 t102 s z z z z ?_ z (λ_=>z))
   intro v10 W s
   refine s.an [1,1] λt=>bv h λr2 hr2 h=>?_
   have hT0:=s.p3
   refine .by1 11 z (.av hr2 hT0 hT0.p1.lv (λ_=>z) u78 t102 z z z ?_)
   intro v11 W s
   refine s.an [2,2] λt=>.tp' 12 z z t (.done (.region (.q z (.q z (.q z (.nil ?_))))))
   have s:=Sep.gat (ds:=[.row 3 1 (x1.map (D.int .i64))]) (cs:=[sv v7]) (L1:=[ae (sv v7) 3 1 (D.int .i64) x1]) (.row (.nil)) (s.to [2,2,0,0])
   have s:Sep _ _ _ [ae (sv v2) 23 1 (λ(l:List Int)=>D.row 3 1 (l.map (D.int .i64))) y2,ae (sv v11) 102 5 aq r2,ae (sv v10) 102 5 aq [y7]]:=Sep.back0v hx1 s
   cases h
   exact ⟨z,v11,sb z,s.to [0,0]⟩
  refine .exit ?_
  cases h
  exact ⟨by simp,z,v4,sb z,s.to [0,0]⟩
 intro x E W hJ
 obtain ⟨rfl,v12,hE,s⟩:=hJ
 refine ⟨_,hE.sub,?_⟩
 cases h
 exact .g (.q z (.q z (.qn z (.ret (ac (vs:=[_,_]) v12 (rt z (rt z rn)) z (s.to [1]))))))
def tC (w:World) (r:Int):Env->World->Prop:=Fin Tryz.prog Tryz.f225 No w (λs:Unit=>.int .i64 r) (λs=>[]) .ret
theorem sk {a0:List ah} {a1:Int} {v_0:Hd} {w:World} {r:Int} (h:iW a0 a1=some r) (q_0:RO w v_0 102 5 aq a0):CL 225 #[sv v_0,vi a1] w (RU w (.int .i64 r)):=by
 unfold iW at h
 refine au func225 z z ?_
 have s:=Sep.start w
 refine .g (.qn z (.g (.q z (.qn z (.seq (.g (.qn z (.block (bv h λy1 hy1 h=>?_)))))))))
 refine .via (.iter (λs1 E' W'=>aD E' [(0,(sv v_0)),(1,vi a1),(5,vi s1.1),(6,vi s1.2)]/\Sep No w W' []) (λy2 x E' W'=>(match y2 with | .inl o1=>x=.ret/\tC w o1 E' W' | .inr o2=>x=.exit 0/\aD E' [(1,vi a1)]/\Sep No w W' [])) hy1 ⟨sb rfl,s.to [] rfl⟩ ?_) ?_
 ·intro s1 y3 E W h hI
  obtain ⟨hE,s⟩:=hI
  refine CW.sub hE ?_
  unfold kP at h
  refine .seq (.g (.q z (.q z (.s (a8 (s.keep q_0) u78 z z) z (.q z (.nil ?_))))))
  refine .cs z h ?_ ?_ <;> intro h
  ·refine .skip (.seq (.block (.seq (.g (.q z (.q z (bv h λx1 hx1 h=>.s (ixv (s.keep q_0) hx1 u78 t102 z z z) z (.s (fe f102_0 z z z) z (.s (lde (RV.flat (s.keep q_0) hx1 z) T.t3 z z z z z) z (.q z (.nil ?_)))))))))))
   refine .cs z h ?_ ?_ <;> intro h
   ·refine .g (.q z (.qn z (.ret ?_)))
    cases h
    exact ⟨by simp,z,ac (vs:=[_]) () (rt z rn) z (s.to [])⟩
   refine .skip (.region (.q z (.q z (bv h λx2 hx2 h=>.s (ixv (s.keep q_0) hx2 u78 t102 z z z) z (.s (fe f102_4 z z z) z (.s (lde (RV.flat (s.keep q_0) hx2 z) T.t3 z z z z z) z (.qn z (.region (.q z (.q z (.q z (.nil ?_))))))))))))
   cases h
   exact ⟨z,sb z,s.to []⟩
  refine .exit ?_
  cases h
  exact ⟨by simp,z,sb z,s.to []⟩
 intro x E W hJ
 rcases y1 with o3 | o4
 ·obtain ⟨rfl,hF⟩:=hJ
  refine ⟨_,λ_ _ h=>h,?_⟩
  cases h
  exact hF
 obtain ⟨rfl,hE,s⟩:=hJ
 refine ⟨_,hE.sub,?_⟩
 obtain rfl:=o9 h
 exact .g (.q z (.qn z (.ret (ac () (rt z rn) z (s.to [])))))
theorem tD {a0:List ah} {v_0:Hd} {w:World} {r:(List ah)×Bool} (h:jS a0=some r) (q_0:RO w v_0 102 5 aq a0):CL 202 #[sv v_0] w (Ret No w (λs:Hd=>.tuple #[sv s,.bool r.2]) (λs=>[ae (sv s) 102 5 aq r.1])):=by
 unfold jS at h
 refine au func202 z z ?_
 have s:=Sep.start w
 refine .g (.q z (.qn z (.g (.c (.liv [] aq u78 t102 s z z z z ?_ z (λ_=>z))))))
 intro v1 W s
 refine .qn z (.seq (.g (.q z (bv h λy1 hy1 h=>.c (.cO s func137 (cF hy1 (s.keep q_0)) z z ?_)))))
 intro W s
 refine .q z (.nil ?_)
 refine .cs z h ?_ ?_ <;> intro h
 ·cases h
  exact .g (.q z (.q z (.qn z (.ret (ac (vs:=[_,_]) v1 (rt z (rt z rn)) z (s.to [0]))))))
 refine .skip (.seq (.g (.qn z (.block (bv h λy2 hy2 h=>?_)))))
 refine .via (.iter (λs1 E' W'=>∃ (v4:Hd),aD E' [(0,(sv v_0)),(4,(sv v4)),(5,vi s1.2)]/\Sep No w W' [ae (sv v4) 102 5 aq s1.1]) (λy3 x E' W'=>x=.exit 0/\∃ (v5:Hd),aD E' [(4,(sv v5))]/\Sep No w W' [ae (sv v5) 102 5 aq y3]) hy2 ⟨v1,sb z,s.to [0]⟩ ?_) ?_
 ·intro s1 y4 E W h hI
  obtain ⟨v3,hE,s⟩:=hI
  refine CW.sub hE ?_
  unfold jm at h
  refine .seq (.g (.q z (.q z (.s (a8 (s.keep q_0) u78 z z) z (.q z (.nil ?_))))))
  refine .cs z h ?_ ?_ <;> intro h
  ·refine .skip (.seq (.block (.g (.q z (.q z (bv h λx1 hx1 h=>.s (ixv (s.keep q_0) hx1 u78 t102 z z z) z (.s (lde (RV.flat (s.keep q_0) hx1 z) t102 z z z z z) z (.c (.alloc t102 s ?_)))))))))
   intro g1 W s
   refine .c (.st t102 s z z z ?_)
   intro W s
   refine .nil (bv h λy5 hy5 h=>?_)
   refine .seq (CW.via (R':=λx E' W'=>x=.normal/\aD E' [(0,(sv v_0)),(4,(sv v3)),(5,vi s1.2),(6,Pt g1)]/\Sep No w W' [.box g1 102 [vi y5.Op,vi y5.Dst,vi y5.A,vi y5.B,vi y5.N],ae (sv v3) 102 5 aq s1.1]) ?_ ?_)
   ·have h:=hy5
    refine .g (.s (fa f102_0 z z z) z (.s (ld T.t3 s z z z z z) z (.q z (.q z (.cu 4 29 ((x1.Op==4)||(x1.Op==5)) s ?_ ?_)))))
    ·refine .both (x1.Op==4) (λb=>?_) (λb=>?_)
     ·exact .xx b z (.xx b z (.xx b z (.s (pkt b z z z) z (.nil (ck 4 s z (ff b))))))
     have hg1:=b
     exact .g hg1 (.s (fa f102_0 z z z) z (.g hg1 (.s (ld T.t3 s z z z z z) z (.g hg1 (.q z (.s (pkf hg1 z z z) z (.nil (ck 4 s z (fg hg1)))))))))
    intro W s
    refine .nil ?_
    refine .cs z h ?_ ?_ <;> intro h
    ·refine .region (.q z (.s (fa f102_4 z z z) z (.s (ld T.t3 s z z z z z) z (bv h λy6 hy6 h=>.c (.cO s func225 (sk hy6 (s.keep q_0)) z z ?_)))))
     intro W s
     refine .s (fa f102_4 z z z) z (.c (.st T.t3 s z z z ?_))
     intro W s
     refine .nil ?_
     cases h
     exact ⟨z,sb z,s.to [0,0]⟩
    refine .skip ?_
    obtain rfl:=o9 h
    exact ⟨z,sb z,s.to [0,0]⟩
   intro x E W hJ
   obtain ⟨rfl,hE,s⟩:=hJ
   refine ⟨_,hE.sub,?_⟩
   refine .region (.q z (.s (ld t102 s z z z z z) z (.c (.liv [y5] aq u78 t102 s z z z z ?_ z (λ_=>z)))))
   intro v6 W s
   refine bv h λr1 hr1 h=>?_
   have hT0:=s.p2
   refine .c (.av hr1 hT0 hT0.p1.lv (λ_=>z) u78 t102 z z z ?_)
   intro v7 W s
   refine .qn z (.region (.q z (.q z (.q z (.nil ?_)))))
   cases h
   exact ⟨z,v7,sb z,s.to [0]⟩
  refine .exit ?_
  cases h
  exact ⟨by simp,z,v3,sb z,s.to [0]⟩
 intro x E W hJ
 obtain ⟨rfl,v8,hE,s⟩:=hJ
 refine ⟨_,hE.sub,?_⟩
 cases h
 exact .g (.q z (.q z (.qn z (.ret (ac (vs:=[_,_]) v8 (rt z (rt z rn)) z (s.to [0]))))))
theorem oO {a0:List ah} {a1:List (List Bool)} {a2:Int} {v_0:Hd} {v_1:Hd} {w:World} {r:(List Bool)} (h:ie a0 a1 a2=some r) (q_0:RO w v_0 102 5 aq a0) (q_1:RO w v_1 48 1 (λ(l:List Bool)=>D.row 4 1 (l.map D.bool)) a1):CL 228 #[sv v_0,sv v_1,vi a2] w (Ret No w (λs:Hd=>(sv s)) (λs=>[ae (sv s) 4 1 D.bool r])):=by
 unfold ie at h
 refine au func228 z z ?_
 have s:=Sep.start w
 refine .g (.qn z (.g (bv h λr1 hr1 h=>.c (.mkv false D.bool hr1 u48 t4 s z z z z z (λ_=>z) ?_))))
 intro v1 W s
 refine .qn z (.g (.q z (.q z (bv h λy1 hy1 h=>.c (.cV s func246 (kf hy1 (s.keep q_0)) z z ?_)))))
 intro v2 W s
 refine .qn z (.seq (.g (.qn z (.block (bv h λy2 hy2 h=>?_)))))
 refine .via (.iter (λs1 E' W'=>aD E' [(1,(sv v_1)),(7,(sv v1)),(8,(sv v2)),(9,vi s1.1)]/\Sep No w W' [ae (sv v2) 3 1 (D.int .i64) y1,ae (sv v1) 4 1 D.bool s1.2]) (λy3 x E' W'=>x=.exit 0/\aD E' [(7,(sv v1))]/\Sep No w W' [ae (sv v2) 3 1 (D.int .i64) y1,ae (sv v1) 4 1 D.bool y3]) hy2 ⟨sb z,s.to [0,0]⟩ ?_) ?_
 ·intro s1 y4 E W h hI
  obtain ⟨hE,s⟩:=hI
  refine CW.sub hE ?_
  unfold lZ at h
  refine .seq (.g (.q z (.q z (.s (a8 s.lv u23 z z) z (.q z (.nil ?_))))))
  refine .cs z h ?_ ?_ <;> intro h
  ·refine .skip (.seq (.block (.g (.qn z (.block (bv h λy5 hy5 h=>?_))))))
   refine .via (.iter (λs2 E' W'=>aD E' [(1,(sv v_1)),(7,(sv v1)),(8,(sv v2)),(9,vi s1.1),(10,vi s2.1)]/\Sep No w W' [ae (sv v2) 3 1 (D.int .i64) y1,ae (sv v1) 4 1 D.bool s2.2]) (λy6 x E' W'=>x=.exit 2/\aD E' [(1,(sv v_1)),(7,(sv v1)),(8,(sv v2)),(9,vi s1.1)]/\Sep No w W' [ae (sv v2) 3 1 (D.int .i64) y1,ae (sv v1) 4 1 D.bool y6]) hy5 ⟨sb z,s.to [0,0]⟩ ?_) ?_
   ·intro s2 y7 E W h hI
    obtain ⟨hE,s⟩:=hI
    refine CW.sub hE ?_
    unfold lY at h
    refine .seq (.g (.q z (.q z (.nil ?_))))
    refine .cs z h ?_ ?_ <;> intro h
    ·refine .skip (.seq (.block (.region (.q z (.q z (.q z (.q z (bv h λx1 hx1 h=>.s (ixv s.p1.lv hx1 u48 t4 z z z) z (.s (lde (RV.flat s.p1.lv hx1 z) t4 z z z z z) z (.q z (bv h λb1 hb1 h=>.cu 11 42 (b1) s ?_ ?_)))))))))))
     ·refine .both (x1) (λb=>?_) (λb=>?_)
      ·refine .xx b z (.xx b z (.xx b z (.xx b z (.xx b z (.xx b z (.xx b z (.xx b z (.xx b z (.xx b z ?_)))))))))
       cases aK b hb1
       exact .s (pkt b z z z) z (.nil (ck 11 s))
      have hg1:=b
      have h:=aL b hb1
      refine .g hg1 (.q z (.g hg1 (.q z (.g hg1 (.q z (bv h λx2 hx2 h=>.g hg1 (.s (ixv s.lv hx2 u23 T.t3 z z z) z (.g hg1 (.s (lde (RV.flat s.lv hx2 z) T.t3 z z z z z) z (bv h λx3 hx3 h=>?_))))))))))
      obtain ⟨k1,hd,hck1⟩:=RV.el2 q_1 hx3
      obtain ⟨v3,k1,rfl,q1,hd1⟩:=c9 q_1 hd
      obtain rfl:=iq q_1 hd1
      refine .g hg1 (.s (ixv (s.keep q_1) hx3 u224 t48 z z z) z (.g hg1 (.s (lde (hck1 _ s.agree) t48 z z z z z) z (.g hg1 (.q z (bv h λx4 hx4 h=>.g hg1 (.s (ixv (s.keep (q1 _ q_1)) hx4 u48 t4 z z z) z (.g hg1 (.s (lde (RV.flat (s.keep (q1 _ q_1)) hx4 z) t4 z z z z z) z (.s (pkf hg1 z z z) z ?_))))))))))
      cases h
      exact .nil (ck 11 s)
     intro W s
     refine bv h λx5 hx5 h=>.s (ixv s.p1.lv hx5 u48 t4 z z z) z (bv h λr2 hr2 h=>.c (.sev hr2 hx5 s.p1 t4 z z z z z z ?_))
     intro W s
     refine .nil (.region (.q z (.q z (.q z (.nil ?_)))))
     cases h
     exact ⟨z,sb z,s.to [1,0]⟩
    refine .exit ?_
    cases h
    exact ⟨by simp,z,sb z,s.to [0,0]⟩
   intro x E W hJ
   obtain ⟨rfl,hE,s⟩:=hJ
   refine ⟨_,hE.sub,?_⟩
   refine .region (.q z (.q z (.q z (.nil ?_))))
   cases h
   exact ⟨z,sb z,s.to [0,0]⟩
  refine .exit ?_
  cases h
  exact ⟨by simp,z,sb z,s.to [0,0]⟩
 intro x E W hJ
 obtain ⟨rfl,hE,s⟩:=hJ
 refine ⟨_,hE.sub,?_⟩
 obtain rfl:=o9 h
 exact .g (.q z (.qn z (.ret (ac v1 (rt z rn) z (s.to [1])))))
theorem tE {a0:ah} {w:World} {r:(List Int)} (h:jT a0=some r):CL 263 #[.agg #[vi a0.Op,vi a0.Dst,vi a0.A,vi a0.B,vi a0.N]] w (Ret No w (λs:Hd=>(sv s)) (λs=>[ae (sv s) 3 1 (D.int .i64) r])):=by
 unfold jT at h
 refine au func263 z z ?_
 have s:=Sep.start w
 refine .g (.c (.box s z z ?_))
 intro g1 W s
 refine .qn z (.seq (.g (.s (ld t102 s z z z z z) z (bv h λy1 hy1 h=>.c (.cO s func179 (lA hy1) z z ?_)))))
 intro W s
 refine .q z (.nil ?_)
 refine .cs z h ?_ ?_ <;> intro h
 ·refine .g (.c (.liv [] (D.int .i64) u23 T.t3 s z z z z ?_ z (λ_=>z)))
  intro v1 W s
  cases h
  exact .qn z (.ret (ac v1 (rt z rn) z (s.to [0])))
 refine .skip (.seq (.g (.s (fa f102_0 z z z) z (.s (ld T.t3 s z z z z z) z (.nil (.block (bv h λy2 hy2 h=>?_)))))))
 refine .seq (CW.via (R':=λx E' W'=>x=.normal/\aD E' [(1,Pt g1),(8,vi a0.Op),(9,.bool y2)]/\Sep No w W' [.box g1 102 [vi a0.Op,vi a0.Dst,vi a0.A,vi a0.B,vi a0.N]]) ?_ ?_)
 ·have h:=hy2
  refine .g (.q z (.q z (.nil ?_)))
  refine .cs z h ?_ ?_ <;> intro h
  ·refine .skip ?_
   cases h
   exact ⟨z,sb z,s.to [0]⟩
  refine .g (.q z (.q z (.nil ?_)))
  refine .cs z h ?_ ?_ <;> intro h
  ·refine .skip ?_
   cases h
   exact ⟨z,sb z,s.to [0]⟩
  refine .g (.q z (.q z (.nil ?_)))
  refine .cs z h ?_ ?_ <;> intro h
  ·refine .skip ?_
   cases h
   exact ⟨z,sb z,s.to [0]⟩
  refine .region (.q z (.q z (.nil ?_)))
  cases h
  exact ⟨z,sb z,s.to [0]⟩
 intro x E W hJ
 obtain ⟨rfl,hE,s⟩:=hJ
 refine ⟨_,hE.sub,?_⟩
 refine .cs z h ?_ ?_ <;> intro h
 ·refine .g (.s (fa f102_2 z z z) z (.s (ld T.t3 s z z z z z) z (.c (.liv [a0.A] (D.int .i64) u23 T.t3 s z z z z ?_ z (λ_=>z)))))
  intro v2 W s
  cases h
  exact .qn z (.ret (ac v2 (rt z rn) z (s.to [0])))
 refine .g (.q z (.q z (.nil ?_)))
 refine .cs z h ?_ ?_ <;> intro h
 ·refine .seq (.g (.s (fa f102_2 z z z) z (.s (ld T.t3 s z z z z z) z (.s (fa f102_3 z z z) z (.s (ld T.t3 s z z z z z) z (.q z (.nil ?_)))))))
  refine .cs z h ?_ ?_ <;> intro h
  ·refine .g (.s (fa f102_2 z z z) z (.s (ld T.t3 s z z z z z) z (.c (.liv [a0.A] (D.int .i64) u23 T.t3 s z z z z ?_ z (λ_=>z)))))
   intro v3 W s
   cases h
   exact .qn z (.ret (ac v3 (rt z rn) z (s.to [0])))
  refine .skip (.g (.s (fa f102_2 z z z) z (.s (ld T.t3 s z z z z z) z (.s (fa f102_3 z z z) z (.s (ld T.t3 s z z z z z) z (.s (mnv z z z) z (.s (fa f102_2 z z z) z (.s (ld T.t3 s z z z z z) z (.s (fa f102_3 z z z) z (.s (ld T.t3 s z z z z z) z (.s (mxv z z z) z (.c (.liv [min a0.A a0.B,max a0.A a0.B] (D.int .i64) u23 T.t3 s z z z z ?_ z (λ_=>z))))))))))))))
  intro v4 W s
  cases h
  exact .qn z (.ret (ac v4 (rt z rn) z (s.to [0])))
 refine .skip (.g (.c (.liv [] (D.int .i64) u23 T.t3 s z z z z ?_ z (λ_=>z))))
 intro v5 W s
 cases h
 exact .qn z (.ret (ac v5 (rt z rn) z (s.to [0])))
theorem sn {a0:ah} {a1:List Bool} {v_1:Hd} {w:World} {r:(List Bool)} (h:iX a0 a1=some r) (q_1:RO w v_1 4 1 D.bool a1):CL 257 #[.agg #[vi a0.Op,vi a0.Dst,vi a0.A,vi a0.B,vi a0.N],sv v_1] w (Ret No w (λs:Hd=>(sv s)) (λs=>[ae (sv s) 4 1 D.bool r])):=by
 unfold iX at h
 refine au func257 z z ?_
 have s:=Sep.start w
 refine .g (.c (.box s z z ?_))
 intro g1 W s
 refine .qn z (.g (.c (.liv [] D.bool u48 t4 s z z z z ?_ z (λ_=>z))))
 intro v1 W s
 refine .q z (bv h λr1 hr1 h=>.c (.av hr1 s (s.keep q_1) (λ_=>z) u48 t4 z z z ?_))
 intro v2 W s
 refine .qn z (bv h λy1 hy1 h=>?_)
 refine .seq (CW.via (R':=λx E' W'=>x=.normal/\aD E' [(2,Pt g1),(5,(sv v2))]/\Sep No w W' [ae (sv v2) 4 1 D.bool y1,.box g1 102 [vi a0.Op,vi a0.Dst,vi a0.A,vi a0.B,vi a0.N]]) ?_ ?_)
 ·have h:=hy1
  refine .g (.s (ld t102 s.p1 z z z z z) z (bv h λy2 hy2 h=>.c (.cO s func262 (mi hy2) z z ?_)))
  intro W s
  refine .q z (.nil ?_)
  refine .cs z h ?_ ?_ <;> intro h
  ·refine .region (.q z (.s (ld t102 s.p1 z z z z z) z (bv h λy3 hy3 h=>.c (.cO s func262 (mi hy3) z z ?_))))
   intro W s
   refine bv h λx1 hx1 h=>.s (ixv s.lv hx1 u48 t4 z z z) z (bv h λr2 hr2 h=>.c (.sev hr2 hx1 s t4 z z z z z z ?_))
   intro W s
   refine .nil ?_
   obtain rfl:=o9 h
   exact ⟨z,sb z,s.to [0,0]⟩
  refine .skip ?_
  obtain rfl:=o9 h
  exact ⟨z,sb z,s.to [0,0]⟩
 intro x E W hJ
 obtain ⟨rfl,hE,s⟩:=hJ
 refine ⟨_,hE.sub,?_⟩
 refine .g (.s (ld t102 s.p1 z z z z z) z (bv h λy4 hy4 h=>.c (.cV s func263 (tE hy4) z z ?_)))
 intro v3 W s
 refine .qn z (.seq (.g (.qn z (.block (bv h λy5 hy5 h=>?_)))))
 refine .via (.iter (λs1 E' W'=>aD E' [(5,(sv v2)),(6,(sv v3)),(7,vi s1.1)]/\Sep No w W' [ae (sv v3) 3 1 (D.int .i64) y4,ae (sv v2) 4 1 D.bool s1.2,.box g1 102 [vi a0.Op,vi a0.Dst,vi a0.A,vi a0.B,vi a0.N]]) (λy6 x E' W'=>x=.exit 0/\aD E' [(5,(sv v2))]/\Sep No w W' [ae (sv v3) 3 1 (D.int .i64) y4,ae (sv v2) 4 1 D.bool y6,.box g1 102 [vi a0.Op,vi a0.Dst,vi a0.A,vi a0.B,vi a0.N]]) hy5 ⟨sb z,s.to [0,0,0]⟩ ?_) ?_
 ·intro s1 y7 E W h hI
  obtain ⟨hE,s⟩:=hI
  refine CW.sub hE ?_
  unfold kQ at h
  refine .seq (.g (.q z (.q z (.s (a8 s.lv u23 z z) z (.q z (.nil ?_))))))
  refine .cs z h ?_ ?_ <;> intro h
  ·refine .skip (.seq (.block (.region (.q z (.q z (.q z (bv h λx2 hx2 h=>.s (ixv s.lv hx2 u23 T.t3 z z z) z (.s (lde (RV.flat s.lv hx2 z) T.t3 z z z z z) z (bv h λx3 hx3 h=>.s (ixv s.p1.lv hx3 u48 t4 z z z) z (bv h λr3 hr3 h=>.c (.sev hr3 hx3 s.p1 t4 z z z z z z ?_)))))))))))
   intro W s
   refine .nil (.region (.q z (.q z (.q z (.nil ?_)))))
   cases h
   exact ⟨z,sb z,s.to [1,0,0]⟩
  refine .exit ?_
  cases h
  exact ⟨by simp,z,sb z,s.to [0,0,0]⟩
 intro x E W hJ
 obtain ⟨rfl,hE,s⟩:=hJ
 refine ⟨_,hE.sub,?_⟩
 obtain rfl:=o9 h
 exact .g (.q z (.qn z (.ret (ac v2 (rt z rn) z (s.to [1])))))
def vX (w:World) (r:Bool):Env->World->Prop:=Fin Tryz.prog Tryz.f258 No w (λs:Unit=>.bool r) (λs=>[]) .ret
theorem ur {a0:List Bool} {a1:List Bool} {v_0:Hd} {v_1:Hd} {w:World} {r:Bool} (h:kR a0 a1=some r) (q_0:RO w v_0 4 1 D.bool a0) (q_1:RO w v_1 4 1 D.bool a1):CL 258 #[sv v_0,sv v_1] w (RU w (.bool r)):=by
 unfold kR at h
 refine au func258 z z ?_
 have s:=Sep.start w
 refine .g (.qn z (.seq (.g (.qn z (.block (bv h λy1 hy1 h=>?_))))))
 refine .via (.iter (λs1 E' W'=>aD E' [(0,(sv v_0)),(1,(sv v_1)),(5,vi s1)]/\Sep No w W' []) (λy2 x E' W'=>(match y2 with | .inl o1=>x=.ret/\vX w o1 E' W' | .inr o2=>x=.exit 0/\aD E' [(0,(sv v_0)),(1,(sv v_1))]/\Sep No w W' [])) hy1 ⟨sb rfl,s.to [] rfl⟩ ?_) ?_
 ·intro s1 y3 E W h hI
  obtain ⟨hE,s⟩:=hI
  refine CW.sub hE ?_
  unfold mQ at h
  refine .seq (.g (.q z (.q z (.s (a8 (s.keep q_0) u48 z z) z (.q z (.nil ?_))))))
  refine .cs z h ?_ ?_ <;> intro h
  ·refine .skip (.seq (.block (.seq (.rk 9 s [] T.mix ?_))))
   intro W s
   have t:=s.to []
   refine .tp' 0 z z t (.tp' 1 z z t (bv h λx1 hx1 h=>.ts' 2 z (λW t=>ixv (s.keep q_0) hx1 u48 t4 z z z) t z (.ts' 3 z (λW t=>lde (RV.flat (t.keep q_0) hx1 z) t4 z z z z z) t z (.tp' 4 z z t (.tp' 5 z z t (bv h λx2 hx2 h=>.ts' 6 z (λW t=>ixv (s.keep q_1) hx2 u48 t4 z z z) t z (.ts' 7 z (λW t=>lde (RV.flat (t.keep q_1) hx2 z) t4 z z z z z) t z (.ts' 8 z (λW t=>neb u4 z z z) t z (.done ?_)))))))))
   refine .cs z h ?_ ?_ <;> intro h
   ·refine .g (.qn z (.ret ?_))
    cases h
    exact ⟨by simp,z,ac (vs:=[_]) () (rt z rn) z (s.to [])⟩
   refine .skip (.region (.q z (.q z (.q z (.nil ?_)))))
   cases h
   exact ⟨z,sb z,s.to []⟩
  refine .exit ?_
  cases h
  exact ⟨by simp,z,sb z,s.to []⟩
 intro x E W hJ
 rcases y1 with o3 | o4
 ·obtain ⟨rfl,hF⟩:=hJ
  refine ⟨_,λ_ _ h=>h,?_⟩
  cases h
  exact hF
 obtain ⟨rfl,hE,s⟩:=hJ
 refine ⟨_,hE.sub,?_⟩
 cases h
 exact .g (.q z (.s (a8 (s.keep q_0) u48 z z) z (.q z (.s (a8 (s.keep q_1) u48 z z) z (.q z (.qn z (.ret (ac () (rt z rn) z (s.to [])))))))))
theorem tF {a0:List ah} {a1:List (List Bool)} {v_0:Hd} {v_1:Hd} {S:Nat->Prop} {w:World} {r:Bool×(List (List Bool))} (h:jU a0 a1=some r) (q_0:RV w (Old S w) (sv v_0) 102 5 aq a0) (hO:bQ w [ae (sv v_1) 48 1 (λ(l:List Bool)=>D.row 4 1 (l.map D.bool)) a1] S) (hlt:∀ b,S b->b<w.heap.size):CL 245 #[sv v_0,sv v_1] w (Ret S w (λs:Unit=>.bool r.1) (λs=>[ae (sv v_1) 48 1 (λ(l:List Bool)=>D.row 4 1 (l.map D.bool)) r.2])):=by
 unfold jU at h
 refine au func245 z z ?_
 have s:=Sep.sm hO hlt
 refine .g (.qn z (.g (.qn z (.seq (.g (.q z (.s (a8 (s.keep q_0) u78 z z) z (.q z (.qn z (.block (bv h λy1 hy1 h=>?_)))))))))))
 refine .via (.iter (λs1 E' W'=>aD E' [(0,(sv v_0)),(1,(sv v_1)),(5,.bool s1.1),(6,vi s1.2.1)]/\Sep S w W' [ae (sv v_1) 48 1 (λ(l:List Bool)=>D.row 4 1 (l.map D.bool)) s1.2.2]) (λy2 x E' W'=>x=.exit 0/\aD E' [(5,.bool y2.1)]/\Sep S w W' [ae (sv v_1) 48 1 (λ(l:List Bool)=>D.row 4 1 (l.map D.bool)) y2.2]) hy1 ⟨sb z,s.to [0]⟩ ?_) ?_
 ·intro s1 y3 E W h hI
  obtain ⟨hE,s⟩:=hI
  refine CW.sub hE ?_
  unfold l9 at h
  refine .seq (.g (.q z (.q z (.nil ?_))))
  refine .cs z h ?_ ?_ <;> intro h
  ·refine .skip (bv h λy4 hy4 h=>?_)
   refine .seq (CW.via (R':=λx E' W'=>x=.normal/\aD E' [(0,(sv v_0)),(1,(sv v_1)),(5,.bool y4.1),(6,vi s1.2.1)]/\Sep S w W' [ae (sv v_1) 48 1 (λ(l:List Bool)=>D.row 4 1 (l.map D.bool)) y4.2]) ?_ ?_)
   ·have h:=hy4
    refine .block (.seq (.rk 10 s [0] T.mix ?_))
    intro W s
    have t:=s.to [0]
    refine .tp' 0 z z t (.tp' 1 z z t (bv h λx1 hx1 h=>.ts' 2 z (λW t=>ixv (s.keep q_0) hx1 u78 t102 z z z) t z (.ts' 3 z (λW t=>lde (RV.flat (t.keep q_0) hx1 z) t102 z z z z z) t z (.tp' 4 z z t (.tp' 5 z z t (.tp' 6 z z t (bv h λy5 hy5 h=>.by1 7 z (.cV s func228 (oO hy5 (s.keep q_0) s.lv) z z ?_))))))))
    intro v1 W s
    refine s.an [1] λt=>bv h λy6 hy6 h=>.by1 8 z (.cV s func257 (sn hy6 s.lv) z z ?_)
    intro v2 W s
    refine s.an [2] λt=>.tp' 9 z z t (.done (.g (.q z (.q z (.q z (bv h λx2 hx2 h=>.s (ixv s.p2.lv hx2 u224 t48 z z z) z ?_))))))
    obtain ⟨k1,s⟩:=Sep.ov s.p2 hx2
    obtain ⟨v3,k1,rfl,s⟩:=s.ow
    obtain ⟨rfl,s⟩:=s.oN
    refine .s (lde (s.p1.hcellsv) t48 z z z z z) z (bv h λy7 hy7 h=>.c (.cO s func258 (ur hy7 s.p2.lv s.lv) z z ?_))
    intro W s
    refine .q z (.nil ?_)
    refine .cs z h ?_ ?_ <;> intro h
    ·refine .g (.q z (.q z (.q z (.s (ixh s.p1 hx2 u224 t48 z z z) z (.c (.sthv s.p1 t48 z z z ?_))))))
     intro W s
     refine .nil (.region (.q z (.nil ?_)))
     have s:=Sep.gat (ds:=[.row 4 1 (y6.map D.bool)]) (cs:=[sv v2]) (L1:=[ae (sv v2) 4 1 D.bool y6]) (.row (.nil)) (s.to [2,0,0,0])
     have s:Sep _ _ _ [ae (sv v_1) 48 1 (λ(l:List Bool)=>D.row 4 1 (l.map D.bool)) (s1.2.2.set (Int.toNat s1.2.1) y6),ae (sv v3) 4 1 D.bool x2,ae (sv v1) 4 1 D.bool y5]:=s.bv
     cases h
     exact ⟨z,sb z,s.to [0]⟩
    refine .skip ?_
    have s:=Sep.gat (ds:=[.row 4 1 (x2.map D.bool)]) (cs:=[sv v3]) (L1:=[ae (sv v3) 4 1 D.bool x2]) (.row (.nil)) (s.to [0,0,0,0])
    have s:Sep _ _ _ [ae (sv v_1) 48 1 (λ(l:List Bool)=>D.row 4 1 (l.map D.bool)) s1.2.2,ae (sv v2) 4 1 D.bool y6,ae (sv v1) 4 1 D.bool y5]:=Sep.back0v hx2 s
    cases h
    exact ⟨z,sb z,s.to [0]⟩
   intro x E W hJ
   obtain ⟨rfl,hE,s⟩:=hJ
   refine ⟨_,hE.sub,?_⟩
   refine .region (.q z (.q z (.q z (.nil ?_))))
   cases h
   exact ⟨z,sb z,s.to [0]⟩
  refine .exit ?_
  cases h
  exact ⟨by simp,z,sb z,s.to [0]⟩
 intro x E W hJ
 obtain ⟨rfl,hE,s⟩:=hJ
 refine ⟨_,hE.sub,?_⟩
 cases h
 exact .g (.q z (.qn z (.ret (ac () (rt z rn) z (s.to [0])))))
theorem vY {a0:List ah} {v_0:Hd} {w:World} {r:(List (List Bool))} (h:mF a0=some r) (q_0:RO w v_0 102 5 aq a0):CL 226 #[sv v_0] w (Ret No w (λs:Hd=>(sv s)) (λs=>[ae (sv s) 48 1 (λ(l:List Bool)=>D.row 4 1 (l.map D.bool)) r])):=by
 unfold mF at h
 refine au func226 z z ?_
 have s:=Sep.start w
 refine .g (.qn z (.g (.c (.lg (L1:=[]) [] (λ(l:List Bool)=>D.row 4 1 (l.map D.bool)) u224 t48 (s.to []) z z z (.nil) ?_ z (λ_=>z)))))
 intro v1 W s
 refine .qn z (.seq (.g (.q z (bv h λy1 hy1 h=>.c (.cO s func137 (cF hy1 (s.keep q_0)) z z ?_)))))
 intro W s
 refine .qn z (.cond z (λb=>?_) (λb=>?_))
 ·have h:=aK b h
  cases h
  exact .g (.q z (.qn z (.ret (ac v1 (rt z rn) z (s.to [0])))))
 have h:=aL b h
 refine .skip (.seq (.g (.qn z (.block (bv h λy2 hy2 h=>?_)))))
 refine .via (.iter (λs1 E' W'=>∃ (v4:Hd),aD E' [(0,(sv v_0)),(3,(sv v4)),(4,vi s1.2)]/\Sep No w W' [ae (sv v4) 48 1 (λ(l:List Bool)=>D.row 4 1 (l.map D.bool)) s1.1]) (λy3 x E' W'=>x=.exit 0/\∃ (v5:Hd),aD E' [(0,(sv v_0)),(3,(sv v5))]/\Sep No w W' [ae (sv v5) 48 1 (λ(l:List Bool)=>D.row 4 1 (l.map D.bool)) y3]) hy2 ⟨v1,sb z,s.to [0]⟩ ?_) ?_
 ·intro s1 y4 E W h hI
  obtain ⟨v3,hE,s⟩:=hI
  refine CW.sub hE ?_
  unfold nl at h
  refine .seq (.g (.q z (.q z (.s (a8 (s.keep q_0) u78 z z) z (.q z (.nil ?_))))))
  refine .cs z h ?_ ?_ <;> intro h
  ·refine .skip (.seq (.block (.region (.q z (bv h λr1 hr1 h=>.c (.mkv false D.bool hr1 u48 t4 s z z z z z (λ_=>z) ?_))))))
   intro v6 W s
   refine .c (.lg (L1:=[ae (sv v6) 4 1 D.bool r1]) [r1] (λ(l:List Bool)=>D.row 4 1 (l.map D.bool)) u224 t48 (s.to [0,0]) z z z (.row (.nil)) ?_ z (λ_=>z))
   intro v7 W s
   refine bv h λr2 hr2 h=>.c (.appv hr2 (s.to [1,0]) u224 t48 z z z ?_)
   intro v8 W s
   refine .qn z (.region (.q z (.q z (.q z (.nil ?_)))))
   cases h
   exact ⟨z,v8,sb z,s.to [0]⟩
  refine .exit ?_
  cases h
  exact ⟨by simp,z,v3,sb z,s.to [0]⟩
 intro x E W hJ
 obtain ⟨rfl,v9,hE,s⟩:=hJ
 refine ⟨_,hE.sub,?_⟩
 refine .seq (.block (bv h λy5 hy5 h=>?_))
 refine .via (.iter (λs2 E' W'=>aD E' [(0,(sv v_0)),(3,(sv v9))]/\Sep No w W' [ae (sv v9) 48 1 (λ(l:List Bool)=>D.row 4 1 (l.map D.bool)) s2]) (λy6 x E' W'=>x=.exit 2/\aD E' [(3,(sv v9))]/\Sep No w W' [ae (sv v9) 48 1 (λ(l:List Bool)=>D.row 4 1 (l.map D.bool)) y6]) hy5 ⟨sb z,s.to [0]⟩ ?_) ?_
 ·intro s2 y7 E W h hI
  obtain ⟨hE,s⟩:=hI
  refine CW.sub hE ?_
  unfold nm at h
  refine .seq (.g (.q z (.q z (bv h λy8 hy8 h=>.c (.cS (L0:=[ae (sv v9) 48 1 (λ(l:List Bool)=>D.row 4 1 (l.map D.bool)) s2]) s func245 (λS h1 h2 h3=>(tF hy8 (s.ks q_0 h1) h2 (zz h1))) z z ?_)))))
  rintro ⟨⟩ W s
  refine .nil ?_
  refine .cs z h ?_ ?_ <;> intro h
  ·refine .skip (.block (.skip ?_))
   cases h
   exact ⟨z,sb z,s.to [0]⟩
  refine .exit ?_
  cases h
  exact ⟨by simp,z,sb z,s.to [0]⟩
 intro x E W hJ
 obtain ⟨rfl,hE,s⟩:=hJ
 refine ⟨_,hE.sub,?_⟩
 obtain rfl:=o9 h
 exact .g (.q z (.qn z (.ret (ac v9 (rt z rn) z (s.to [0])))))
theorem us {a0:ah} {a1:List Bool} {v_1:Hd} {w:World} {r:Bool} (h:kS a0 a1=some r) (q_1:RO w v_1 4 1 D.bool a1):CL 227 #[.agg #[vi a0.Op,vi a0.Dst,vi a0.A,vi a0.B,vi a0.N],sv v_1] w (RU w (.bool r)):=by
 unfold kS at h
 refine au func227 z z ?_
 have s:=Sep.start w
 refine .g (.c (.box s z z ?_))
 intro g1 W s
 refine .qn z (.seq (.g (.s (fa f102_0 z z z) z (.s (ld T.t3 s z z z z z) z (.nil (.block (bv h λy1 hy1 h=>?_)))))))
 refine .seq (CW.via (R':=λx E' W'=>x=.normal/\aD E' [(1,(sv v_1)),(2,Pt g1),(7,.bool y1)]/\Sep No w W' [.box g1 102 [vi a0.Op,vi a0.Dst,vi a0.A,vi a0.B,vi a0.N]]) ?_ ?_)
 ·have h:=hy1
  refine .g (.q z (.q z (.nil ?_)))
  refine .cs z h ?_ ?_ <;> intro h
  ·refine .skip ?_
   cases h
   exact ⟨z,sb z,s.to [0]⟩
  refine .g (.q z (.q z (.nil ?_)))
  refine .cs z h ?_ ?_ <;> intro h
  ·refine .skip ?_
   cases h
   exact ⟨z,sb z,s.to [0]⟩
  refine .region (.q z (.q z (.nil ?_)))
  cases h
  exact ⟨z,sb z,s.to [0]⟩
 intro x E W hJ
 obtain ⟨rfl,hE,s⟩:=hJ
 refine ⟨_,hE.sub,?_⟩
 refine .cs z h ?_ ?_ <;> intro h
 ·refine .g (.q z (.s (fa f102_1 z z z) z (.s (ld T.t3 s z z z z z) z (bv h λx1 hx1 h=>.s (ixv (s.keep q_1) hx1 u48 t4 z z z) z (.s (lde (RV.flat (s.keep q_1) hx1 z) t4 z z z z z) z (.q z (.qn z (.ret ?_))))))))
  cases h
  exact ac () (rt z rn) z (s.to [])
 obtain rfl:=o9 h
 exact .skip (.g (.qn z (.ret (ac () (rt z rn) z (s.to [])))))
theorem tG {a0:List ah} {v_0:Hd} {w:World} {r:(List ah)×Bool} (h:jV a0=some r) (q_0:RO w v_0 102 5 aq a0):CL 203 #[sv v_0] w (Ret No w (λs:Hd=>.tuple #[sv s,.bool r.2]) (λs=>[ae (sv s) 102 5 aq r.1])):=by
 unfold jV at h
 refine au func203 z z ?_
 have s:=Sep.start w
 refine .g (.q z (.qn z (.g (.c (.liv [] aq u78 t102 s z z z z ?_ z (λ_=>z))))))
 intro v1 W s
 refine .qn z (.seq (.g (.q z (bv h λy1 hy1 h=>.c (.cO s func137 (cF hy1 (s.keep q_0)) z z ?_)))))
 intro W s
 refine .q z (.nil ?_)
 refine .cs z h ?_ ?_ <;> intro h
 ·cases h
  exact .g (.q z (.q z (.qn z (.ret (ac (vs:=[_,_]) v1 (rt z (rt z rn)) z (s.to [0]))))))
 refine .skip (.g (.q z (bv h λy2 hy2 h=>.c (.cV s func226 (vY hy2 (s.keep q_0)) z z ?_))))
 intro v2 W s
 refine .qn z (.seq (.g (.qn z (.block (bv h λy3 hy3 h=>?_)))))
 refine .via (.iter (λs1 E' W'=>∃ (v5:Hd),aD E' [(0,(sv v_0)),(4,(sv v5)),(5,(sv v2)),(6,vi s1.2)]/\Sep No w W' [ae (sv v2) 48 1 (λ(l:List Bool)=>D.row 4 1 (l.map D.bool)) y2,ae (sv v5) 102 5 aq s1.1]) (λy4 x E' W'=>x=.exit 0/\∃ (v6:Hd),aD E' [(4,(sv v6))]/\Sep No w W' [ae (sv v2) 48 1 (λ(l:List Bool)=>D.row 4 1 (l.map D.bool)) y2,ae (sv v6) 102 5 aq y4]) hy3 ⟨v1,sb z,s.to [0,0]⟩ ?_) ?_
 ·intro s1 y5 E W h hI
  obtain ⟨v4,hE,s⟩:=hI
  refine CW.sub hE ?_
  unfold jn at h
  refine .seq (.g (.q z (.q z (.s (a8 (s.keep q_0) u78 z z) z (.q z (.nil ?_))))))
  refine .cs z h ?_ ?_ <;> intro h
  ·refine .skip (.seq (.block (.g (.q z (.q z (bv h λx1 hx1 h=>.s (ixv (s.keep q_0) hx1 u78 t102 z z z) z (.s (lde (RV.flat (s.keep q_0) hx1 z) t102 z z z z z) z (.c (.alloc t102 s ?_)))))))))
   intro g1 W s
   refine .c (.st t102 s z z z ?_)
   intro W s
   refine .nil (bv h λy6 hy6 h=>?_)
   refine .seq (CW.via (R':=λx E' W'=>x=.normal/\aD E' [(0,(sv v_0)),(4,(sv v4)),(5,(sv v2)),(6,vi s1.2),(7,Pt g1)]/\Sep No w W' [.box g1 102 [vi y6.Op,vi y6.Dst,vi y6.A,vi y6.B,vi y6.N],ae (sv v2) 48 1 (λ(l:List Bool)=>D.row 4 1 (l.map D.bool)) y2,ae (sv v4) 102 5 aq s1.1]) ?_ ?_)
   ·have h:=hy6
    refine .seq (.rk 6 s [0,0,0] T.mix ?_)
    intro W s
    have t:=s.to [0,0,0]
    refine .ts' 0 z (λW t=>ld t102 t z z z z z) t z (.tp' 1 z z t (.tp' 2 z z t (.tp' 3 z z t (bv h λy7 hy7 h=>.by1 4 z (.cV s func228 (oO hy7 (s.keep q_0) s.p1.lv) z z ?_)))))
    intro v7 W s
    refine s.an [1,1,1] λt=>bv h λy8 hy8 h=>.by1 5 z (.cO s func227 (us hy8 s.lv) z z ?_)
    intro W s
    refine s.an [1,1,1] λt=>.done ?_
    refine .cs z h ?_ ?_ <;> intro h
    ·refine .region (.q z (.q z (.s (bs T.s102 z z) z (.c (.st t102 s.p1 z z z ?_)))))
     intro W s
     refine .nil ?_
     cases h
     exact ⟨z,sb z,s.to [0,1,1]⟩
    refine .skip ?_
    obtain rfl:=o9 h
    exact ⟨z,sb z,s.to [1,1,1]⟩
   intro x E W hJ
   obtain ⟨rfl,hE,s⟩:=hJ
   refine ⟨_,hE.sub,?_⟩
   refine .region (.q z (.s (ld t102 s z z z z z) z (.c (.liv [y6] aq u78 t102 s z z z z ?_ z (λ_=>z)))))
   intro v8 W s
   refine bv h λr1 hr1 h=>?_
   have hT0:=s.p3
   refine .c (.av hr1 hT0 hT0.p1.lv (λ_=>z) u78 t102 z z z ?_)
   intro v9 W s
   refine .qn z (.region (.q z (.q z (.q z (.nil ?_)))))
   cases h
   exact ⟨z,v9,sb z,s.to [3,0]⟩
  refine .exit ?_
  cases h
  exact ⟨by simp,z,v4,sb z,s.to [0,0]⟩
 intro x E W hJ
 obtain ⟨rfl,v10,hE,s⟩:=hJ
 refine ⟨_,hE.sub,?_⟩
 cases h
 exact .g (.q z (.q z (.qn z (.ret (ac (vs:=[_,_]) v10 (rt z (rt z rn)) z (s.to [1]))))))
theorem so {a0:List ah} {a1:List Bool} {v_0:Hd} {v_1:Hd} {S:Nat->Prop} {w:World} {r:Bool×(List Bool)} (h:iY a0 a1=some r) (q_0:RV w (Old S w) (sv v_0) 102 5 aq a0) (hO:bQ w [ae (sv v_1) 4 1 D.bool a1] S) (hlt:∀ b,S b->b<w.heap.size):CL 247 #[sv v_0,sv v_1] w (Ret S w (λs:Unit=>.bool r.1) (λs=>[ae (sv v_1) 4 1 D.bool r.2])):=by
 unfold iY at h
 refine au func247 z z ?_
 have s:=Sep.sm hO hlt
 refine .g (.qn z (.g (.qn z (.seq (.g (.qn z (.block (bv h λy1 hy1 h=>?_))))))))
 refine .via (.iter (λs1 E' W'=>aD E' [(0,(sv v_0)),(1,(sv v_1)),(5,.bool s1.1),(6,vi s1.2.1)]/\Sep S w W' [ae (sv v_1) 4 1 D.bool s1.2.2]) (λy2 x E' W'=>x=.exit 0/\aD E' [(5,.bool y2.1)]/\Sep S w W' [ae (sv v_1) 4 1 D.bool y2.2]) hy1 ⟨sb z,s.to [0]⟩ ?_) ?_
 ·intro s1 y3 E W h hI
  obtain ⟨hE,s⟩:=hI
  refine CW.sub hE ?_
  unfold kU at h
  refine .seq (.g (.q z (.q z (.s (a8 (s.keep q_0) u78 z z) z (.q z (.nil ?_))))))
  refine .cs z h ?_ ?_ <;> intro h
  ·refine .skip (bv h λy4 hy4 h=>?_)
   refine .seq (CW.via (R':=λx E' W'=>x=.normal/\aD E' [(0,(sv v_0)),(1,(sv v_1)),(5,.bool y4.1),(6,vi s1.2.1)]/\Sep S w W' [ae (sv v_1) 4 1 D.bool y4.2]) ?_ ?_)
   ·have h:=hy4
    refine .block (.seq (.g (.q z (.q z (bv h λx1 hx1 h=>.s (ixv s.lv hx1 u48 t4 z z z) z (.s (lde (RV.flat s.lv hx1 z) t4 z z z z z) z (.q z (.nil ?_))))))))
    refine .cs z h ?_ ?_ <;> intro h
    ·refine .exit ?_
     cases h
     exact ⟨z,sb z,s.to [0]⟩
    refine .skip (.g (.q z (.q z (bv h λy5 hy5 h=>.c (.cV s func246 (kf hy5 (s.keep q_0)) z z ?_)))))
    intro v1 W s
    refine .qn z (.g (.qn z (.block (bv h λy6 hy6 h=>?_))))
    refine .via (.iter (λs2 E' W'=>aD E' [(0,(sv v_0)),(1,(sv v_1)),(5,.bool s2.1),(6,vi s1.2.1),(7,(sv v1)),(8,vi s2.2.1)]/\Sep S w W' [ae (sv v1) 3 1 (D.int .i64) y5,ae (sv v_1) 4 1 D.bool s2.2.2]) (λy7 x E' W'=>x=.exit 2/\aD E' [(0,(sv v_0)),(1,(sv v_1)),(5,.bool y7.1),(6,vi s1.2.1)]/\Sep S w W' [ae (sv v1) 3 1 (D.int .i64) y5,ae (sv v_1) 4 1 D.bool y7.2]) hy6 ⟨sb z,s.to [0,0]⟩ ?_) ?_
    ·intro s2 y8 E W h hI
     obtain ⟨hE,s⟩:=hI
     refine CW.sub hE ?_
     unfold kT at h
     refine .seq (.g (.q z (.q z (.s (a8 s.lv u23 z z) z (.q z (.nil ?_))))))
     refine .cs z h ?_ ?_ <;> intro h
     ·refine .skip (bv h λy9 hy9 h=>?_)
      refine .seq (CW.via (R':=λx E' W'=>x=.normal/\aD E' [(0,(sv v_0)),(1,(sv v_1)),(5,.bool y9.1),(6,vi s1.2.1),(7,(sv v1)),(8,vi s2.2.1)]/\Sep S w W' [ae (sv v1) 3 1 (D.int .i64) y5,ae (sv v_1) 4 1 D.bool y9.2]) ?_ ?_)
      ·have h:=hy9
       refine .block (.g (.q z (.q z (.q z (bv h λx2 hx2 h=>.s (ixv s.lv hx2 u23 T.t3 z z z) z (.s (lde (RV.flat s.lv hx2 z) T.t3 z z z z z) z (bv h λx3 hx3 h=>.s (ixv s.p1.lv hx3 u48 t4 z z z) z (.s (lde (RV.flat s.p1.lv hx3 z) t4 z z z z z) z (.q z (.nil ?_))))))))))
       refine .cs z h ?_ ?_ <;> intro h
       ·refine .g (.q z (.q z (.q z (bv h λx4 hx4 h=>.s (ixv s.lv hx4 u23 T.t3 z z z) z (.s (lde (RV.flat s.lv hx4 z) T.t3 z z z z z) z (bv h λx5 hx5 h=>.s (ixv s.p1.lv hx5 u48 t4 z z z) z (bv h λr1 hr1 h=>.c (.sev hr1 hx5 s.p1 t4 z z z z z z ?_))))))))
        intro W s
        refine .nil (.region (.q z (.nil ?_)))
        cases h
        exact ⟨z,sb z,s.to [1,0]⟩
       refine .skip ?_
       cases h
       exact ⟨z,sb z,s.to [0,0]⟩
      intro x E W hJ
      obtain ⟨rfl,hE,s⟩:=hJ
      refine ⟨_,hE.sub,?_⟩
      refine .region (.q z (.q z (.q z (.nil ?_))))
      cases h
      exact ⟨z,sb z,s.to [0,0]⟩
     refine .exit ?_
     cases h
     exact ⟨by simp,z,sb z,s.to [0,0]⟩
    intro x E W hJ
    obtain ⟨rfl,hE,s⟩:=hJ
    refine ⟨_,hE.sub,?_⟩
    cases h
    exact ⟨z,sb z,s.to [1]⟩
   intro x E W hJ
   obtain ⟨rfl,hE,s⟩:=hJ
   refine ⟨_,hE.sub,?_⟩
   refine .region (.q z (.q z (.q z (.nil ?_))))
   cases h
   exact ⟨z,sb z,s.to [0]⟩
  refine .exit ?_
  cases h
  exact ⟨by simp,z,sb z,s.to [0]⟩
 intro x E W hJ
 obtain ⟨rfl,hE,s⟩:=hJ
 refine ⟨_,hE.sub,?_⟩
 cases h
 exact .g (.q z (.qn z (.ret (ac () (rt z rn) z (s.to [0])))))
theorem sq {a0:List ah} {v_0:Hd} {w:World} {r:(List Bool)} (h:iZ a0=some r) (q_0:RO w v_0 102 5 aq a0):CL 229 #[sv v_0] w (Ret No w (λs:Hd=>(sv s)) (λs=>[ae (sv s) 4 1 D.bool r])):=by
 unfold iZ at h
 refine au func229 z z ?_
 have s:=Sep.start w
 refine .g (.qn z (.seq (.g (.q z (bv h λy1 hy1 h=>.c (.cO s func137 (cF hy1 (s.keep q_0)) z z ?_))))))
 intro W s
 refine .qn z (.cond z (λb=>?_) (λb=>?_))
 ·have h:=aK b h
  refine .g (.c (.liv [] D.bool u48 t4 s z z z z ?_ z (λ_=>z)))
  intro v1 W s
  cases h
  exact .qn z (.ret (ac v1 (rt z rn) z (s.to [0])))
 have h:=aL b h
 refine .skip (.g (.q z (.s (a8 (s.keep q_0) u78 z z) z (bv h λr1 hr1 h=>.c (.mkv false D.bool hr1 u48 t4 s z z z z z (λ_=>z) ?_)))))
 intro v2 W s
 refine .qn z (.g (.q z (bv h λx1 hx1 h=>.s (ixv s.lv hx1 u48 t4 z z z) z (bv h λr2 hr2 h=>.c (.sev hr2 hx1 s t4 z z z z z z ?_)))))
 intro W s
 refine .nil (.seq (.block (bv h λy2 hy2 h=>?_)))
 refine .via (.iter (λs1 E' W'=>aD E' [(0,(sv v_0)),(3,(sv v2))]/\Sep No w W' [ae (sv v2) 4 1 D.bool s1]) (λy3 x E' W'=>x=.exit 0/\aD E' [(3,(sv v2))]/\Sep No w W' [ae (sv v2) 4 1 D.bool y3]) hy2 ⟨sb z,s.to [0]⟩ ?_) ?_
 ·intro s1 y4 E W h hI
  obtain ⟨hE,s⟩:=hI
  refine CW.sub hE ?_
  unfold kV at h
  refine .seq (.g (.q z (.q z (bv h λy5 hy5 h=>.c (.cS (L0:=[ae (sv v2) 4 1 D.bool s1]) s func247 (λS h1 h2 h3=>(so hy5 (s.ks q_0 h1) h2 (zz h1))) z z ?_)))))
  rintro ⟨⟩ W s
  refine .nil ?_
  refine .cs z h ?_ ?_ <;> intro h
  ·refine .skip (.block (.skip ?_))
   cases h
   exact ⟨z,sb z,s.to [0]⟩
  refine .exit ?_
  cases h
  exact ⟨by simp,z,sb z,s.to [0]⟩
 intro x E W hJ
 obtain ⟨rfl,hE,s⟩:=hJ
 refine ⟨_,hE.sub,?_⟩
 obtain rfl:=o9 h
 exact .g (.q z (.qn z (.ret (ac v2 (rt z rn) z (s.to [0])))))
theorem ut {a0:ah} {a1:Int} {w:World} {r:Bool} (h:kW a0 a1=some r):CL 230 #[.agg #[vi a0.Op,vi a0.Dst,vi a0.A,vi a0.B,vi a0.N],vi a1] w (RU w (.bool r)):=by
 unfold kW at h
 refine au func230 z z ?_
 have s:=Sep.start w
 refine .g (.c (.box s z z ?_))
 intro g1 W s
 refine .qn z (.seq (.g (.s (fa f102_0 z z z) z (.s (ld T.t3 s z z z z z) z (.nil (.block (bv h λy1 hy1 h=>?_)))))))
 refine .seq (CW.via (R':=λx E' W'=>x=.normal/\aD E' [(1,vi a1),(2,Pt g1),(6,vi a0.Op),(7,.bool y1)]/\Sep No w W' [.box g1 102 [vi a0.Op,vi a0.Dst,vi a0.A,vi a0.B,vi a0.N]]) ?_ ?_)
 ·have h:=hy1
  refine .g (.q z (.q z (.nil ?_)))
  refine .cs z h ?_ ?_ <;> intro h
  ·refine .skip ?_
   cases h
   exact ⟨z,sb z,s.to [0]⟩
  refine .region (.q z (.q z (.nil ?_)))
  cases h
  exact ⟨z,sb z,s.to [0]⟩
 intro x E W hJ
 obtain ⟨rfl,hE,s⟩:=hJ
 refine ⟨_,hE.sub,?_⟩
 refine .cs z h ?_ ?_ <;> intro h
 ·cases h
  exact .g (.s (fa f102_4 z z z) z (.s (ld T.t3 s z z z z z) z (.q z (.q z (.q z (.qn z (.ret (ac () (rt z rn) z (s.to [])))))))))
 refine .g (.q z (.q z (.nil ?_)))
 refine .cs z h ?_ ?_ <;> intro h
 ·cases h
  exact .g (.s (fa f102_1 z z z) z (.s (ld T.t3 s z z z z z) z (.s (fa f102_2 z z z) z (.s (ld T.t3 s z z z z z) z (.q z (.qn z (.ret (ac () (rt z rn) z (s.to [])))))))))
 obtain rfl:=o9 h
 exact .skip (.g (.qn z (.ret (ac () (rt z rn) z (s.to [])))))
theorem tH {a0:List Bool} {a1:Int} {v_0:Hd} {w:World} {r:Int} (h:jW a0 a1=some r) (q_0:RO w v_0 4 1 D.bool a0):CL 231 #[sv v_0,vi a1] w (RU w (.int .i64 r)):=by
 unfold jW at h
 refine au func231 z z ?_
 have s:=Sep.start w
 refine .g (.qn z (.g (.qn z (.seq (.g (.qn z (.block (bv h λy1 hy1 h=>?_))))))))
 refine .via (.iter (λs1 E' W'=>aD E' [(0,(sv v_0)),(1,vi a1),(5,vi s1.1),(6,vi s1.2)]/\Sep No w W' []) (λy2 x E' W'=>x=.exit 0/\aD E' [(5,vi y2)]/\Sep No w W' []) hy1 ⟨sb z,s.to []⟩ ?_) ?_
 ·intro s1 y3 E W h hI
  obtain ⟨hE,s⟩:=hI
  refine CW.sub hE ?_
  unfold ma at h
  refine .seq (.g (.q z (.q z (.q z (.nil ?_)))))
  refine .cs z h ?_ ?_ <;> intro h
  ·refine .skip (bv h λy4 hy4 h=>?_)
   refine .seq (CW.via (R':=λx E' W'=>x=.normal/\aD E' [(0,(sv v_0)),(1,vi a1),(5,vi y4),(6,vi s1.2)]/\Sep No w W' []) ?_ ?_)
   ·have h:=hy4
    refine .block (.g (.q z (.q z (bv h λx1 hx1 h=>.s (ixv (s.keep q_0) hx1 u48 t4 z z z) z (.s (lde (RV.flat (s.keep q_0) hx1 z) t4 z z z z z) z (.nil ?_))))))
    refine .cs z h ?_ ?_ <;> intro h
    ·refine .region (.q z (.q z (.q z (.nil ?_))))
     cases h
     exact ⟨z,sb z,s.to []⟩
    refine .skip ?_
    cases h
    exact ⟨z,sb z,s.to []⟩
   intro x E W hJ
   obtain ⟨rfl,hE,s⟩:=hJ
   refine ⟨_,hE.sub,?_⟩
   refine .region (.q z (.q z (.q z (.nil ?_))))
   cases h
   exact ⟨z,sb z,s.to []⟩
  refine .exit ?_
  cases h
  exact ⟨by simp,z,sb z,s.to []⟩
 intro x E W hJ
 obtain ⟨rfl,hE,s⟩:=hJ
 refine ⟨_,hE.sub,?_⟩
 obtain rfl:=o9 h
 exact .g (.q z (.qn z (.ret (ac () (rt z rn) z (s.to [])))))
theorem qJ {a0:List ah} {v_0:Hd} {w:World} {r:(List ah)×Bool} (h:gn a0=some r) (q_0:RO w v_0 102 5 aq a0):CL 204 #[sv v_0] w (Ret No w (λs:Hd=>.tuple #[sv s,.bool r.2]) (λs=>[ae (sv s) 102 5 aq r.1])):=by
 unfold gn at h
 refine au func204 z z ?_
 have s:=Sep.start w
 refine .g (.q z (.qn z (.g (.c (.liv [] aq u78 t102 s z z z z ?_ z (λ_=>z))))))
 intro v1 W s
 refine .qn z (.seq (.g (.q z (bv h λy1 hy1 h=>.c (.cO s func137 (cF hy1 (s.keep q_0)) z z ?_)))))
 intro W s
 refine .q z (.nil ?_)
 refine .cs z h ?_ ?_ <;> intro h
 ·cases h
  exact .g (.q z (.q z (.qn z (.ret (ac (vs:=[_,_]) v1 (rt z (rt z rn)) z (s.to [0]))))))
 refine .skip (.g (.q z (bv h λy2 hy2 h=>.c (.cV s func229 (sq hy2 (s.keep q_0)) z z ?_))))
 intro v2 W s
 refine .qn z (.seq (.g (.qn z (.block (bv h λy3 hy3 h=>?_)))))
 refine .via (.iter (λs1 E' W'=>aD E' [(0,(sv v_0)),(4,(sv v1)),(5,(sv v2)),(6,vi s1.1)]/\Sep No w W' [ae (sv v2) 4 1 D.bool s1.2,ae (sv v1) 102 5 aq []]) (λy4 x E' W'=>x=.exit 0/\aD E' [(0,(sv v_0)),(4,(sv v1)),(5,(sv v2))]/\Sep No w W' [ae (sv v2) 4 1 D.bool y4,ae (sv v1) 102 5 aq []]) hy3 ⟨sb z,s.to [0,0]⟩ ?_) ?_
 ·intro s1 y5 E W h hI
  obtain ⟨hE,s⟩:=hI
  refine CW.sub hE ?_
  unfold jD at h
  refine .seq (.g (.q z (.q z (.s (a8 (s.keep q_0) u78 z z) z (.q z (.nil ?_))))))
  refine .cs z h ?_ ?_ <;> intro h
  ·refine .skip (.seq (.block (.region (.q z (.q z (.q z (.q z (bv h λx1 hx1 h=>.s (ixv s.lv hx1 u48 t4 z z z) z (.s (lde (RV.flat s.lv hx1 z) t4 z z z z z) z (.q z (bv h λb1 hb1 h=>.cu 8 36 (b1) s ?_ ?_)))))))))))
   ·refine .both (x1) (λb=>?_) (λb=>?_)
    ·have hg1:=b
     have h:=aK b hb1
     refine .g hg1 (.q z (.g hg1 (.q z (bv h λx2 hx2 h=>.g hg1 (.s (ixv (s.keep q_0) hx2 u78 t102 z z z) z (.g hg1 (.s (lde (RV.flat (s.keep q_0) hx2 z) t102 z z z z z) z (.g hg1 (.q z (bv h λy6 hy6 h=>.g hg1 (.c (.cO s func230 (ut hy6) z z ?_))))))))))))
     intro W s
     refine .g hg1 (.q z (.s (pkt hg1 z z z) z ?_))
     cases h
     exact .nil (ck 8 s)
    refine .xx b z (.xx b z (.xx b z (.xx b z (.xx b z (.xx b z (.xx b z ?_))))))
    cases aL b hb1
    exact .s (pkf b z z z) z (.nil (ck 8 s))
   intro W s
   refine bv h λx3 hx3 h=>.s (ixv s.lv hx3 u48 t4 z z z) z (bv h λr1 hr1 h=>.c (.sev hr1 hx3 s t4 z z z z z z ?_))
   intro W s
   refine .nil (.region (.q z (.q z (.q z (.nil ?_)))))
   cases h
   exact ⟨z,sb z,s.to [0,0]⟩
  refine .exit ?_
  cases h
  exact ⟨by simp,z,sb z,s.to [0,0]⟩
 intro x E W hJ
 obtain ⟨rfl,hE,s⟩:=hJ
 refine ⟨_,hE.sub,?_⟩
 refine .seq (.g (.qn z (.block (bv h λy7 hy7 h=>?_))))
 refine .via (.iter (λs2 E' W'=>∃ (v5:Hd),aD E' [(0,(sv v_0)),(4,(sv v5)),(5,(sv v2)),(7,vi s2.2)]/\Sep No w W' [ae (sv v2) 4 1 D.bool y3,ae (sv v5) 102 5 aq s2.1]) (λy8 x E' W'=>x=.exit 2/\∃ (v6:Hd),aD E' [(4,(sv v6))]/\Sep No w W' [ae (sv v2) 4 1 D.bool y3,ae (sv v6) 102 5 aq y8]) hy7 ⟨v1,sb z,s.to [0,0]⟩ ?_) ?_
 ·intro s2 y9 E W h hI
  obtain ⟨v4,hE,s⟩:=hI
  refine CW.sub hE ?_
  unfold jE at h
  refine .seq (.g (.q z (.q z (.s (a8 (s.keep q_0) u78 z z) z (.q z (.nil ?_))))))
  refine .cs z h ?_ ?_ <;> intro h
  ·refine .skip (bv h λy10 hy10 h=>?_)
   refine .seq (CW.via (R':=λx E' W'=>x=.normal/\∃ (v7:Hd),aD E' [(0,(sv v_0)),(4,(sv v7)),(5,(sv v2)),(7,vi s2.2)]/\Sep No w W' [ae (sv v2) 4 1 D.bool y3,ae (sv v7) 102 5 aq y10]) ?_ ?_)
   ·have h:=hy10
    refine .block (.g (.q z (.q z (bv h λx4 hx4 h=>.s (ixv (s.keep q_0) hx4 u78 t102 z z z) z (.s (lde (RV.flat (s.keep q_0) hx4 z) t102 z z z z z) z (.c (.alloc t102 s ?_)))))))
    intro g1 W s
    refine .c (.st t102 s z z z ?_)
    intro W s
    refine .nil (.seq (.g (.q z (.q z (bv h λx5 hx5 h=>.s (ixv s.p1.lv hx5 u48 t4 z z z) z (.s (lde (RV.flat s.p1.lv hx5 z) t4 z z z z z) z (.q z (.nil ?_))))))))
    refine .cs z h ?_ ?_ <;> intro h
    ·refine .exit ?_
     cases h
     exact ⟨z,v4,sb z,s.to [1,1]⟩
    refine .skip (bv h λy11 hy11 h=>?_)
    refine .seq (CW.via (R':=λx E' W'=>x=.normal/\aD E' [(0,(sv v_0)),(4,(sv v4)),(5,(sv v2)),(7,vi s2.2),(8,Pt g1)]/\Sep No w W' [.box g1 102 [vi y11.Op,vi y11.Dst,vi y11.A,vi y11.B,vi y11.N],ae (sv v2) 4 1 D.bool y3,ae (sv v4) 102 5 aq s2.1]) ?_ ?_)
    ·have h:=hy11
     refine .g (.s (fa f102_0 z z z) z (.s (ld T.t3 s z z z z z) z (.q z (.q z (.cu 4 60 ((x4.Op==4)||(x4.Op==5)) s ?_ ?_)))))
     ·refine .both (x4.Op==4) (λb=>?_) (λb=>?_)
      ·exact .xx b z (.xx b z (.xx b z (.s (pkt b z z z) z (.nil (ck 4 s z (ff b))))))
      have hg2:=b
      exact .g hg2 (.s (fa f102_0 z z z) z (.g hg2 (.s (ld T.t3 s z z z z z) z (.g hg2 (.q z (.s (pkf hg2 z z z) z (.nil (ck 4 s z (fg hg2)))))))))
     intro W s
     refine .nil ?_
     refine .cs z h ?_ ?_ <;> intro h
     ·refine .region (.q z (.s (fa f102_4 z z z) z (.s (ld T.t3 s z z z z z) z (bv h λy12 hy12 h=>.c (.cO s func231 (tH hy12 s.p1.lv) z z ?_)))))
      intro W s
      refine .s (fa f102_4 z z z) z (.c (.st T.t3 s z z z ?_))
      intro W s
      refine .nil ?_
      cases h
      exact ⟨z,sb z,s.to [0,0,0]⟩
     refine .skip ?_
     obtain rfl:=o9 h
     exact ⟨z,sb z,s.to [0,0,0]⟩
    intro x E W hJ
    obtain ⟨rfl,hE,s⟩:=hJ
    refine ⟨_,hE.sub,?_⟩
    refine .region (.q z (.s (ld t102 s z z z z z) z (.c (.liv [y11] aq u78 t102 s z z z z ?_ z (λ_=>z)))))
    intro v8 W s
    refine bv h λr2 hr2 h=>?_
    have hT0:=s.p3
    refine .c (.av hr2 hT0 hT0.p1.lv (λ_=>z) u78 t102 z z z ?_)
    intro v9 W s
    refine .q z (.nil ?_)
    obtain rfl:=o9 h
    exact ⟨z,v9,sb z,s.to [3,0]⟩
   intro x E W hJ
   obtain ⟨rfl,v10,hE,s⟩:=hJ
   refine ⟨_,hE.sub,?_⟩
   refine .region (.q z (.q z (.q z (.nil ?_))))
   cases h
   exact ⟨z,v10,sb z,s.to [0,0]⟩
  refine .exit ?_
  cases h
  exact ⟨by simp,z,v4,sb z,s.to [0,0]⟩
 intro x E W hJ
 obtain ⟨rfl,v11,hE,s⟩:=hJ
 refine ⟨_,hE.sub,?_⟩
 cases h
 exact .g (.q z (.q z (.qn z (.ret (ac (vs:=[_,_]) v11 (rt z (rt z rn)) z (s.to [1]))))))
theorem uv {a0:List ah} {v_0:Hd} {w:World} {r:(List ah)} (h:kX a0=some r) (q_0:RO w v_0 102 5 aq a0):CL 177 #[sv v_0] w (Ret No w (λs:Hd=>(sv s)) (λs=>[ae (sv s) 102 5 aq r])):=by
 unfold kX at h
 refine au func177 z z ?_
 have s:=Sep.start w
 refine .g (.qn z (.g (.q z (bv h λy1 hy1 h=>.c (.cV s func200 (tv hy1 (s.keep q_0)) z z ?_)))))
 intro v1 W s
 refine .q z (.q z (.q z (.q z (.qn z (.g (.q z (bv h λy2 hy2 h=>.c (.cV s func201 (tB hy2 s.lv) z z ?_))))))))
 intro v2 W s
 refine .q z (.q z (.q z (.q z (.qn z (.g (.q z (bv h λy3 hy3 h=>.c (.cV s func202 (tD hy3 s.lv) z z ?_))))))))
 intro v3 W s
 refine .q z (.q z (.q z (.q z (.qn z (.g (.q z (bv h λy4 hy4 h=>.c (.cV s func203 (tG hy4 s.lv) z z ?_))))))))
 intro v4 W s
 refine .q z (.q z (.q z (.q z (.qn z (.g (.q z (bv h λy5 hy5 h=>.c (.cV s func204 (qJ hy5 s.lv) z z ?_))))))))
 intro v5 W s
 cases h
 exact .q z (.q z (.q z (.q z (.qn z (.g (.q z (.qn z (.ret (ac v5 (rt z rn) z (s.to [0]))))))))))
theorem qd {a0:List ah} {a1:Int} {v_0:Hd} {w:World} {r:(List ah)×Bool} (h:fP a0 a1=some r) (q_0:RO w v_0 102 5 aq a0):CL 132 #[sv v_0,vi a1] w (Ret No w (λs:Hd=>.tuple #[sv s,.bool r.2]) (λs=>[ae (sv s) 102 5 aq r.1])):=by
 unfold fP at h
 refine au func132 z z ?_
 have s:=Sep.start w
 refine .g (.q z (.qn z (.seq (.g (.q z (bv h λy1 hy1 h=>.c (.cO s func137 (cF hy1 (s.keep q_0)) z z ?_)))))))
 intro W s
 refine .q z (.q z (bv h λb1 hb1 h=>.cu 4 15 (b1) s ?_ ?_))
 ·refine .both (!y1) (λb=>?_) (λb=>?_)
  ·refine .xx b z (.xx b z (.xx b z ?_))
   cases aK b hb1
   exact .s (pkt b z z z) z (.nil (ck 4 s))
  have hg1:=b
  have h:=aL b hb1
  refine .g hg1 (.q z (bv h λy2 hy2 h=>.g hg1 (.c (.cO s func32 (cE hy2) z z ?_))))
  intro W s
  refine .g hg1 (.q z (.s (pkf hg1 z z z) z ?_))
  cases h
  exact .nil (ck 4 s)
 intro W s
 refine .nil ?_
 refine .cs z h ?_ ?_ <;> intro h
 ·refine .g (.c (.liv [] aq u78 t102 s z z z z ?_ z (λ_=>z)))
  intro v1 W s
  cases h
  exact .q z (.qn z (.ret (ac (vs:=[_,_]) v1 (rt z (rt z rn)) z (s.to [0]))))
 refine .skip (.g (.c (.liv [] aq u78 t102 s z z z z ?_ z (λ_=>z))))
 intro v2 W s
 refine .q z (bv h λr1 hr1 h=>.c (.av hr1 s (s.keep q_0) (λ_=>z) u78 t102 z z z ?_))
 intro v3 W s
 refine .qn z (.seq (.g (.qn z (.block (bv h λy3 hy3 h=>?_)))))
 refine .via (.iter (λs1 E' W'=>∃ (v6:Hd),aD E' [(1,vi a1),(6,(sv v6)),(7,vi s1.2)]/\Sep No w W' [ae (sv v6) 102 5 aq s1.1]) (λy4 x E' W'=>x=.exit 0/\∃ (v7:Hd),aD E' [(6,(sv v7))]/\Sep No w W' [ae (sv v7) 102 5 aq y4]) hy3 ⟨v3,sb z,s.to [0]⟩ ?_) ?_
 ·intro s1 y5 E W h hI
  obtain ⟨v5,hE,s⟩:=hI
  refine CW.sub hE ?_
  unfold i3 at h
  refine .seq (.g (.q z (.q z (.q z (.nil ?_)))))
  refine .cs z h ?_ ?_ <;> intro h
  ·refine .skip (.seq (.block (.region (.q z (bv h λy6 hy6 h=>.c (.cV s func177 (uv hy6 s.lv) z z ?_))))))
   intro v8 W s
   refine .qn z (.region (.q z (.q z (.q z (.nil ?_)))))
   cases h
   exact ⟨z,v8,sb z,s.to [0]⟩
  refine .exit ?_
  cases h
  exact ⟨by simp,z,v5,sb z,s.to [0]⟩
 intro x E W hJ
 obtain ⟨rfl,v9,hE,s⟩:=hJ
 refine ⟨_,hE.sub,?_⟩
 cases h
 exact .g (.q z (.q z (.qn z (.ret (ac (vs:=[_,_]) v9 (rt z (rt z rn)) z (s.to [0]))))))
theorem uw {k:Nat} {a0:aP} {aw:Hd} {g_0:Nat} {S:Nat->Prop} {w:World} {r:(List ah)×Int} (h:kY k a0=some r) (aN:RV w (Old S w) (sv aw) 5 1 (D.int .u8) a0.b) (hO:bQ w [.box g_0 117 [sv aw,vi a0.p]] S) (hlt:∀ b,S b->b<w.heap.size):CL 82 #[Pt g_0] w (Ret S w (λs:Hd=>(sv s)) (λs=>[.box g_0 117 [sv aw,vi r.2],ae (sv s) 102 5 aq r.1])):=by
 unfold kY at h
 refine au func82 z z ?_
 have s:=Sep.sm hO hlt
 refine .g (.qn z (.seq (.g (.q z (bv h λy1 hy1 h=>.c (.cS (L0:=[.box g_0 117 [sv aw,vi a0.p]]) s func39 (λS h1 h2 h3=>(aj hy1 (s.ks aN h1) h2 (zz h1))) z z ?_))))))
 rintro ⟨⟩ W s
 refine .qn z (.cond z (λb=>?_) (λb=>?_))
 ·have h:=aK b h
  refine .g (.q z (bv h λy2 hy2 h=>.c (.cS (L0:=[.box g_0 117 [sv aw,vi y1.2]]) s func129 (λS h1 h2 h3=>(nW hy2 (s.ks aN h1) h2 (zz h1))) z z ?_)))
  rintro v1 W s
  cases h
  exact .qn z (.ret (ac v1 (rt z rn) z (s.to [0,0])))
 have h:=aL b h
 refine .skip (.g (.q z (bv h λy3 hy3 h=>.c (.cS (L0:=[.box g_0 117 [sv aw,vi y1.2]]) s func131 (λS h1 h2 h3=>(ta hy3 (s.ks aN h1) h2 (zz h1))) z z ?_))))
 rintro v2 W s
 refine bv h λy4 hy4 h=>.c (.cV s func130 (qH hy4 s.p1.lv) z z ?_)
 intro v3 W s
 refine .q z (.q z (.q z (.q z (.qn z (.seq (.g (.q z (.s (a8 s.lv u78 z z) z (.qn z (.cond z (λb=>?_) (λb=>?_)))))))))))
 ·have h:=aK b h
  refine .g (.q z (bv h λy5 hy5 h=>?_))
  have s:=s.p1
  refine .c (.cS (L0:=[.box g_0 117 [sv aw,vi y3.2]]) s func129 (λS h1 h2 h3=>(nW hy5 (s.ks aN h1) h2 (zz h1))) z z ?_)
  rintro v4 W s
  cases h
  exact .qn z (.ret (ac v4 (rt z rn) z (s.to [0,0])))
 have h:=aL b h
 refine .skip (.g (.q z (.q z (bv h λy6 hy6 h=>?_))))
 have s:=s.p1
 refine .c (.cS (L0:=[.box g_0 117 [sv aw,vi y3.2]]) s func39 (λS h1 h2 h3=>(aj hy6 (s.ks aN h1) h2 (zz h1))) z z ?_)
 rintro ⟨⟩ W s
 refine .q z (bv h λy7 hy7 h=>.c (.cV s func132 (qd hy7 s.p1.lv) z z ?_))
 intro v5 W s
 cases h
 exact .q z (.q z (.q z (.q z (.qn z (.g (.q z (.qn z (.ret (ac v5 (rt z rn) z (s.to [1,0]))))))))))
theorem tI {k:Nat} {a0:aP} {aw:Hd} {g_0:Nat} {S:Nat->Prop} {w:World} {r:(List (List ah))×Int} (h:jX k a0=some r) (aN:RV w (Old S w) (sv aw) 5 1 (D.int .u8) a0.b) (hO:bQ w [.box g_0 117 [sv aw,vi a0.p]] S) (hlt:∀ b,S b->b<w.heap.size):CL 40 #[Pt g_0] w (Ret S w (λs:Hd=>(sv s)) (λs=>[.box g_0 117 [sv aw,vi r.2],ae (sv s) 78 1 (λ(l:List ah)=>D.row 102 5 (l.map aq)) r.1])):=by
 unfold jX at h
 refine au func40 z z ?_
 have s:=Sep.sm hO hlt
 refine .g (.qn z (.g (.c (.lg (L1:=[]) [] (λ(l:List ah)=>D.row 102 5 (l.map aq)) u36 t78 (s.to [0]) z z z (.nil) ?_ z (λ_=>z)))))
 intro v1 W s
 refine .qn z (.g (.q z (bv h λy1 hy1 h=>?_)))
 have s:=s.p1
 refine .c (.cS (L0:=[.box g_0 117 [sv aw,vi a0.p]]) s func39 (λS h1 h2 h3=>(aj hy1 (s.ks aN h1) h2 (zz h1))) z z ?_)
 rintro ⟨⟩ W s
 refine .q z (.qn z (.seq (.g (.qn z (.block (bv h λy2 hy2 h=>?_))))))
 refine .via (.iter (λs1 E' W'=>∃ (v4:Hd),aD E' [(0,Pt g_0),(3,(sv v4)),(4,vi (w64 (1+y1.1))),(5,vi s1.2.1)]/\Sep S w W' [.box g_0 117 [sv aw,vi s1.2.2],ae (sv v4) 78 1 (λ(l:List ah)=>D.row 102 5 (l.map aq)) s1.1]) (λy3 x E' W'=>x=.exit 0/\∃ (v5:Hd),aD E' [(3,(sv v5))]/\Sep S w W' [.box g_0 117 [sv aw,vi y3.2],ae (sv v5) 78 1 (λ(l:List ah)=>D.row 102 5 (l.map aq)) y3.1]) hy2 ⟨v1,sb z,s.to [0,0]⟩ ?_) ?_
 ·intro s1 y4 E W h hI
  obtain ⟨v3,hE,s⟩:=hI
  refine CW.sub hE ?_
  unfold mb at h
  refine .seq (.g (.q z (.q z (.qn z (.cond z (λb=>?_) (λb=>?_))))))
  ·have h:=aK b h
   refine .skip (.seq (.block (.region (.q z (.q z (bv h λy5 hy5 h=>.c (.cS (L0:=[.box g_0 117 [sv aw,vi s1.2.2]]) s func82 (λS h1 h2 h3=>(uw hy5 (s.ks aN h1) h2 (zz h1))) z z ?_)))))))
   rintro v6 W s
   refine .c (.lg (L1:=[ae (sv v6) 102 5 aq y5.1]) [y5.1] (λ(l:List ah)=>D.row 102 5 (l.map aq)) u36 t78 (s.to [1,0,0]) z z z (.row (.nil)) ?_ z (λ_=>z))
   intro v7 W s
   refine bv h λr1 hr1 h=>.c (.appv hr1 (s.to [2,0,0]) u36 t78 z z z ?_)
   intro v8 W s
   refine .qn z (.region (.q z (.q z (.q z (.nil ?_)))))
   cases h
   exact ⟨z,v8,sb z,s.to [1,0]⟩
  have h:=aL b h
  refine .exit ?_
  cases h
  exact ⟨by simp,z,v3,sb z,s.to [0,0]⟩
 intro x E W hJ
 obtain ⟨rfl,v9,hE,s⟩:=hJ
 refine ⟨_,hE.sub,?_⟩
 cases h
 exact .g (.q z (.qn z (.ret (ac v9 (rt z rn) z (s.to [0,0])))))
end

end Go.Proofs.YtgcmopfhafoabaaGreatDoor.N
