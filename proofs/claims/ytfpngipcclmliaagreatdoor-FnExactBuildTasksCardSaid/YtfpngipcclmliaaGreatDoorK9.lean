/- Printed by a program of mine: that the program's functions compute it. -/
import Derived.Test.YtfpngipcclmliaaGreatDoorK8
set_option linter.unusedVariables false
set_option linter.unusedSimpArgs false
set_option maxRecDepth 100000
set_option maxHeartbeats 4000000
namespace Go.Proofs.YtfpngipcclmliaaGreatDoor.N
open Go.Proofs.YtfpngipcclmliaaGreatDoor.X
open T Tryz
noncomputable section
theorem vG {k:Nat} {dz:List ae->Int->Option (Int×(List ae))} (po:kX dz):kX (im k dz):=by
 intro a0 a1 v_0 S w r h hO hlt
 unfold im at h
 refine ao func85 z z ?_
 have s:=Sep.sm hO hlt
 refine .g (.qn z (.seq (.g (.qn z (.block (bv h λy1 hy1 h=>?_))))))
 refine .via (.iter (λs1 E' W'=>aq E' [(0,(sv v_0)),(1,vi s1.1),(5,vi s1.2.1)]/\Sep S w W' [ac (sv v_0) 95 8 aP s1.2.2]) (λy2 x E' W'=>x=.exit 0/\aq E' [(1,vi y2.1)]/\Sep S w W' [ac (sv v_0) 95 8 aP y2.2]) hy1 ⟨sb z,s.tk [0]⟩ ?_) ?_
 ·intro s1 y3 E W h hI
  obtain ⟨hE,s⟩:=hI
  refine CW.sub hE ?_
  unfold dS at h
  refine .seq (.g (.q z (.q z (.s (aE s.lv u93 z z) z (.qn z (.cond z (λb=>?_) (λb=>?_)))))))
  ·have h:=aK b h
   refine .skip (.seq (.block (.g (.q z (.q z (.q z (bv h λx1 hx1 h=>.s (ixv s.lv hx1 u93 t95 z z z) z (.s (fe f95_0 z z z) z ?_))))))))
   obtain ⟨k1,s⟩:=Sep.ov s hx1
   have s:=s.oaggE (pb _)
   obtain ⟨k1,rfl,s⟩:=Sep.oF z s
   obtain ⟨k1,rfl,s⟩:=Sep.oF z s
   obtain ⟨k1,rfl,s⟩:=Sep.oF z s
   have s:=s.oaggE (gQ _)
   obtain ⟨k1,rfl,s⟩:=Sep.oF z s
   obtain ⟨k1,rfl,s⟩:=Sep.oF z s
   obtain ⟨v1,k1,rfl,s⟩:=s.ow
   obtain ⟨v2,k1,rfl,s⟩:=s.ow
   obtain ⟨v3,k1,rfl,s⟩:=s.ow
   obtain ⟨rfl,s⟩:=s.oN
   refine .c (.sthv s.p3 t3 z z z ?_)
   intro W s
   refine .nil (.g (.q z (.q z (.qn z (.g (.q z (.q z (.q z (.s (ixh s hx1 u93 t95 z z z) z (.s (fe f95_1 z z z) z (.c (.sthv s t3 z z z ?_))))))))))))
   intro W s
   refine .nil (.g (.q z (.q z (.qn z (.g (.q z (.q z (.q z (.s (ixh s hx1 u93 t95 z z z) z (.s (fe f95_2 z z z) z (.c (.sthv s t3 z z z ?_))))))))))))
   intro W s
   refine .nil (.g (.q z (.q z (.qn z (.g (.q z (.q z (.q z (.s (ixh s hx1 u93 t95 z z z) z (.s (fe f95_3 z z z) z (.s (fe f91_0 z z z) z (.c (.sthv s t3 z z z ?_)))))))))))))
   intro W s
   refine .nil (.g (.q z (.q z (.qn z (.g (.q z (.q z (.q z (.s (ixh s hx1 u93 t95 z z z) z (.s (fe f95_3 z z z) z (.s (fe f91_1 z z z) z (.c (.sthv s t3 z z z ?_)))))))))))))
   intro W s
   refine .nil (.g (.q z (.q z (.qn z (.g (.q z (.q z (.s (ixh s hx1 u93 t95 z z z) z (.s (fe f95_3 z z z) z (.s (fe f91_2 z z z) z (.s (lde (s.hcellsv) t89 z z z z z) z (.q z (bv h λy4 hy4 h=>?_)))))))))))))
   have s:=s.p3
   refine .c (.cS (L0:=[ac (sv v1) 91 3 bL x1.Expr.Args]) s func135 (λS h1 h2 h3=>(uq hy4 h2 (zz h1))) z z ?_)
   rintro ⟨⟩ W s
   refine .qn z (.g (.q z (.q z (.s (ixh s.p1 hx1 u93 t95 z z z) z (.s (fe f95_4 z z z) z (.s (lde (s.p1.hcellsv) t93 z z z z z) z (.q z (bv h λy5 hy5 h=>?_))))))))
   have s:=s.p3
   refine .c (.cS (L0:=[ac (sv v2) 95 8 aP x1.Body]) s func85 (λS h1 h2 h3=>(po hy5 h2 (zz h1))) z z ?_)
   rintro ⟨⟩ W s
   refine .qn z (.region (.q z (.q z (.s (ixh s.p2 hx1 u93 t95 z z z) z (.s (fe f95_5 z z z) z (.s (lde (s.p2.hcellsv) t93 z z z z z) z (.q z (bv h λy6 hy6 h=>?_))))))))
   have s:=s.p3
   refine .c (.cS (L0:=[ac (sv v3) 95 8 aP x1.Else]) s func85 (λS h1 h2 h3=>(po hy6 h2 (zz h1))) z z ?_)
   rintro ⟨⟩ W s
   refine .qn z (.region (.q z (.q z (.q z (.nil ?_)))))
   have s:=Sep.gat (ds:=[aP (ae.mk s1.1 (w64 (s1.1+1)) (w64 ((w64 (s1.1+1))+1)) (Expr.mk (w64 ((w64 ((w64 (s1.1+1))+1))+1)) (w64 ((w64 ((w64 ((w64 (s1.1+1))+1))+1))+1)) y4.2) y5.2 y6.2)]) (cs:=[vi s1.1,vi (w64 (s1.1+1)),vi (w64 ((w64 (s1.1+1))+1)),vi (w64 ((w64 ((w64 (s1.1+1))+1))+1)),vi (w64 ((w64 ((w64 ((w64 (s1.1+1))+1))+1))+1)),sv v1,sv v2,sv v3]) (L1:=[ac (sv v1) 91 3 bL y4.2,ac (sv v2) 95 8 aP y5.2,ac (sv v3) 95 8 aP y6.2]) (.aggE (pb _) (.flat (c1:=[vi s1.1]) z (.flat (c1:=[vi (w64 (s1.1+1))]) z (.flat (c1:=[vi (w64 ((w64 (s1.1+1))+1))]) z (.aggE (gQ _) (.flat (c1:=[vi (w64 ((w64 ((w64 (s1.1+1))+1))+1))]) z (.flat (c1:=[vi (w64 ((w64 ((w64 ((w64 (s1.1+1))+1))+1))+1))]) z (.row (.row (.row .nil)))))))))) (s.to [2,1,0,0])
   have s:Sep _ _ _ [ac (sv v_0) 95 8 aP (s1.2.2.set (Int.toNat s1.2.1) (ae.mk s1.1 (w64 (s1.1+1)) (w64 ((w64 (s1.1+1))+1)) (Expr.mk (w64 ((w64 ((w64 (s1.1+1))+1))+1)) (w64 ((w64 ((w64 ((w64 (s1.1+1))+1))+1))+1)) y4.2) y5.2 y6.2))]:=s.bv
   cases h
   exact ⟨z,sb z,s.tk [0]⟩
  have h:=aL b h
  refine .exit ?_
  cases h
  exact ⟨by simp,z,sb z,s.tk [0]⟩
 intro x E W hJ
 obtain ⟨rfl,hE,s⟩:=hJ
 refine ⟨_,hE.sub,?_⟩
 cases h
 exact .g (.q z (.qn z (.ret (aa () (rt z rn) z (s.tk [0])))))
theorem qr (k:Nat):kX (fC k):=by
  induction k with
  | zero=>exact by intro a0 a1 v_0 S w r h hO hlt; exact no h
  | succ k ih=>exact vG (k:=k) ih
theorem ur {k:Nat}:kX (fC k):=(qr k)
theorem tv {k:Nat} {a0:List (List ae)} {a1:Int} {v_0:Hd} {S:Nat->Prop} {w:World} {r:Int×(List (List ae))} (h:jc k a0 a1=some r) (hO:bu w [ac (sv v_0) 93 1 (λ(l:List ae)=>D.row 95 8 (l.map aP)) a0] S) (hlt:∀ b,S b->b<w.heap.size):CL 48 #[sv v_0,vi a1] w (Ret S w (λs:Unit=>.int .i64 r.1) (λs=>[ac (sv v_0) 93 1 (λ(l:List ae)=>D.row 95 8 (l.map aP)) r.2])):=by
 unfold jc at h
 refine ao func48 z z ?_
 have s:=Sep.sm hO hlt
 refine .g (.qn z (.seq (.g (.qn z (.block (bv h λy1 hy1 h=>?_))))))
 refine .via (.iter (λs1 E' W'=>aq E' [(0,(sv v_0)),(1,vi s1.1),(5,vi s1.2.1)]/\Sep S w W' [ac (sv v_0) 93 1 (λ(l:List ae)=>D.row 95 8 (l.map aP)) s1.2.2]) (λy2 x E' W'=>x=.exit 0/\aq E' [(1,vi y2.1)]/\Sep S w W' [ac (sv v_0) 93 1 (λ(l:List ae)=>D.row 95 8 (l.map aP)) y2.2]) hy1 ⟨sb z,s.tk [0]⟩ ?_) ?_
 ·intro s1 y3 E W h hI
  obtain ⟨hE,s⟩:=hI
  refine CW.sub hE ?_
  unfold dA at h
  refine .seq (.g (.q z (.q z (.s (aE s.lv u24 z z) z (.qn z (.cond z (λb=>?_) (λb=>?_)))))))
  ·have h:=aK b h
   refine .skip (.seq (.block (.region (.q z (.q z (bv h λx1 hx1 h=>.s (ixv s.lv hx1 u24 t93 z z z) z ?_))))))
   obtain ⟨k1,s⟩:=Sep.ov s hx1
   obtain ⟨v1,k1,rfl,s⟩:=s.ow
   obtain ⟨rfl,s⟩:=s.oN
   refine .s (lde (s.p1.hcellsv) t93 z z z z z) z (.q z (bv h λy4 hy4 h=>.c (.cS (L0:=[ac (sv v1) 95 8 aP x1]) s func85 (λS h1 h2 h3=>(ur hy4 h2 (zz h1))) z z ?_)))
   rintro ⟨⟩ W s
   refine .qn z (.region (.q z (.q z (.q z (.nil ?_)))))
   have s:=Sep.gat (ds:=[.row 95 8 (y4.2.map aP)]) (cs:=[sv v1]) (L1:=[ac (sv v1) 95 8 aP y4.2]) (.row (.nil)) (s.to [0,0])
   have s:Sep _ _ _ [ac (sv v_0) 93 1 (λ(l:List ae)=>D.row 95 8 (l.map aP)) (s1.2.2.set (Int.toNat s1.2.1) y4.2)]:=s.bv
   cases h
   exact ⟨z,sb z,s.tk [0]⟩
  have h:=aL b h
  refine .exit ?_
  cases h
  exact ⟨by simp,z,sb z,s.tk [0]⟩
 intro x E W hJ
 obtain ⟨rfl,hE,s⟩:=hJ
 refine ⟨_,hE.sub,?_⟩
 cases h
 exact .g (.q z (.qn z (.ret (aa () (rt z rn) z (s.tk [0])))))
theorem sj {k:Nat} {a0:aF} {a1:Int} {aA:Hd} {az:Hd} {S:Nat->Prop} {w:World} {r:Int×(List Int)×(List (List ae))} (h:io k a0 a1=some r) (hO:bu w [ac (sv aA) 3 1 (D.int .i64) a0.Rooms,ac (sv az) 93 1 (λ(l:List ae)=>D.row 95 8 (l.map aP)) a0.Tasks] S) (hlt:∀ b,S b->b<w.heap.size):CL 17 #[.agg #[sv aA,sv az],vi a1] w (Ret S w (λs:Unit=>.int .i64 r.1) (λs=>[ac (sv aA) 3 1 (D.int .i64) r.2.1,ac (sv az) 93 1 (λ(l:List ae)=>D.row 95 8 (l.map aP)) r.2.2])):=by
 unfold io at h
 refine ao func17 z z ?_
 have s:=Sep.sm hO hlt
 refine .g (.c (.box s z z ?_))
 intro g1 W s
 refine .qn z (.g (.s (fa f26_0 z z z) z (.s (ld t23 s z z z z z) z (.q z (bv h λy1 hy1 h=>?_)))))
 have s:=s.p1
 refine .c (.cS (L0:=[ac (sv aA) 3 1 (D.int .i64) a0.Rooms]) s func47 (λS h1 h2 h3=>(vE hy1 h2 (zz h1))) z z ?_)
 rintro ⟨⟩ W s
 refine .qn z (.g (.s (fa f26_1 z z z) z (.s (ld t24 s.p1 z z z z z) z (.q z (bv h λy2 hy2 h=>?_)))))
 have s:=s.p2
 refine .c (.cS (L0:=[ac (sv az) 93 1 (λ(l:List ae)=>D.row 95 8 (l.map aP)) a0.Tasks]) s func48 (λS h1 h2 h3=>(tv hy2 h2 (zz h1))) z z ?_)
 rintro ⟨⟩ W s
 cases h
 exact .qn z (.g (.q z (.qn z (.ret (aa () (rt z rn) z (s.tk [1,0]))))))
theorem tw {a0:List Instr} {a1:Int} {v_0:Hd} {S:Nat->Prop} {w:World} {r:Int×(List Instr)} (h:fW a0 a1=some r) (hO:bu w [ac (sv v_0) 74 5 ak a0] S) (hlt:∀ b,S b->b<w.heap.size):CL 49 #[sv v_0,vi a1] w (Ret S w (λs:Unit=>.int .i64 r.1) (λs=>[ac (sv v_0) 74 5 ak r.2])):=by
 unfold fW at h
 refine ao func49 z z ?_
 have s:=Sep.sm hO hlt
 refine .g (.qn z (.seq (.g (.qn z (.block (bv h λy1 hy1 h=>?_))))))
 refine .via (.iter (λs1 E' W'=>aq E' [(0,(sv v_0)),(1,vi s1.1),(5,vi s1.2.1)]/\Sep S w W' [ac (sv v_0) 74 5 ak s1.2.2]) (λy2 x E' W'=>x=.exit 0/\aq E' [(1,vi y2.1)]/\Sep S w W' [ac (sv v_0) 74 5 ak y2.2]) hy1 ⟨sb z,s.tk [0]⟩ ?_) ?_
 ·intro s1 y3 E W h hI
  obtain ⟨hE,s⟩:=hI
  refine CW.sub hE ?_
  unfold fD at h
  refine .seq (.g (.q z (.q z (.s (aE s.lv u35 z z) z (.q z (.nil ?_))))))
  refine .cs z h ?_ ?_ <;> intro h
  ·refine .skip (.seq (.block (.g (.q z (.q z (.q z (bv h λx1 hx1 h=>.s (ixv s.lv hx1 u35 t74 z z z) z (.s (fe f74_0 z z z) z (bv h λr1 hr1 h=>.c (.sev hr1 hx1 s t3 z z z z z z ?_))))))))))
   intro W s
   refine .nil (.g (.q z (.q z (.qn z (.g (.q z (.q z (.q z (bv h λx2 hx2 h=>.s (ixv s.lv hx2 u35 t74 z z z) z (.s (fe f74_1 z z z) z (bv h λr2 hr2 h=>.c (.sev hr2 hx2 s t3 z z z z z z ?_))))))))))))
   intro W s
   refine .nil (.g (.q z (.q z (.qn z (.g (.q z (.q z (.q z (bv h λx3 hx3 h=>.s (ixv s.lv hx3 u35 t74 z z z) z (.s (fe f74_2 z z z) z (bv h λr3 hr3 h=>.c (.sev hr3 hx3 s t3 z z z z z z ?_))))))))))))
   intro W s
   refine .nil (.g (.q z (.q z (.qn z (.g (.q z (.q z (.q z (bv h λx4 hx4 h=>.s (ixv s.lv hx4 u35 t74 z z z) z (.s (fe f74_3 z z z) z (bv h λr4 hr4 h=>.c (.sev hr4 hx4 s t3 z z z z z z ?_))))))))))))
   intro W s
   refine .nil (.g (.q z (.q z (.qn z (.g (.q z (.q z (.q z (bv h λx5 hx5 h=>.s (ixv s.lv hx5 u35 t74 z z z) z (.s (fe f74_4 z z z) z (bv h λr5 hr5 h=>.c (.sev hr5 hx5 s t3 z z z z z z ?_))))))))))))
   intro W s
   refine .nil (.region (.q z (.q z (.qn z (.region (.q z (.q z (.q z (.nil ?_)))))))))
   cases h
   exact ⟨z,sb z,s.tk [0]⟩
  refine .exit ?_
  cases h
  exact ⟨by simp,z,sb z,s.tk [0]⟩
 intro x E W hJ
 obtain ⟨rfl,hE,s⟩:=hJ
 refine ⟨_,hE.sub,?_⟩
 cases h
 exact .g (.q z (.qn z (.ret (aa () (rt z rn) z (s.tk [0])))))
theorem sk {a0:List (List Instr)} {a1:Int} {v_0:Hd} {S:Nat->Prop} {w:World} {r:Int×(List (List Instr))} (h:ip a0 a1=some r) (hO:bu w [ac (sv v_0) 35 1 (λ(l:List Instr)=>D.row 74 5 (l.map ak)) a0] S) (hlt:∀ b,S b->b<w.heap.size):CL 18 #[sv v_0,vi a1] w (Ret S w (λs:Unit=>.int .i64 r.1) (λs=>[ac (sv v_0) 35 1 (λ(l:List Instr)=>D.row 74 5 (l.map ak)) r.2])):=by
 unfold ip at h
 refine ao func18 z z ?_
 have s:=Sep.sm hO hlt
 refine .g (.qn z (.seq (.g (.qn z (.block (bv h λy1 hy1 h=>?_))))))
 refine .via (.iter (λs1 E' W'=>aq E' [(0,(sv v_0)),(1,vi s1.1),(5,vi s1.2.1)]/\Sep S w W' [ac (sv v_0) 35 1 (λ(l:List Instr)=>D.row 74 5 (l.map ak)) s1.2.2]) (λy2 x E' W'=>x=.exit 0/\aq E' [(1,vi y2.1)]/\Sep S w W' [ac (sv v_0) 35 1 (λ(l:List Instr)=>D.row 74 5 (l.map ak)) y2.2]) hy1 ⟨sb z,s.tk [0]⟩ ?_) ?_
 ·intro s1 y3 E W h hI
  obtain ⟨hE,s⟩:=hI
  refine CW.sub hE ?_
  unfold eo at h
  refine .seq (.g (.q z (.q z (.s (aE s.lv u29 z z) z (.qn z (.cond z (λb=>?_) (λb=>?_)))))))
  ·have h:=aK b h
   refine .skip (.seq (.block (.region (.q z (.q z (bv h λx1 hx1 h=>.s (ixv s.lv hx1 u29 t35 z z z) z ?_))))))
   obtain ⟨k1,s⟩:=Sep.ov s hx1
   obtain ⟨v1,k1,rfl,s⟩:=s.ow
   obtain ⟨rfl,s⟩:=s.oN
   refine .s (lde (s.p1.hcellsv) t35 z z z z z) z (.q z (bv h λy4 hy4 h=>.c (.cS (L0:=[ac (sv v1) 74 5 ak x1]) s func49 (λS h1 h2 h3=>(tw hy4 h2 (zz h1))) z z ?_)))
   rintro ⟨⟩ W s
   refine .qn z (.region (.q z (.q z (.q z (.nil ?_)))))
   have s:=Sep.gat (ds:=[.row 74 5 (y4.2.map ak)]) (cs:=[sv v1]) (L1:=[ac (sv v1) 74 5 ak y4.2]) (.row (.nil)) (s.to [0,0])
   have s:Sep _ _ _ [ac (sv v_0) 35 1 (λ(l:List Instr)=>D.row 74 5 (l.map ak)) (s1.2.2.set (Int.toNat s1.2.1) y4.2)]:=s.bv
   cases h
   exact ⟨z,sb z,s.tk [0]⟩
  have h:=aL b h
  refine .exit ?_
  cases h
  exact ⟨by simp,z,sb z,s.tk [0]⟩
 intro x E W hJ
 obtain ⟨rfl,hE,s⟩:=hJ
 refine ⟨_,hE.sub,?_⟩
 cases h
 exact .g (.q z (.qn z (.ret (aa () (rt z rn) z (s.tk [0])))))
def us (w:World) (r:Int):Env->World->Prop:=Fin Tryz.prog Tryz.f50 No w (λs:Unit=>.int .i64 r) (λs=>[]) .ret
theorem tx {a0:List Instr} {a1:Int} {v_0:Hd} {w:World} {r:Int} (h:fX a0 a1=some r) (q_0:RO w v_0 74 5 ak a0):CL 50 #[sv v_0,vi a1] w (RU w (.int .i64 r)):=by
 unfold fX at h
 refine ao func50 z z ?_
 have s:=Sep.start w
 refine .g (.qn z (.seq (.g (.qn z (.block (bv h λy1 hy1 h=>?_))))))
 refine .via (.iter (λs1 E' W'=>aq E' [(0,(sv v_0)),(1,vi s1.1),(5,vi s1.2)]/\Sep No w W' []) (λy2 x E' W'=>(match y2 with | .inl o1=>x=.ret/\us w o1 E' W' | .inr o2=>x=.exit 0/\aq E' [(1,vi o2)]/\Sep No w W' [])) hy1 ⟨sb rfl,s.to [] rfl⟩ ?_) ?_
 ·intro s1 y3 E W h hI
  obtain ⟨hE,s⟩:=hI
  refine CW.sub hE ?_
  unfold fE at h
  refine .seq (.g (.q z (.q z (.s (aE (s.keep q_0) u35 z z) z (.q z (.nil ?_))))))
  refine .cs z h ?_ ?_ <;> intro h
  ·refine .skip (.seq (.block (.seq (.g (.q z (.q z (bv h λx1 hx1 h=>.s (ixv (s.keep q_0) hx1 u35 t74 z z z) z (.s (fe f74_0 z z z) z (.s (lde (RV.flat (s.keep q_0) hx1 z) t3 z z z z z) z (.q z (.q z (.nil ?_))))))))))))
   refine .cs z h ?_ ?_ <;> intro h
   ·refine .g (.qn z (.ret ?_))
    cases h
    exact ⟨by simp,z,aa (vs:=[_]) () (rt z rn) z (s.to [])⟩
   refine .skip (.g (.q z (.q z (.qn z (.seq (.g (.q z (.q z (bv h λx2 hx2 h=>.s (ixv (s.keep q_0) hx2 u35 t74 z z z) z (.s (fe f74_1 z z z) z (.s (lde (RV.flat (s.keep q_0) hx2 z) t3 z z z z z) z (.q z (.q z (.nil ?_))))))))))))))
   refine .cs z h ?_ ?_ <;> intro h
   ·refine .g (.qn z (.ret ?_))
    cases h
    exact ⟨by simp,z,aa (vs:=[_]) () (rt z rn) z (s.to [])⟩
   refine .skip (.g (.q z (.q z (.qn z (.seq (.g (.q z (.q z (bv h λx3 hx3 h=>.s (ixv (s.keep q_0) hx3 u35 t74 z z z) z (.s (fe f74_2 z z z) z (.s (lde (RV.flat (s.keep q_0) hx3 z) t3 z z z z z) z (.q z (.q z (.nil ?_))))))))))))))
   refine .cs z h ?_ ?_ <;> intro h
   ·refine .g (.qn z (.ret ?_))
    cases h
    exact ⟨by simp,z,aa (vs:=[_]) () (rt z rn) z (s.to [])⟩
   refine .skip (.g (.q z (.q z (.qn z (.seq (.g (.q z (.q z (bv h λx4 hx4 h=>.s (ixv (s.keep q_0) hx4 u35 t74 z z z) z (.s (fe f74_3 z z z) z (.s (lde (RV.flat (s.keep q_0) hx4 z) t3 z z z z z) z (.q z (.q z (.nil ?_))))))))))))))
   refine .cs z h ?_ ?_ <;> intro h
   ·refine .g (.qn z (.ret ?_))
    cases h
    exact ⟨by simp,z,aa (vs:=[_]) () (rt z rn) z (s.to [])⟩
   refine .skip (.g (.q z (.q z (.qn z (.seq (.g (.q z (.q z (bv h λx5 hx5 h=>.s (ixv (s.keep q_0) hx5 u35 t74 z z z) z (.s (fe f74_4 z z z) z (.s (lde (RV.flat (s.keep q_0) hx5 z) t3 z z z z z) z (.q z (.q z (.nil ?_))))))))))))))
   refine .cs z h ?_ ?_ <;> intro h
   ·refine .g (.qn z (.ret ?_))
    cases h
    exact ⟨by simp,z,aa (vs:=[_]) () (rt z rn) z (s.to [])⟩
   refine .skip (.region (.q z (.q z (.qn z (.region (.q z (.q z (.q z (.nil ?_)))))))))
   cases h
   exact ⟨z,sb z,s.to []⟩
  refine .exit ?_
  cases h
  exact ⟨by simp,z,sb z,s.to []⟩
 intro x E W hJ
 rcases y1 with o3 | o4
 ·have h:=bW h
  obtain ⟨rfl,hF⟩:=hJ
  refine ⟨_,λ_ _ h=>h,?_⟩
  cases h
  exact hF
 have h:=bX h
 obtain ⟨rfl,hE,s⟩:=hJ
 refine ⟨_,hE.sub,?_⟩
 obtain rfl:=o9 h
 exact .g (.q z (.qn z (.ret (aa () (rt z rn) z (s.to [])))))
def tz (w:World) (r:Int):Env->World->Prop:=Fin Tryz.prog Tryz.f19 No w (λs:Unit=>.int .i64 r) (λs=>[]) .ret
theorem oe {a0:List (List Instr)} {a1:Int} {v_0:Hd} {w:World} {r:Int} (h:fg a0 a1=some r) (q_0:RO w v_0 35 1 (λ(l:List Instr)=>D.row 74 5 (l.map ak)) a0):CL 19 #[sv v_0,vi a1] w (RU w (.int .i64 r)):=by
 unfold fg at h
 refine ao func19 z z ?_
 have s:=Sep.start w
 refine .g (.qn z (.seq (.g (.qn z (.block (bv h λy1 hy1 h=>?_))))))
 refine .via (.iter (λs1 E' W'=>aq E' [(0,(sv v_0)),(1,vi s1.1),(5,vi s1.2)]/\Sep No w W' []) (λy2 x E' W'=>(match y2 with | .inl o1=>x=.ret/\tz w o1 E' W' | .inr o2=>x=.exit 0/\aq E' [(1,vi o2)]/\Sep No w W' [])) hy1 ⟨sb rfl,s.to [] rfl⟩ ?_) ?_
 ·intro s1 y3 E W h hI
  obtain ⟨hE,s⟩:=hI
  refine CW.sub hE ?_
  unfold et at h
  refine .seq (.g (.q z (.q z (.s (aE (s.keep q_0) u29 z z) z (.q z (.nil ?_))))))
  refine .cs z h ?_ ?_ <;> intro h
  ·refine .skip (.seq (.block (.g (.q z (.q z (bv h λx1 hx1 h=>?_))))))
   obtain ⟨k1,hd,hck1⟩:=RV.el2 q_0 hx1
   obtain ⟨v1,k1,rfl,q1,hd1⟩:=bn q_0 hd
   obtain rfl:=gU q_0 hd1
   refine .s (ixv (s.keep q_0) hx1 u29 t35 z z z) z (.s (lde (hck1 _ s.agree) t35 z z z z z) z (.q z (bv h λy4 hy4 h=>.c (.cO s func50 (tx hy4 (s.keep (q1 _ q_0))) z z ?_))))
   intro W s
   refine .qn z (.g (.q z (.q z (.nil ?_))))
   refine .cs z h ?_ ?_ <;> intro h
   ·refine .g (.qn z (.ret ?_))
    cases h
    exact ⟨by simp,z,aa (vs:=[_]) () (rt z rn) z (s.to [])⟩
   refine .skip (.region (.q z (.q z (.q z (.nil ?_)))))
   cases h
   exact ⟨z,sb z,s.to []⟩
  refine .exit ?_
  cases h
  exact ⟨by simp,z,sb z,s.to []⟩
 intro x E W hJ
 rcases y1 with o3 | o4
 ·have h:=bW h
  obtain ⟨rfl,hF⟩:=hJ
  refine ⟨_,λ_ _ h=>h,?_⟩
  cases h
  exact hF
 have h:=bX h
 obtain ⟨rfl,hE,s⟩:=hJ
 refine ⟨_,hE.sub,?_⟩
 obtain rfl:=o9 h
 exact .g (.q z (.qn z (.ret (aa () (rt z rn) z (s.to [])))))
theorem oY {k:Nat} {a0:aR} {a1:Int} {a2:Int} {aA:Hd} {az:Hd} {w:World} {r:Bool} (h:eJ k a0 a1 a2=some r) (bh:RO w aA 3 1 (D.int .i64) a0.Rooms) (aB:RO w az 114 1 (λ(l:List au)=>D.row 155 8 (l.map cQ)) a0.Tasks) (hG:Gl w):CL 4 #[.agg #[sv aA,sv az],vi a1,vi a2] w (RU w (.bool r)):=by
 unfold eJ at h
 refine ao func4 z z ?_
 have s:=Sep.start w
 refine .g (.c (.box s z z ?_))
 intro g1 W s
 refine .qn z (.g (.qn z (.g (.s (ld t43 s z z z z z) z (.q z (bv h λy1 hy1 h=>.c (.cO s func13 (uj hy1 (s.keep bh) (s.keep aB)) z z ?_)))))))
 intro W s
 refine .qn z (.seq (.g (.q z (.q z (.nil ?_)))))
 refine .cs z h ?_ ?_ <;> intro h
 ·obtain rfl:=o9 h
  exact .g (.qn z (.ret (aa () (rt z rn) z (s.to []))))
 refine .skip (.g (.s (ld t43 s z z z z z) z (bv h λy2 hy2 h=>.c (.call s func14 (jE hy2 (s.keep bh) (s.keep aB)) z z ?_))))
 rintro ⟨v1,v2⟩ W s
 refine .q z (.q z (bv h λy3 hy3 h=>.c (.cV s func9 (tq hy3 s.lv s.p1.lv) z z ?_)))
 intro v3 W s
 refine .q z (.q z (.q z (.q z (.qn z (.g (.s (ld t43 s.p3 z z z z z) z (bv h λy4 hy4 h=>.c (.call s func14 (jE hy4 (s.keep bh) (s.keep aB)) z z ?_))))))))
 rintro ⟨v4,v5⟩ W s
 refine .c (.alloc t26 s ?_)
 intro g2 W s
 refine .c (.st t26 s z z z ?_)
 intro W s
 refine .nil (.g (.s (ld t26 s z z z z z) z (.q z (.q z (bv h λy5 hy5 h=>.c (.cV s func8 (oV hy5 s.p1.lv s.p2.lv (hG.at s (λ_ _ h=>h))) z z ?_))))))
 intro v6 W s
 refine .q z (.q z (.q z (.q z (.qn z (.seq (.g (.q z (.q z (bv h λy6 hy6 h=>.c (.cO s func15 (mT hy6 s.lv s.p4.lv) z z ?_))))))))))
 intro W s
 refine .q z (.q z (.cu 4 48 ((!y6)||(y5.2 !=y3.2)) s ?_ ?_))
 ·refine .both (!y6) (λb=>?_) (λb=>?_)
  ·exact .xx b z (.xx b z (.xx b z (.s (pkt b z z z) z (.nil (ck 4 s z (iH b))))))
  have hg1:=b
  exact .g hg1 (.q z (.g hg1 (.q z (.g hg1 (.s (neb u4 z z z) z (.s (pkf hg1 z z z) z (.nil (ck 4 s z (gS hg1)))))))))
 intro W s
 refine .nil ?_
 refine .cs z h ?_ ?_ <;> intro h
 ·obtain rfl:=o9 h
  exact .g (.qn z (.ret (aa () (rt z rn) z (s.to []))))
 refine .skip (.seq (.seq (.rk 5 s [0,0,0,0,0,0,0,0] T.mix ?_)))
 intro W s
 have t:=s.to [0,0,0,0,0,0,0,0]
 refine .ts' 0 z (λW t=>ld t26 t.p1 z z z z z) t z (.ts' 1 z (λW t=>ld t43 t.p7 z z z z z) t z (bv h λy7 hy7 h=>.by1 2 z (.call s func14 (jE hy7 (s.keep bh) (s.keep aB)) z z ?_)))
 rintro ⟨v7,v8⟩ W s
 refine s.an [2,2,2,2,2,2,2,2] λt=>bv h λy8 hy8 h=>.by1 3 z (.cO s func16 (un hy8 s.p4.lv s.p5.lv s.lv s.p1.lv) z z ?_)
 intro W s
 refine s.an [2,2,2,2,2,2,2,2] λt=>.tp' 4 z z t (.done (.cond z (λb=>?_) (λb=>?_)))
 ·have h:=aK b h
  obtain rfl:=o9 h
  exact .g (.qn z (.ret (aa () (rt z rn) z (s.to []))))
 have h:=aL b h
 refine .skip (.g (.qn z (.g (.s (ld t26 s.p3 z z z z z) z (.q z (bv h λy9 hy9 h=>?_))))))
 have s:=s.p5.p5
 refine .c (.cS (L0:=[ac (sv v4) 3 1 (D.int .i64) y4.Rooms,ac (sv v5) 93 1 (λ(l:List ae)=>D.row 95 8 (l.map aP)) y4.Tasks]) s func17 (λS h1 h2 h3=>(sj hy9 h2 (zz h1))) z z ?_)
 rintro ⟨⟩ W s
 refine .qn z (.seq (.g (.q z (.q z (.q z (bv h λb1 hb1 h=>.cu 5 64 (b1) s ?_ ?_))))))
 ·refine .both (decide (y9.1<0)) (λb=>?_) (λb=>?_)
  ·refine .xx b z (.xx b z (.xx b z (.xx b z ?_)))
   cases aK b hb1
   exact .s (pkt b z z z) z (.nil (ck 5 s))
  have hg2:=b
  have h:=aL b hb1
  refine .g hg2 (.q z (.g hg2 (.q z (bv h λy10 hy10 h=>.g hg2 (.c (.cO s func15 (mT hy10 s.p4.lv s.p6.lv) z z ?_))))))
  intro W s
  refine .g hg2 (.q z (.s (pkf hg2 z z z) z ?_))
  cases h
  exact .nil (ck 5 s)
 intro W s
 refine .q z (.cu 4 69 (b1||(y5.2 !=y3.2)) s ?_ ?_)
 ·refine .both (b1) (λb=>?_) (λb=>?_)
  ·exact .xx b z (.xx b z (.xx b z (.s (pkt b z z z) z (.nil (ck 4 s z (iH b))))))
  have hg3:=b
  exact .g hg3 (.q z (.g hg3 (.q z (.g hg3 (.s (neb u4 z z z) z (.s (pkf hg3 z z z) z (.nil (ck 4 s z (gS hg3)))))))))
 intro W s
 refine .nil (.cond z (λb=>?_) (λb=>?_))
 ·have h:=aK b h
  obtain rfl:=o9 h
  exact .g (.qn z (.ret (aa () (rt z rn) z (s.to []))))
 have h:=aL b h
 refine .skip (.g (.qn z (.g (.q z (.q z (bv h λy11 hy11 h=>?_))))))
 have s:=s.p4
 refine .c (.cS (L0:=[ac (sv v6) 35 1 (λ(l:List Instr)=>D.row 74 5 (l.map ak)) y5.1]) s func18 (λS h1 h2 h3=>(sk hy11 h2 (zz h1))) z z ?_)
 rintro ⟨⟩ W s
 refine .qn z (.g (.qn z (.g (.q z (.q z (bv h λy12 hy12 h=>.c (.cO s func19 (oe hy12 s.lv) z z ?_)))))))
 intro W s
 refine .qn z (.seq (.g (.q z (.q z (.nil ?_)))))
 refine .cs z h ?_ ?_ <;> intro h
 ·obtain rfl:=o9 h
  exact .g (.qn z (.ret (aa () (rt z rn) z (s.to []))))
 refine .skip (.seq (.g (.q z (.q z (.q z (.nil ?_))))))
 refine .cs z h ?_ ?_ <;> intro h
 ·obtain rfl:=o9 h
  exact .g (.qn z (.ret (aa () (rt z rn) z (s.to []))))
 refine .skip (.g (.s (ld t43 s.p9 z z z z z) z (bv h λy13 hy13 h=>.c (.call s func14 (jE hy13 (s.keep bh) (s.keep aB)) z z ?_))))
 rintro ⟨v9,v10⟩ W s
 refine .q z (.q z (bv h λy14 hy14 h=>.c (.cV s func8 (oV hy14 s.lv s.p1.lv (hG.at s (λ_ _ h=>h))) z z ?_)))
 intro v11 W s
 refine .q z (.q z (.q z (.q z (.qn z (.seq (.g (.q z (.q z (bv h λy15 hy15 h=>.c (.cO s func15 (mT hy15 s.lv s.p9.lv) z z ?_))))))))))
 intro W s
 refine .q z (.q z (.cu 4 97 ((!y15)||(y14.2 !=y3.2)) s ?_ ?_))
 ·refine .both (!y15) (λb=>?_) (λb=>?_)
  ·exact .xx b z (.xx b z (.xx b z (.s (pkt b z z z) z (.nil (ck 4 s z (iH b))))))
  have hg4:=b
  exact .g hg4 (.q z (.g hg4 (.q z (.g hg4 (.s (neb u4 z z z) z (.s (pkf hg4 z z z) z (.nil (ck 4 s z (gS hg4)))))))))
 intro W s
 refine .nil ?_
 refine .cs z h ?_ ?_ <;> intro h
 ·obtain rfl:=o9 h
  exact .g (.qn z (.ret (aa () (rt z rn) z (s.to []))))
 refine .skip (.g (.qn z (.g (.q z (.q z (bv h λy16 hy16 h=>.c (.cO s func19 (oe hy16 s.p3.lv) z z ?_)))))))
 intro W s
 refine .qn z (.seq (.g (.q z (.q z (.nil ?_)))))
 refine .cs z h ?_ ?_ <;> intro h
 ·obtain rfl:=o9 h
  exact .g (.qn z (.ret (aa () (rt z rn) z (s.to []))))
 refine .skip (.seq (.g (.q z (.q z (.q z (.nil ?_))))))
 refine .cs z h ?_ ?_ <;> intro h
 ·obtain rfl:=o9 h
  exact .g (.qn z (.ret (aa () (rt z rn) z (s.to []))))
 obtain rfl:=o9 h
 exact .skip (.g (.qn z (.ret (aa () (rt z rn) z (s.to [])))))
end

end Go.Proofs.YtfpngipcclmliaaGreatDoor.N
