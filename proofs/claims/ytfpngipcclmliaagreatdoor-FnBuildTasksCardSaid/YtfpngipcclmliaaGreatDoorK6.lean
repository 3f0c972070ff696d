/- Printed by a program of mine: that the program's functions compute it. -/
import Derived.Test.YtfpngipcclmliaaGreatDoorK5
set_option linter.unusedVariables false
set_option linter.unusedSimpArgs false
set_option maxRecDepth 100000
set_option maxHeartbeats 4000000
namespace Go.Proofs.YtfpngipcclmliaaGreatDoor.N
open Go.Proofs.YtfpngipcclmliaaGreatDoor.X
open T Tryz
noncomputable section
theorem pQ {k:Nat} {a0:aA} {aN:Hd} {aG:Hd} {w:World} {r:Bool} (h:fL k a0=some r) (cL:RO w aN 3 1 (D.int .i64) a0.Rooms) (aI:RO w aG 93 1 (λ(l:List ah)=>D.row 95 8 (l.map ak)) a0.Tasks):CL 64 #[.agg #[sv aN,sv aG]] w (RU w (.bool r)):=by
 unfold fL at h
 refine ao func64 z z ?_
 have s:=Sep.start w
 refine .g (.c (.box s z z ?_))
 intro g1 W s
 refine .qn z (.seq (.g (.s (fa f26_0 z z z) z (.s (ld t23 s z z z z z) z (bv h λy1 hy1 h=>.c (.cO s func53 (rv hy1 (s.keep cL)) z z ?_))))))
 intro W s
 refine .q z (.q z (.cu 5 14 ((!y1)||(decide ((a0.Tasks.length:Int)<1))) s ?_ ?_))
 ·refine .both (!y1) (λb=>?_) (λb=>?_)
  ·exact .xx b z (.xx b z (.xx b z (.xx b z (.s (pkt b z z z) z (.nil (ck 5 s z (gY b)))))))
  have hg1:=b
  exact .g hg1 (.s (fa f26_1 z z z) z (.g hg1 (.s (ld t24 s z z z z z) z (.g hg1 (.s (aJ (s.keep aI) u24 z z) z (.g hg1 (.q z (.s (pkf hg1 z z z) z (.nil (ck 5 s z (gr hg1)))))))))))
 intro W s
 refine .q z (.cu 5 20 (((!y1)||(decide ((a0.Tasks.length:Int)<1)))||(decide ((a0.Tasks.length:Int)>3))) s ?_ ?_)
 ·refine .both ((!y1)||(decide ((a0.Tasks.length:Int)<1))) (λb=>?_) (λb=>?_)
  ·exact .xx b z (.xx b z (.xx b z (.xx b z (.s (pkt b z z z) z (.nil (ck 5 s z (gY b)))))))
  have hg2:=b
  exact .g hg2 (.s (fa f26_1 z z z) z (.g hg2 (.s (ld t24 s z z z z z) z (.g hg2 (.s (aJ (s.keep aI) u24 z z) z (.g hg2 (.q z (.s (pkf hg2 z z z) z (.nil (ck 5 s z (gr hg2)))))))))))
 intro W s
 refine .nil ?_
 refine .cs z h ?_ ?_ <;> intro h
 ·obtain rfl:=o9 h
  exact .g (.qn z (.ret (aa () (rt z rn) z (s.to []))))
 refine .skip (.seq (.g (.s (fa f26_1 z z z) z (.s (ld t24 s z z z z z) z (.s (aJ (s.keep aI) u24 z z) z (.qn z (.block (bv h λy2 hy2 h=>?_))))))))
 refine .via (.iter (λs1 E' W'=>al E' [(1,Pt g1),(22,(sv aG)),(23,vi (a0.Tasks.length:Int)),(24,vi s1)]/\Sep No w W' [.box g1 26 [sv aN,sv aG]]) (λy3 x E' W'=>(match y3 with | .inl o1=>x=.ret/\qu w o1 E' W' | .inr o2=>x=.exit 0/\al E' []/\Sep No w W' [.box g1 26 [sv aN,sv aG]])) hy2 ⟨sb rfl,s.tk [0]⟩ ?_) ?_
 ·intro s1 y4 E W h hI
  obtain ⟨hE,s⟩:=hI
  refine CW.sub hE ?_
  unfold fK at h
  refine .g (.qn z (.seq ?_))
  refine .cs z h ?_ ?_ <;> intro h
  ·refine .skip (.seq (.block (.g (bv h λx1 hx1 h=>?_))))
   obtain ⟨k1,hd,hck1⟩:=RV.el2 aI hx1
   obtain ⟨v1,k1,rfl,q1,hd1⟩:=cU aI hd
   obtain rfl:=mO aI hd1
   refine .s (ixv (s.keep aI) hx1 u24 t93 z z z) z (.s (lde (hck1 _ s.agree) t93 z z z z z) z (.qn z (.g (.q z (.s (fa f26_0 z z z) z (.s (ld t23 s z z z z z) z (.s (aJ (s.keep cL) u23 z z) z (bv h λy5 hy5 h=>.c (.cO s func119 (ry hy5 (s.keep (q1 _ aI))) z z ?_)))))))))
   intro W s
   refine .q z (.nil ?_)
   refine .cs z h ?_ ?_ <;> intro h
   ·refine .g (.qn z (.ret ?_))
    cases h
    exact ⟨by simp,z,aa (vs:=[_]) () (rt z rn) z (s.to [])⟩
   refine .skip (.region (.q z (.q z (.nil ?_))))
   cases h
   exact ⟨z,sb z,s.tk [0]⟩
  refine .exit ?_
  cases h
  exact ⟨by simp,z,sb z,s.tk [0]⟩
 intro x E W hJ
 rcases y2 with o3 | o4
 ·have h:=dG h
  obtain ⟨rfl,hF⟩:=hJ
  refine ⟨_,λ_ _ h=>h,?_⟩
  cases h
  exact hF
 have h:=dH h
 obtain ⟨rfl,hE,s⟩:=hJ
 refine ⟨_,hE.sub,?_⟩
 obtain rfl:=o9 h
 exact .g (.qn z (.ret (aa () (rt z rn) z (s.to []))))
def iq (F:Expr->Int->List ab->Option ((List ab))):Prop:=∀ {a0:Expr} {a1:Int} {a2:List ab} {bC:Hd} {v_2:Hd} {S:Nat->Prop} {w:World} {r:(List ab)} (h:F a0 a1 a2=some r) (ax:RV w (Old S w) (sv bC) 91 3 aK a0.Args) (hO:bw w [ac (sv v_2) 70 5 ae a2] S) (hlt:∀ b,S b->b<w.heap.size) , CL 209 #[.agg #[vi a0.Op,vi a0.N,sv bC],vi a1,sv v_2] w (Ret S w (λs:Hd=>(sv s)) (λs=>[ac (sv s) 70 5 ae r]))
theorem rz {k:Nat} {eZ:Expr->Int->List ab->Option ((List ab))} (m7:iq eZ):iq (eY k eZ):=by
 intro a0 a1 a2 bC v_2 S w r h ax hO hlt
 unfold eY at h
 refine ao func209 z z ?_
 have s:=Sep.sm hO hlt
 refine .g (.c (.box s z z ?_))
 intro g1 W s
 refine .qn z (.seq (.g (.s (fa f91_0 z z z) z (.s (ld t3 s z z z z z) z (.nil (.block (.g (.q z (.q z (.nil ?_))))))))))
 refine .cs z h ?_ ?_ <;> intro h
 ·refine .g (.q z (.q z (.s (fa f91_1 z z z) z (.s (ld t3 s z z z z z) z (.s (bs T.s70 z z) z (.c (.liv [(ab.mk 1 a1 0 0 a0.N)] ae u38 t70 s z z z z ?_ z (λ_=>z))))))))
  intro v1 W s
  refine bv h λr1 hr1 h=>?_
  have hT0:=s.p2
  refine .c (.av hr1 hT0 hT0.p1.lv (λ_=>z) u38 t70 z z z ?_)
  intro v2 W s
  obtain rfl:=o9 h
  exact .qn z (.ret (aa v2 (rt z rn) z (s.tk [0])))
 refine .g (.q z (.qn z (.cond z (λb=>?_) (λb=>?_))))
 ·have h:=aC b h
  refine .g (.q z (.q z (.s (fa f91_1 z z z) z (.s (ld t3 s z z z z z) z (.s (bs T.s70 z z) z (.c (.liv [(ab.mk 2 a1 a0.N 0 0)] ae u38 t70 s z z z z ?_ z (λ_=>z))))))))
  intro v3 W s
  refine bv h λr2 hr2 h=>?_
  have hT0:=s.p2
  refine .c (.av hr2 hT0 hT0.p1.lv (λ_=>z) u38 t70 z z z ?_)
  intro v4 W s
  obtain rfl:=o9 h
  exact .qn z (.ret (aa v4 (rt z rn) z (s.tk [0])))
 have h:=aD b h
 refine .skip (.g (.s (fa f91_2 z z z) z (.s (ld t89 s z z z z z) z (bv h λx1 hx1 h=>?_))))
 obtain ⟨k1,hd,hck1⟩:=RV.el2 ax hx1
 have hd1:=j7 (cH _) hd
 obtain ⟨k1,rfl,hd2⟩:=bQ ax z hd1
 obtain ⟨k1,rfl,hd3⟩:=bQ ax z hd2
 obtain ⟨v5,k1,rfl,q1,hd4⟩:=cU ax hd3
 obtain rfl:=mO ax hd4
 refine .s (ixv (s.keep ax) hx1 u89 t91 z z z) z (.s (lde (hck1 _ s.agree) t91 z z z z z) z (.q z (.q z (bv h λy1 hy1 h=>?_))))
 have s:=s.p1
 refine .c (.cS (L0:=[ac (sv v_2) 70 5 ae a2]) s func209 (λS h1 h2 h3=>(m7 hy1 (s.ks (q1 _ ax) h1) h2 (zz h1))) z z ?_)
 rintro v6 W s
 refine .qn z (.g (.s (fa f91_2 z z z) z (.s (ld t89 s.p1 z z z z z) z (bv h λx2 hx2 h=>?_))))
 obtain ⟨k2,hd,hck2⟩:=RV.el2 ax hx2
 have hd1:=j7 (cH _) hd
 obtain ⟨k2,rfl,hd2⟩:=bQ ax z hd1
 obtain ⟨k2,rfl,hd3⟩:=bQ ax z hd2
 obtain ⟨v7,k2,rfl,q2,hd4⟩:=cU ax hd3
 obtain rfl:=mO ax hd4
 refine .s (ixv (s.keep ax) hx2 u89 t91 z z z) z (.s (lde (hck2 _ s.agree) t91 z z z z z) z (.q z (.q z (.q z (bv h λy2 hy2 h=>.c (.cS (L0:=[ac (sv v6) 70 5 ae y1]) s func209 (λS h1 h2 h3=>(m7 hy2 (s.ks (q2 _ ax) h1) h2 (zz h1))) z z ?_))))))
 rintro v8 W s
 refine .qn z (.g (.q z (.q z (.q z (.q z (.q z (.s (fa f91_0 z z z) z (.s (ld t3 s.p1 z z z z z) z (.s (bs T.s70 z z) z (.c (.liv [(ab.mk 3 a1 a1 (w64 (a1+1)) a0.Op)] ae u38 t70 s z z z z ?_ z (λ_=>z))))))))))))
 intro v9 W s
 refine bv h λr3 hr3 h=>?_
 have hT0:=s.p1
 refine .c (.av hr3 hT0 hT0.p1.lv (λ_=>z) u38 t70 z z z ?_)
 intro v10 W s
 obtain rfl:=o9 h
 exact .qn z (.ret (aa v10 (rt z rn) z (s.tk [0])))
theorem oy (k:Nat):iq (eR k):=by
  induction k with
  | zero=>exact by intro a0 a1 a2 bC v_2 S w r h ax hO hlt; exact no h
  | succ k ih=>exact rz (k:=k) ih
theorem qv {k:Nat}:iq (eR k):=(oy k)
def ed (F:List ah->List ab->Option ((List ab))):Prop:=∀ {a0:List ah} {a1:List ab} {v_0:Hd} {v_1:Hd} {S:Nat->Prop} {w:World} {r:(List ab)} (h:F a0 a1=some r) (q_0:RV w (Old S w) (sv v_0) 95 8 ak a0) (hO:bw w [ac (sv v_1) 70 5 ae a1] S) (hlt:∀ b,S b->b<w.heap.size) , CL 120 #[sv v_0,sv v_1] w (Ret S w (λs:Hd=>(sv s)) (λs=>[ac (sv s) 70 5 ae r]))
def ir (F:ah->List ab->Option ((List ab))):Prop:=∀ {a0:ah} {a1:List ab} {ay:Hd} {ba:Hd} {bc:Hd} {v_1:Hd} {S:Nat->Prop} {w:World} {r:(List ab)} (h:F a0 a1=some r) (au:RV w (Old S w) (sv ay) 91 3 aK a0.Expr.Args) (be:RV w (Old S w) (sv ba) 95 8 ak a0.Body) (aZ:RV w (Old S w) (sv bc) 95 8 ak a0.Else) (hO:bw w [ac (sv v_1) 70 5 ae a1] S) (hlt:∀ b,S b->b<w.heap.size) , CL 163 #[.agg #[vi a0.Kind,vi a0.Var,vi a0.Box,vi a0.Expr.Op,vi a0.Expr.N,sv ay,sv ba,sv bc],sv v_1] w (Ret S w (λs:Hd=>(sv s)) (λs=>[ac (sv s) 70 5 ae r]))
theorem qw {k:Nat} {bH:List ah->List ab->Option ((List ab))} {bB:ah->List ab->Option ((List ab))} (jD:ed bH) (m8:ir bB):ed (d6 k bH bB):=by
 intro a0 a1 v_0 v_1 S w r h q_0 hO hlt
 unfold d6 at h
 refine ao func120 z z ?_
 have s:=Sep.sm hO hlt
 refine .g (.qn z (.seq (.g (.q z (.s (aJ (s.keep q_0) u93 z z) z (.qn z (.block (bv h λy1 hy1 h=>?_))))))))
 refine .via (.iter (λs1 E' W'=>∃ (v3:Hd),al E' [(1,(sv v3)),(7,(sv v_0)),(8,vi (a0.length:Int)),(9,vi s1.2)]/\Sep S w W' [ac (sv v3) 70 5 ae s1.1]) (λy2 x E' W'=>x=.exit 0/\∃ (v4:Hd),al E' [(1,(sv v4))]/\Sep S w W' [ac (sv v4) 70 5 ae y2]) hy1 ⟨v_1,sb z,s.tk [0]⟩ ?_) ?_
 ·intro s1 y3 E W h hI
  obtain ⟨v2,hE,s⟩:=hI
  refine CW.sub hE ?_
  unfold jk at h
  refine .g (.qn z (.seq (.cond z (λb=>?_) (λb=>?_))))
  ·have h:=aC b h
   refine .skip (.seq (.block (.g (bv h λx1 hx1 h=>?_))))
   obtain ⟨k1,hd,hck1⟩:=RV.el2 q_0 hx1
   have hd1:=j7 (eI _) hd
   obtain ⟨k1,rfl,hd2⟩:=bQ q_0 z hd1
   obtain ⟨k1,rfl,hd3⟩:=bQ q_0 z hd2
   obtain ⟨k1,rfl,hd4⟩:=bQ q_0 z hd3
   have hd5:=j7 (cH _) hd4
   obtain ⟨k1,rfl,hd6⟩:=bQ q_0 z hd5
   obtain ⟨k1,rfl,hd7⟩:=bQ q_0 z hd6
   obtain ⟨v5,k1,rfl,q5,hd8⟩:=cU q_0 hd7
   obtain ⟨v6,k1,rfl,q6,hd9⟩:=cU q_0 hd8
   obtain ⟨v7,k1,rfl,q7,hd10⟩:=cU q_0 hd9
   obtain rfl:=mO q_0 hd10
   refine .s (ixv (s.keep q_0) hx1 u93 t95 z z z) z (.s (lde (hck1 _ s.agree) t95 z z z z z) z (.c (.alloc t95 s ?_)))
   intro g1 W s
   refine .c (.st t95 s z z z ?_)
   intro W s
   refine .nil (.region (.s (ld t95 s z z z z z) z (.q z (bv h λy4 hy4 h=>?_))))
   have s:=s.p1
   refine .c (.cS (L0:=[ac (sv v2) 70 5 ae s1.1]) s func163 (λS h1 h2 h3=>(m8 hy4 (s.ks (q5 _ q_0) h1) (s.ks (q6 _ q_0) h1) (s.ks (q7 _ q_0) h1) h2 (zz h1))) z z ?_)
   rintro v8 W s
   refine .qn z (.region (.q z (.q z (.nil ?_))))
   cases h
   exact ⟨z,v8,sb z,s.tk [0]⟩
  have h:=aD b h
  refine .exit ?_
  cases h
  exact ⟨by simp,z,v2,sb z,s.tk [0]⟩
 intro x E W hJ
 obtain ⟨rfl,v9,hE,s⟩:=hJ
 refine ⟨_,hE.sub,?_⟩
 obtain rfl:=o9 h
 exact .g (.q z (.qn z (.ret (aa v9 (rt z rn) z (s.tk [0])))))
theorem rC {k:Nat} {bH:List ah->List ab->Option ((List ab))} {bB:ah->List ab->Option ((List ab))} (jD:ed bH) (m8:ir bB):ir (cI k bH bB):=by
 intro a0 a1 ay ba bc v_1 S w r h au be aZ hO hlt
 unfold cI at h
 refine ao func163 z z ?_
 have s:=Sep.sm hO hlt
 refine .g (.c (.box s z z ?_))
 intro g1 W s
 refine .qn z (.g (.q z (.s (aJ s.p1.lv u38 z z) z (.qn z (bv h λy1 hy1 h=>?_)))))
 refine .seq (CW.via (R':=λx E' W'=>x=.normal/\∃ (v1:Hd),al E' [(1,(sv v1)),(2,Pt g1),(5,vi (a1.length:Int))]/\Sep S w W' [.box g1 95 [vi a0.Kind,vi a0.Var,vi a0.Box,vi a0.Expr.Op,vi a0.Expr.N,sv ay,sv ba,sv bc],ac (sv v1) 70 5 ae y1]) ?_ ?_)
 ·have h:=hy1
  refine .g (.s (fa f95_0 z z z) z (.s (ld t3 s z z z z z) z (.q z (.q z (.cu 4 17 ((a0.Kind !=5)&&(a0.Kind !=6)) s ?_ ?_)))))
  ·refine .both (a0.Kind !=5) (λb=>?_) (λb=>?_)
   ·have hg1:=b
    exact .g hg1 (.s (fa f95_0 z z z) z (.g hg1 (.s (ld t3 s z z z z z) z (.g hg1 (.q z (.s (pkt hg1 z z z) z (.nil (ck 4 s z (bp hg1)))))))))
   exact .xx b z (.xx b z (.xx b z (.s (pkf b z z z) z (.nil (ck 4 s z (bq b))))))
  intro W s
  refine .nil (.cond z (λb=>?_) (λb=>?_))
  ·have h:=aC b h
   refine .region (.s (fa f95_3 z z z) z (.s (ld t91 s z z z z z) z (.q z (bv h λy2 hy2 h=>?_))))
   have s:=s.p1
   refine .c (.cS (L0:=[ac (sv v_1) 70 5 ae a1]) s func209 (λS h1 h2 h3=>(qv hy2 (s.ks au h1) h2 (zz h1))) z z ?_)
   rintro v2 W s
   refine .q z (.nil ?_)
   obtain rfl:=o9 h
   exact ⟨z,v2,sb z,s.tk [1,0]⟩
  have h:=aD b h
  refine .skip ?_
  obtain rfl:=o9 h
  exact ⟨z,v_1,sb z,s.tk [0,0]⟩
 intro x E W hJ
 obtain ⟨rfl,v3,hE,s⟩:=hJ
 refine ⟨_,hE.sub,?_⟩
 refine .seq (.g (.s (fa f95_0 z z z) z (.s (ld t3 s z z z z z) z (.nil (.block (.g (.q z (.q z (.nil ?_)))))))))
 refine .cs z h ?_ ?_ <;> intro h
 ·refine .g (.q z (.s (fa f95_1 z z z) z (.s (ld t3 s z z z z z) z (.s (bs T.s70 z z) z (.c (.liv [(ab.mk 2 a0.Var 4 0 0)] ae u38 t70 s z z z z ?_ z (λ_=>z)))))))
  intro v4 W s
  refine bv h λr1 hr1 h=>?_
  have hT0:=s.p2
  refine .c (.av hr1 hT0 hT0.p1.lv (λ_=>z) u38 t70 z z z ?_)
  intro v5 W s
  obtain rfl:=o9 h
  exact .qn z (.ret (aa v5 (rt z rn) z (s.tk [0])))
 refine .g (.q z (.q z (.nil ?_)))
 refine .cs z h ?_ ?_ <;> intro h
 ·refine .g (.q z (.s (fa f95_2 z z z) z (.s (ld t3 s z z z z z) z (.s (bs T.s70 z z) z (.c (.liv [(ab.mk 6 0 4 0 a0.Box)] ae u38 t70 s z z z z ?_ z (λ_=>z)))))))
  intro v6 W s
  refine bv h λr2 hr2 h=>?_
  have hT0:=s.p2
  refine .c (.av hr2 hT0 hT0.p1.lv (λ_=>z) u38 t70 z z z ?_)
  intro v7 W s
  obtain rfl:=o9 h
  exact .qn z (.ret (aa v7 (rt z rn) z (s.tk [0])))
 refine .g (.q z (.q z (.nil ?_)))
 refine .cs z h ?_ ?_ <;> intro h
 ·refine .g (.q z (.s (fa f95_1 z z z) z (.s (ld t3 s z z z z z) z (.s (fa f95_2 z z z) z (.s (ld t3 s z z z z z) z (.s (bs T.s70 z z) z (.c (.liv [(ab.mk 7 a0.Var 0 0 a0.Box)] ae u38 t70 s z z z z ?_ z (λ_=>z)))))))))
  intro v8 W s
  refine bv h λr3 hr3 h=>?_
  have hT0:=s.p2
  refine .c (.av hr3 hT0 hT0.p1.lv (λ_=>z) u38 t70 z z z ?_)
  intro v9 W s
  obtain rfl:=o9 h
  exact .qn z (.ret (aa v9 (rt z rn) z (s.tk [0])))
 refine .g (.q z (.q z (.nil ?_)))
 refine .cs z h ?_ ?_ <;> intro h
 ·refine .g (.q z (.s (bs T.s70 z z) z (.c (.liv [(ab.mk 8 0 0 0 0)] ae u38 t70 s z z z z ?_ z (λ_=>z)))))
  intro v10 W s
  refine bv h λr4 hr4 h=>?_
  have hT0:=s.p2
  refine .c (.av hr4 hT0 hT0.p1.lv (λ_=>z) u38 t70 z z z ?_)
  intro v11 W s
  obtain rfl:=o9 h
  exact .qn z (.ret (aa v11 (rt z rn) z (s.tk [0])))
 refine .g (.q z (.qn z (.cond z (λb=>?_) (λb=>?_))))
 ·have h:=aC b h
  refine .g (.q z (.s (bs T.s70 z z) z (.c (.liv [(ab.mk 9 0 4 0 0)] ae u38 t70 s z z z z ?_ z (λ_=>z)))))
  intro v12 W s
  refine bv h λr5 hr5 h=>?_
  have hT0:=s.p2
  refine .c (.av hr5 hT0 hT0.p1.lv (λ_=>z) u38 t70 z z z ?_)
  intro v13 W s
  obtain rfl:=o9 h
  exact .qn z (.ret (aa v13 (rt z rn) z (s.tk [0])))
 have h:=aD b h
 refine .skip (.g (.q z (.s (aJ s.p1.lv u38 z z) z (.qn z (.seq (.rk 8 s [0] T.mix ?_))))))
 intro W s
 have t:=s.to [0]
 refine .ts' 0 z (λW t=>fa f95_4 z z z) t z (.ts' 1 z (λW t=>ld t93 t z z z z z) t z (.tp' 2 z z t (.ts' 3 z (λW t=>bs T.s70 z z) t z (.by1 4 z (.liv [(ab.mk 5 0 4 0 0)] ae u38 t70 s z z z z ?_ z (λ_=>z))))))
 intro v14 W s
 refine s.an [1] λt=>bv h λr6 hr6 h=>?_
 have hT0:=s.p2
 refine .by1 5 z (.av hr6 hT0 hT0.p1.lv (λ_=>z) u38 t70 z z z ?_)
 intro v15 W s
 refine s.an [2] λt=>bv h λy3 hy3 h=>.by1 6 z (.cS (L0:=[ac (sv v15) 70 5 ae r6]) s func120 (λS h1 h2 h3=>(jD hy3 (s.ks be h1) h2 (zz h1))) z z ?_)
 rintro v16 W s
 refine s.an [2] λt=>.tp' 7 z z t (.done (bv h λy4 hy4 h=>?_))
 refine .seq (CW.via (R':=λx E' W'=>x=.normal/\∃ (v17:Hd),al E' [(1,(sv v17)),(2,Pt g1),(6,vi (y1.length:Int))]/\Sep S w W' [ac (sv v14) 70 5 ae [(ab.mk 5 0 4 0 0)],.box g1 95 [vi a0.Kind,vi a0.Var,vi a0.Box,vi a0.Expr.Op,vi a0.Expr.N,sv ay,sv ba,sv bc],ac (sv v17) 70 5 ae y4]) ?_ ?_)
 ·have h:=hy4
  refine .g (.s (fa f95_0 z z z) z (.s (ld t3 s.p2 z z z z z) z (.q z (.nil ?_))))
  refine .cs z h ?_ ?_ <;> intro h
  ·refine .region (.q z (.q z (.s (bs T.s70 z z) z (.c (.liv [(ab.mk 4 0 0 0 (a1.length:Int))] ae u38 t70 s z z z z ?_ z (λ_=>z))))))
   intro v18 W s
   refine bv h λr7 hr7 h=>?_
   have hT0:=s.p1
   refine .c (.av hr7 hT0 hT0.p1.lv (λ_=>z) u38 t70 z z z ?_)
   intro v19 W s
   refine .q z (.nil ?_)
   obtain rfl:=o9 h
   exact ⟨z,v19,sb z,s.tk [2,2,0]⟩
  refine .skip ?_
  obtain rfl:=o9 h
  exact ⟨z,v16,sb z,s.tk [1,1,0]⟩
 intro x E W hJ
 obtain ⟨rfl,v20,hE,s⟩:=hJ
 refine ⟨_,hE.sub,?_⟩
 refine .g (.q z (.s (aJ s.p2.lv u38 z z) z (.qn z (bv h λy5 hy5 h=>?_))))
 refine .seq (CW.via (R':=λx E' W'=>x=.normal/\∃ (v21:Hd),al E' [(1,(sv v21)),(2,Pt g1),(6,vi (y1.length:Int)),(7,vi (y4.length:Int))]/\Sep S w W' [ac (sv v14) 70 5 ae [(ab.mk 5 0 4 0 0)],.box g1 95 [vi a0.Kind,vi a0.Var,vi a0.Box,vi a0.Expr.Op,vi a0.Expr.N,sv ay,sv ba,sv bc],ac (sv v21) 70 5 ae y5]) ?_ ?_)
 ·have h:=hy5
  refine .g (.s (fa f95_5 z z z) z (.s (ld t93 s.p1 z z z z z) z (.s (aJ (s.keep aZ) u93 z z) z (.q z (.nil ?_)))))
  refine .cs z h ?_ ?_ <;> intro h
  ·refine .region (.q z (.s (bs T.s70 z z) z (.c (.liv [(ab.mk 4 0 0 0 0)] ae u38 t70 s z z z z ?_ z (λ_=>z)))))
   intro v22 W s
   refine bv h λr8 hr8 h=>?_
   have hT0:=s.p3
   refine .c (.av hr8 hT0 hT0.p1.lv (λ_=>z) u38 t70 z z z ?_)
   intro v23 W s
   refine .q z (.nil ?_)
   obtain rfl:=o9 h
   exact ⟨z,v23,sb z,s.tk [2,2,0]⟩
  refine .skip ?_
  obtain rfl:=o9 h
  exact ⟨z,v20,sb z,s.tk [0,0,0]⟩
 intro x E W hJ
 obtain ⟨rfl,v24,hE,s⟩:=hJ
 refine ⟨_,hE.sub,?_⟩
 refine .g (.q z (.q z (.q z (.s (aJ s.p2.lv u38 z z) z (bv h λx1 hx1 h=>.s (ixv s.p2.lv hx1 u38 t70 z z z) z (.s (fe f70_4 z z z) z (bv h λr9 hr9 h=>.c (.sev hr9 hx1 s.p2 t3 z z z z z z ?_))))))))
 intro W s
 refine .nil (.seq (.g (.s (fa f95_5 z z z) z (.s (ld t93 s.p2 z z z z z) z (.s (aJ (s.keep aZ) u93 z z) z (.qn z (.cond z (λb=>?_) (λb=>?_))))))))
 ·have h:=aC b h
  refine .g (.s (fa f95_5 z z z) z (.s (ld t93 s.p2 z z z z z) z (.q z (bv h λy6 hy6 h=>.c (.cS (L0:=[ac (sv v24) 70 5 ae r9]) s func120 (λS h1 h2 h3=>(jD hy6 (s.ks aZ h1) h2 (zz h1))) z z ?_)))))
  rintro v25 W s
  refine .qn z (.region (.q z (.q z (.q z (.s (aJ s.lv u38 z z) z (bv h λx2 hx2 h=>.s (ixv s.lv hx2 u38 t70 z z z) z (.s (fe f70_4 z z z) z (bv h λr10 hr10 h=>.c (.sev hr10 hx2 s t3 z z z z z z ?_)))))))))
  intro W s
  obtain rfl:=o9 h
  exact .nil (.g (.q z (.qn z (.ret (aa v25 (rt z rn) z (s.tk [0]))))))
 have h:=aD b h
 obtain rfl:=o9 h
 exact .skip (.g (.q z (.qn z (.ret (aa v24 (rt z rn) z (s.tk [0]))))))
theorem nZ (k:Nat):ed (cn k)/\ir (eS k):=by
  induction k with
  | zero=>exact ⟨by intro a0 a1 v_0 v_1 S w r h q_0 hO hlt; exact no h,by intro a0 a1 ay ba bc v_1 S w r h au be aZ hO hlt; exact no h⟩
  | succ k ih=>exact ⟨qw (k:=k) ih.1 ih.2,rC (k:=k) ih.1 ih.2⟩
theorem pR {k:Nat}:ed (cn k):=(nZ k).1
theorem qx {k:Nat} {a0:List ah} {v_0:Hd} {w:World} {r:(List ab)} (h:gA k a0=some r) (q_0:RO w v_0 95 8 ak a0):CL 65 #[sv v_0] w (Ret No w (λs:Hd=>(sv s)) (λs=>[ac (sv s) 70 5 ae r])):=by
 unfold gA at h
 refine ao func65 z z ?_
 have s:=Sep.start w
 refine .g (.qn z (.g (.q z ?_)))
 have s:=s.nilv 70 5 ae
 refine bv h λy1 hy1 h=>.c (.cS (L0:=[ac (sv aF) 70 5 ae []]) s func120 (λS h1 h2 h3=>(pR hy1 (s.ks q_0 h1) h2 (zz h1))) z z ?_)
 rintro v1 W s
 refine .s (bs T.s70 z z) z (.c (.liv [(ab.mk 10 0 0 0 0)] ae u38 t70 s z z z z ?_ z (λ_=>z)))
 intro v2 W s
 refine bv h λr1 hr1 h=>?_
 have hT0:=s.p1
 refine .c (.av hr1 hT0 hT0.p1.lv (λ_=>z) u38 t70 z z z ?_)
 intro v3 W s
 obtain rfl:=o9 h
 exact .qn z (.ret (aa v3 (rt z rn) z (s.tk [0])))
theorem oS {k:Nat} {a0:aA} {aN:Hd} {aG:Hd} {w:World} {r:(List (List ab))×Bool} (h:c7 k a0=some r) (cL:RO w aN 3 1 (D.int .i64) a0.Rooms) (aI:RO w aG 93 1 (λ(l:List ah)=>D.row 95 8 (l.map ak)) a0.Tasks):CL 34 #[.agg #[sv aN,sv aG]] w (Ret No w (λs:Hd=>.tuple #[sv s,.bool r.2]) (λs=>[ac (sv s) 38 1 (λ(l:List ab)=>D.row 70 5 (l.map ae)) r.1])):=by
 unfold c7 at h
 refine ao func34 z z ?_
 have s:=Sep.start w
 refine .g (.c (.box s z z ?_))
 intro g1 W s
 refine .q z (.qn z (.seq (.g (.s (ld t26 s z z z z z) z (bv h λy1 hy1 h=>.c (.cO s func64 (pQ hy1 (s.keep cL) (s.keep aI)) z z ?_))))))
 intro W s
 refine .q z (.nil ?_)
 refine .cs z h ?_ ?_ <;> intro h
 ·refine .g (.q z (.qn z (.ret ?_)))
  have s:=s.nilv 38 1 (λ(l:List ab)=>D.row 70 5 (l.map ae))
  cases h
  exact aa (vs:=[_,_]) aF (rt z (rt z rn)) z (s.tk [0])
 refine .skip (.g (.qn z (.seq (.g (.s (fa f26_1 z z z) z (.s (ld t24 s z z z z z) z (.s (aJ (s.keep aI) u24 z z) z (.qn z (.block ?_)))))))))
 have s:=s.nilv 38 1 (λ(l:List ab)=>D.row 70 5 (l.map ae))
 refine bv h λy2 hy2 h=>?_
 refine .via (.iter (λs1 E' W'=>∃ (v3:Hd),al E' [(4,(sv v3)),(11,(sv aG)),(12,vi (a0.Tasks.length:Int)),(13,vi s1.2)]/\Sep No w W' [.box g1 26 [sv aN,sv aG],ac (sv v3) 38 1 (λ(l:List ab)=>D.row 70 5 (l.map ae)) s1.1]) (λy3 x E' W'=>x=.exit 0/\∃ (v4:Hd),al E' [(4,(sv v4))]/\Sep No w W' [.box g1 26 [sv aN,sv aG],ac (sv v4) 38 1 (λ(l:List ab)=>D.row 70 5 (l.map ae)) y3]) hy2 ⟨aF,sb z,s.tk [1,0]⟩ ?_) ?_
 ·intro s1 y4 E W h hI
  obtain ⟨v2,hE,s⟩:=hI
  refine CW.sub hE ?_
  unfold eo at h
  refine .g (.qn z (.seq ?_))
  refine .cs z h ?_ ?_ <;> intro h
  ·refine .skip (.seq (.block (.g (bv h λx1 hx1 h=>?_))))
   obtain ⟨k1,hd,hck1⟩:=RV.el2 aI hx1
   obtain ⟨v5,k1,rfl,q5,hd1⟩:=cU aI hd
   obtain rfl:=mO aI hd1
   refine .s (ixv (s.keep aI) hx1 u24 t93 z z z) z (.s (lde (hck1 _ s.agree) t93 z z z z z) z (.qn z (.region (.q z (.q z (bv h λy5 hy5 h=>.c (.cV s func65 (qx hy5 (s.keep (q5 _ aI))) z z ?_)))))))
   intro v6 W s
   refine .c (.lg (L1:=[ac (sv v6) 70 5 ae y5]) [y5] (λ(l:List ab)=>D.row 70 5 (l.map ae)) u32 t38 (s.to [0,0,0]) z z z (.row (.nil)) ?_ z (λ_=>z))
   intro v7 W s
   refine bv h λr1 hr1 h=>.c (.appv hr1 (s.to [2,0,0]) u32 t38 z z z ?_)
   intro v8 W s
   refine .qn z (.region (.q z (.q z (.nil ?_))))
   cases h
   exact ⟨z,v8,sb z,s.tk [1,0]⟩
  refine .exit ?_
  cases h
  exact ⟨by simp,z,v2,sb z,s.tk [0,0]⟩
 intro x E W hJ
 obtain ⟨rfl,v9,hE,s⟩:=hJ
 refine ⟨_,hE.sub,?_⟩
 cases h
 exact .g (.q z (.q z (.qn z (.ret (aa (vs:=[_,_]) v9 (rt z (rt z rn)) z (s.tk [1]))))))
theorem n3 {a0:Int} {w:World} {r:Bool} (h:kY a0=some r):CL 172 #[vi a0] w (RU w (.bool r)):=by
 unfold kY at h
 refine ao func172 z z ?_
 have s:=Sep.start w
 refine .g (.qn z (.g (.q z (.q z (.q z (.cu 3 8 ((decide (a0>=0))&&(decide (a0<12))) s ?_ ?_))))))
 ·refine .both (decide (a0>=0)) (λb=>?_) (λb=>?_)
  ·have hg1:=b
   exact .g hg1 (.q z (.g hg1 (.q z (.s (pkt hg1 z z z) z (.nil (ck 3 s z (bp hg1)))))))
  exact .xx b z (.xx b z (.s (pkf b z z z) z (.nil (ck 3 s z (bq b)))))
 intro W s
 cases h
 exact .qn z (.ret (aa () (rt z rn) z (s.to [])))
theorem nV {a0:Int} {w:World} {r:Bool} (h:gB a0=some r):CL 173 #[vi a0] w (RU w (.bool r)):=by
 unfold gB at h
 refine ao func173 z z ?_
 have s:=Sep.start w
 refine .g (.qn z (.g (.q z (.q z (.q z (.cu 3 8 ((decide (a0>=(-2147483648)))&&(decide (a0<=2147483647))) s ?_ ?_))))))
 ·refine .both (decide (a0>=(-2147483648))) (λb=>?_) (λb=>?_)
  ·have hg1:=b
   exact .g hg1 (.q z (.g hg1 (.q z (.s (pkt hg1 z z z) z (.nil (ck 3 s z (bp hg1)))))))
  exact .xx b z (.xx b z (.s (pkf b z z z) z (.nil (ck 3 s z (bq b)))))
 intro W s
 cases h
 exact .qn z (.ret (aa () (rt z rn) z (s.to [])))
theorem sk {a0:ab} {a1:Int} {w:World} {r:Bool} (h:jl a0 a1=some r):CL 126 #[.agg #[vi a0.Op,vi a0.Dst,vi a0.A,vi a0.B,vi a0.N],vi a1] w (RU w (.bool r)):=by
 unfold jl at h
 refine ao func126 z z ?_
 have s:=Sep.start w
 refine .g (.c (.box s z z ?_))
 intro g1 W s
 refine .qn z (.seq (.rk 15 s [0] T.mix ?_))
 intro W s
 have t:=s.to [0]
 refine .ts' 0 z (λW t=>fa f70_1 z z z) t z (.ts' 1 z (λW t=>ld t3 t z z z z z) t z (.ts' 3 z (λW t=>fa f70_2 z z z) t z (.ts' 4 z (λW t=>ld t3 t z z z z z) t z (.ts' 6 z (λW t=>fa f70_3 z z z) t z (.ts' 7 z (λW t=>ld t3 t z z z z z) t z (.ts' 9 z (λW t=>fa f70_4 z z z) t z (.ts' 10 z (λW t=>ld t3 t z z z z z) t z (bv h λy1 hy1 h=>.by1 2 z (.cO s func172 (n3 hy1) z z ?_)))))))))
 intro W s
 refine s.an [0] λt=>bv h λy2 hy2 h=>.by1 5 z (.cO s func172 (n3 hy2) z z ?_)
 intro W s
 refine s.an [0] λt=>bv h λy3 hy3 h=>.by1 8 z (.cO s func172 (n3 hy3) z z ?_)
 intro W s
 refine s.an [0] λt=>.tp' 11 z z t (.tp' 12 z z t (.tp' 13 z z t (.tp' 14 z z t (.done (.seq (.g (.s (fa f70_0 z z z) z (.s (ld t3 s z z z z z) z (.nil (.block (.g (.q z (.q z (.nil ?_))))))))))))))
 refine .cs z h ?_ ?_ <;> intro h
 ·refine .g (.s (ld t70 s z z z z z) z (.s (fa f70_1 z z z) z (.s (ld t3 s z z z z z) z (.q z (.s (bs T.s70 z z) z (.s (eqs T.e70 z z z z) z (.q z (.cu 2 32 (((a0.Op==1)&&((a0.Dst==a0.Dst)&&((a0.A==0)&&((a0.B==0)&&((a0.N==a0.N)&&true)))))&&y1) s ?_ ?_))))))))
  ·refine .both (((a0.Op==1)&&((a0.Dst==a0.Dst)&&((a0.A==0)&&((a0.B==0)&&((a0.N==a0.N)&&true)))))) (λb=>?_) (λb=>?_)
   ·have hg1:=b
    exact .g hg1 (.q z (.s (pkt hg1 z z z) z (.nil (ck 2 s z (bp hg1)))))
   exact .xx b z (.s (pkf b z z z) z (.nil (ck 2 s z (bq b))))
  intro W s
  refine .q z (bv h λb1 hb1 h=>.cu 3 36 (b1) s ?_ ?_)
  ·refine .both (((a0.Op==1)&&((a0.Dst==a0.Dst)&&((a0.A==0)&&((a0.B==0)&&((a0.N==a0.N)&&true)))))&&y1) (λb=>?_) (λb=>?_)
   ·have hg2:=b
    have h:=aC b hb1
    refine .g hg2 (.q z (bv h λy4 hy4 h=>.g hg2 (.c (.cO s func173 (nV hy4) z z ?_))))
    intro W s
    refine .s (pkt hg2 z z z) z ?_
    cases h
    exact .nil (ck 3 s)
   refine .xx b z (.xx b z ?_)
   cases aD b hb1
   exact .s (pkf b z z z) z (.nil (ck 3 s))
  intro W s
  obtain rfl:=o9 h
  exact .qn z (.ret (aa () (rt z rn) z (s.to [])))
 refine .g (.q z (.q z (.nil ?_)))
 refine .cs z h ?_ ?_ <;> intro h
 ·refine .g (.s (ld t70 s z z z z z) z (.s (fa f70_1 z z z) z (.s (ld t3 s z z z z z) z (.s (fa f70_2 z z z) z (.s (ld t3 s z z z z z) z (.s (bs T.s70 z z) z (.s (eqs T.e70 z z z z) z (.q z (.cu 2 48 (((a0.Op==2)&&((a0.Dst==a0.Dst)&&((a0.A==a0.A)&&((a0.B==0)&&((a0.N==0)&&true)))))&&y1) s ?_ ?_)))))))))
  ·refine .both (((a0.Op==2)&&((a0.Dst==a0.Dst)&&((a0.A==a0.A)&&((a0.B==0)&&((a0.N==0)&&true)))))) (λb=>?_) (λb=>?_)
   ·have hg3:=b
    exact .g hg3 (.q z (.s (pkt hg3 z z z) z (.nil (ck 2 s z (bp hg3)))))
   exact .xx b z (.s (pkf b z z z) z (.nil (ck 2 s z (bq b))))
  intro W s
  refine .q z (.cu 2 51 ((((a0.Op==2)&&((a0.Dst==a0.Dst)&&((a0.A==a0.A)&&((a0.B==0)&&((a0.N==0)&&true)))))&&y1)&&y2) s ?_ ?_)
  ·refine .both (((a0.Op==2)&&((a0.Dst==a0.Dst)&&((a0.A==a0.A)&&((a0.B==0)&&((a0.N==0)&&true)))))&&y1) (λb=>?_) (λb=>?_)
   ·have hg4:=b
    exact .g hg4 (.q z (.s (pkt hg4 z z z) z (.nil (ck 2 s z (bp hg4)))))
   exact .xx b z (.s (pkf b z z z) z (.nil (ck 2 s z (bq b))))
  intro W s
  cases h
  exact .qn z (.ret (aa () (rt z rn) z (s.to [])))
 refine .g (.q z (.q z (.nil ?_)))
 refine .cs z h ?_ ?_ <;> intro h
 ·refine .g (.q z (.q z (.cu 2 57 (y1&&y2) s ?_ ?_)))
  ·refine .both (y1) (λb=>?_) (λb=>?_)
   ·have hg5:=b
    exact .g hg5 (.q z (.s (pkt hg5 z z z) z (.nil (ck 2 s z (bp hg5)))))
   exact .xx b z (.s (pkf b z z z) z (.nil (ck 2 s z (bq b))))
  intro W s
  refine .q z (.cu 2 60 ((y1&&y2)&&y3) s ?_ ?_)
  ·refine .both (y1&&y2) (λb=>?_) (λb=>?_)
   ·have hg6:=b
    exact .g hg6 (.q z (.s (pkt hg6 z z z) z (.nil (ck 2 s z (bp hg6)))))
   exact .xx b z (.s (pkf b z z z) z (.nil (ck 2 s z (bq b))))
  intro W s
  refine .q z (bv h λb2 hb2 h=>.cu 3 64 (b2) s ?_ ?_)
  ·refine .both ((y1&&y2)&&y3) (λb=>?_) (λb=>?_)
   ·have hg7:=b
    have h:=aC b hb2
    refine .g hg7 (.q z (bv h λy5 hy5 h=>.g hg7 (.c (.cO s func174 (oZ hy5) z z ?_))))
    intro W s
    refine .s (pkt hg7 z z z) z ?_
    cases h
    exact .nil (ck 3 s)
   refine .xx b z (.xx b z ?_)
   cases aD b hb2
   exact .s (pkf b z z z) z (.nil (ck 3 s))
  intro W s
  obtain rfl:=o9 h
  exact .qn z (.ret (aa () (rt z rn) z (s.to [])))
 refine .g (.q z (.q z (.nil ?_)))
 refine .cs z h ?_ ?_ <;> intro h
 ·refine .g (.s (ld t70 s z z z z z) z (.q z (.s (bs T.s70 z z) z (.s (eqs T.e70 z z z z) z (.q z (.cu 3 74 (((a0.Op==4)&&((a0.Dst==0)&&((a0.A==0)&&((a0.B==0)&&((a0.N==a0.N)&&true)))))&&(decide (a0.N>=0))) s ?_ ?_))))))
  ·refine .both (((a0.Op==4)&&((a0.Dst==0)&&((a0.A==0)&&((a0.B==0)&&((a0.N==a0.N)&&true)))))) (λb=>?_) (λb=>?_)
   ·have hg8:=b
    exact .g hg8 (.q z (.g hg8 (.q z (.s (pkt hg8 z z z) z (.nil (ck 3 s z (bp hg8)))))))
   exact .xx b z (.xx b z (.s (pkf b z z z) z (.nil (ck 3 s z (bq b)))))
  intro W s
  refine .q z (.cu 4 79 ((((a0.Op==4)&&((a0.Dst==0)&&((a0.A==0)&&((a0.B==0)&&((a0.N==a0.N)&&true)))))&&(decide (a0.N>=0)))&&(decide (a0.N<a1))) s ?_ ?_)
  ·refine .both (((a0.Op==4)&&((a0.Dst==0)&&((a0.A==0)&&((a0.B==0)&&((a0.N==a0.N)&&true)))))&&(decide (a0.N>=0))) (λb=>?_) (λb=>?_)
   ·have hg9:=b
    exact .g hg9 (.q z (.g hg9 (.q z (.g hg9 (.q z (.s (pkt hg9 z z z) z (.nil (ck 4 s z (bp hg9)))))))))
   exact .xx b z (.xx b z (.xx b z (.s (pkf b z z z) z (.nil (ck 4 s z (bq b))))))
  intro W s
  cases h
  exact .qn z (.ret (aa () (rt z rn) z (s.to [])))
 refine .g (.q z (.q z (.nil ?_)))
 refine .cs z h ?_ ?_ <;> intro h
 ·refine .g (.s (ld t70 s z z z z z) z (.s (fa f70_2 z z z) z (.s (ld t3 s z z z z z) z (.q z (.s (bs T.s70 z z) z (.s (eqs T.e70 z z z z) z (.q z (.cu 2 90 (((a0.Op==5)&&((a0.Dst==0)&&((a0.A==a0.A)&&((a0.B==0)&&((a0.N==a0.N)&&true)))))&&y2) s ?_ ?_))))))))
  ·refine .both (((a0.Op==5)&&((a0.Dst==0)&&((a0.A==a0.A)&&((a0.B==0)&&((a0.N==a0.N)&&true)))))) (λb=>?_) (λb=>?_)
   ·have hg10:=b
    exact .g hg10 (.q z (.s (pkt hg10 z z z) z (.nil (ck 2 s z (bp hg10)))))
   exact .xx b z (.s (pkf b z z z) z (.nil (ck 2 s z (bq b))))
  intro W s
  refine .q z (.cu 3 94 ((((a0.Op==5)&&((a0.Dst==0)&&((a0.A==a0.A)&&((a0.B==0)&&((a0.N==a0.N)&&true)))))&&y2)&&(decide (a0.N>=0))) s ?_ ?_)
  ·refine .both (((a0.Op==5)&&((a0.Dst==0)&&((a0.A==a0.A)&&((a0.B==0)&&((a0.N==a0.N)&&true)))))&&y2) (λb=>?_) (λb=>?_)
   ·have hg11:=b
    exact .g hg11 (.q z (.g hg11 (.q z (.s (pkt hg11 z z z) z (.nil (ck 3 s z (bp hg11)))))))
   exact .xx b z (.xx b z (.s (pkf b z z z) z (.nil (ck 3 s z (bq b)))))
  intro W s
  refine .q z (.cu 4 99 (((((a0.Op==5)&&((a0.Dst==0)&&((a0.A==a0.A)&&((a0.B==0)&&((a0.N==a0.N)&&true)))))&&y2)&&(decide (a0.N>=0)))&&(decide (a0.N<a1))) s ?_ ?_)
  ·refine .both ((((a0.Op==5)&&((a0.Dst==0)&&((a0.A==a0.A)&&((a0.B==0)&&((a0.N==a0.N)&&true)))))&&y2)&&(decide (a0.N>=0))) (λb=>?_) (λb=>?_)
   ·have hg12:=b
    exact .g hg12 (.q z (.g hg12 (.q z (.g hg12 (.q z (.s (pkt hg12 z z z) z (.nil (ck 4 s z (bp hg12)))))))))
   exact .xx b z (.xx b z (.xx b z (.s (pkf b z z z) z (.nil (ck 4 s z (bq b))))))
  intro W s
  cases h
  exact .qn z (.ret (aa () (rt z rn) z (s.to [])))
 refine .g (.q z (.q z (.nil ?_)))
 refine .cs z h ?_ ?_ <;> intro h
 ·refine .g (.s (ld t70 s z z z z z) z (.s (fa f70_2 z z z) z (.s (ld t3 s z z z z z) z (.q z (.s (bs T.s70 z z) z (.s (eqs T.e70 z z z z) z (.q z (.cu 2 110 (((a0.Op==6)&&((a0.Dst==0)&&((a0.A==a0.A)&&((a0.B==0)&&((a0.N==a0.N)&&true)))))&&y2) s ?_ ?_))))))))
  ·refine .both (((a0.Op==6)&&((a0.Dst==0)&&((a0.A==a0.A)&&((a0.B==0)&&((a0.N==a0.N)&&true)))))) (λb=>?_) (λb=>?_)
   ·have hg13:=b
    exact .g hg13 (.q z (.s (pkt hg13 z z z) z (.nil (ck 2 s z (bp hg13)))))
   exact .xx b z (.s (pkf b z z z) z (.nil (ck 2 s z (bq b))))
  intro W s
  refine .q z (.cu 3 114 ((((a0.Op==6)&&((a0.Dst==0)&&((a0.A==a0.A)&&((a0.B==0)&&((a0.N==a0.N)&&true)))))&&y2)&&(decide (a0.N>=0))) s ?_ ?_)
  ·refine .both (((a0.Op==6)&&((a0.Dst==0)&&((a0.A==a0.A)&&((a0.B==0)&&((a0.N==a0.N)&&true)))))&&y2) (λb=>?_) (λb=>?_)
   ·have hg14:=b
    exact .g hg14 (.q z (.g hg14 (.q z (.s (pkt hg14 z z z) z (.nil (ck 3 s z (bp hg14)))))))
   exact .xx b z (.xx b z (.s (pkf b z z z) z (.nil (ck 3 s z (bq b)))))
  intro W s
  refine .q z (.cu 3 118 (((((a0.Op==6)&&((a0.Dst==0)&&((a0.A==a0.A)&&((a0.B==0)&&((a0.N==a0.N)&&true)))))&&y2)&&(decide (a0.N>=0)))&&(decide (a0.N<3))) s ?_ ?_)
  ·refine .both ((((a0.Op==6)&&((a0.Dst==0)&&((a0.A==a0.A)&&((a0.B==0)&&((a0.N==a0.N)&&true)))))&&y2)&&(decide (a0.N>=0))) (λb=>?_) (λb=>?_)
   ·have hg15:=b
    exact .g hg15 (.q z (.g hg15 (.q z (.s (pkt hg15 z z z) z (.nil (ck 3 s z (bp hg15)))))))
   exact .xx b z (.xx b z (.s (pkf b z z z) z (.nil (ck 3 s z (bq b)))))
  intro W s
  cases h
  exact .qn z (.ret (aa () (rt z rn) z (s.to [])))
 refine .g (.q z (.q z (.nil ?_)))
 refine .cs z h ?_ ?_ <;> intro h
 ·refine .g (.s (ld t70 s z z z z z) z (.s (fa f70_1 z z z) z (.s (ld t3 s z z z z z) z (.q z (.s (bs T.s70 z z) z (.s (eqs T.e70 z z z z) z (.q z (.cu 2 129 (((a0.Op==7)&&((a0.Dst==a0.Dst)&&((a0.A==0)&&((a0.B==0)&&((a0.N==a0.N)&&true)))))&&y1) s ?_ ?_))))))))
  ·refine .both (((a0.Op==7)&&((a0.Dst==a0.Dst)&&((a0.A==0)&&((a0.B==0)&&((a0.N==a0.N)&&true)))))) (λb=>?_) (λb=>?_)
   ·have hg16:=b
    exact .g hg16 (.q z (.s (pkt hg16 z z z) z (.nil (ck 2 s z (bp hg16)))))
   exact .xx b z (.s (pkf b z z z) z (.nil (ck 2 s z (bq b))))
  intro W s
  refine .q z (.cu 3 133 ((((a0.Op==7)&&((a0.Dst==a0.Dst)&&((a0.A==0)&&((a0.B==0)&&((a0.N==a0.N)&&true)))))&&y1)&&(decide (a0.N>=0))) s ?_ ?_)
  ·refine .both (((a0.Op==7)&&((a0.Dst==a0.Dst)&&((a0.A==0)&&((a0.B==0)&&((a0.N==a0.N)&&true)))))&&y1) (λb=>?_) (λb=>?_)
   ·have hg17:=b
    exact .g hg17 (.q z (.g hg17 (.q z (.s (pkt hg17 z z z) z (.nil (ck 3 s z (bp hg17)))))))
   exact .xx b z (.xx b z (.s (pkf b z z z) z (.nil (ck 3 s z (bq b)))))
  intro W s
  refine .q z (.cu 3 137 (((((a0.Op==7)&&((a0.Dst==a0.Dst)&&((a0.A==0)&&((a0.B==0)&&((a0.N==a0.N)&&true)))))&&y1)&&(decide (a0.N>=0)))&&(decide (a0.N<3))) s ?_ ?_)
  ·refine .both ((((a0.Op==7)&&((a0.Dst==a0.Dst)&&((a0.A==0)&&((a0.B==0)&&((a0.N==a0.N)&&true)))))&&y1)&&(decide (a0.N>=0))) (λb=>?_) (λb=>?_)
   ·have hg18:=b
    exact .g hg18 (.q z (.g hg18 (.q z (.s (pkt hg18 z z z) z (.nil (ck 3 s z (bp hg18)))))))
   exact .xx b z (.xx b z (.s (pkf b z z z) z (.nil (ck 3 s z (bq b)))))
  intro W s
  cases h
  exact .qn z (.ret (aa () (rt z rn) z (s.to [])))
 refine .g (.q z (.q z (.nil ?_)))
 refine .cs z h ?_ ?_ <;> intro h
 ·refine .g (.s (ld t70 s z z z z z) z (.s (fa f70_2 z z z) z (.s (ld t3 s z z z z z) z (.s (bs T.s70 z z) z (.s (eqs T.e70 z z z z) z (.q z (.cu 2 147 (((a0.Op==9)&&((a0.Dst==0)&&((a0.A==a0.A)&&((a0.B==0)&&((a0.N==0)&&true)))))&&y2) s ?_ ?_)))))))
  ·refine .both (((a0.Op==9)&&((a0.Dst==0)&&((a0.A==a0.A)&&((a0.B==0)&&((a0.N==0)&&true)))))) (λb=>?_) (λb=>?_)
   ·have hg19:=b
    exact .g hg19 (.q z (.s (pkt hg19 z z z) z (.nil (ck 2 s z (bp hg19)))))
   exact .xx b z (.s (pkf b z z z) z (.nil (ck 2 s z (bq b))))
  intro W s
  cases h
  exact .qn z (.ret (aa () (rt z rn) z (s.to [])))
 refine bv h λy6 hy6 h=>?_
 refine .seq (CW.via (R':=λx E' W'=>x=.normal/\al E' [(2,Pt g1),(148,.bool y6)]/\Sep No w W' [.box g1 70 [vi a0.Op,vi a0.Dst,vi a0.A,vi a0.B,vi a0.N]]) ?_ ?_)
 ·have h:=hy6
  refine .g (.q z (.q z (.nil ?_)))
  refine .cs z h ?_ ?_ <;> intro h
  ·refine .skip ?_
   cases h
   exact ⟨z,sb z,s.tk [0]⟩
  refine .region (.q z (.q z (.nil ?_)))
  cases h
  exact ⟨z,sb z,s.tk [0]⟩
 intro x E W hJ
 obtain ⟨rfl,hE,s⟩:=hJ
 refine ⟨_,hE.sub,?_⟩
 refine .cs z h ?_ ?_ <;> intro h
 ·cases h
  exact .g (.s (ld t70 s z z z z z) z (.s (fa f70_0 z z z) z (.s (ld t3 s z z z z z) z (.s (bs T.s70 z z) z (.s (eqs T.e70 z z z z) z (.qn z (.ret (aa () (rt z rn) z (s.to [])))))))))
 obtain rfl:=o9 h
 exact .skip (.g (.qn z (.ret (aa () (rt z rn) z (s.to [])))))
def tj (w:World) (r:Bool):Env->World->Prop:=Fin Tryz.prog Tryz.f67 No w (λs:Unit=>.bool r) (λs=>[]) .ret
theorem bZ {a0:List ab} {v_0:Hd} {w:World} {r:Bool} (h:bn a0=some r) (q_0:RO w v_0 70 5 ae a0):CL 67 #[sv v_0] w (RU w (.bool r)):=by
 unfold bn at h
 refine ao func67 z z ?_
 have s:=Sep.start w
 refine .g (.qn z (.seq (.g (.q z (.s (aJ (s.keep q_0) u38 z z) z (.q z (.q z (.cu 4 13 ((decide ((a0.length:Int)<1))||(decide ((a0.length:Int)>600))) s ?_ ?_))))))))
 ·refine .both (decide ((a0.length:Int)<1)) (λb=>?_) (λb=>?_)
  ·exact .xx b z (.xx b z (.xx b z (.s (pkt b z z z) z (.nil (ck 4 s z (gY b))))))
  have hg1:=b
  exact .g hg1 (.q z (.g hg1 (.s (aJ (s.keep q_0) u38 z z) z (.g hg1 (.q z (.s (pkf hg1 z z z) z (.nil (ck 4 s z (gr hg1)))))))))
 intro W s
 refine .nil ?_
 refine .cs z h ?_ ?_ <;> intro h
 ·obtain rfl:=o9 h
  exact .g (.qn z (.ret (aa () (rt z rn) z (s.to []))))
 refine .skip (.seq (.g (.q z (.s (aJ (s.keep q_0) u38 z z) z (.qn z (.block (bv h λy1 hy1 h=>?_)))))))
 refine .via (.iter (λs1 E' W'=>al E' [(0,(sv v_0)),(14,(sv v_0)),(15,vi (a0.length:Int)),(16,vi s1)]/\Sep No w W' []) (λy2 x E' W'=>(match y2 with | .inl o1=>x=.ret/\tj w o1 E' W' | .inr o2=>x=.exit 0/\al E' [(0,(sv v_0))]/\Sep No w W' [])) hy1 ⟨sb rfl,s.to [] rfl⟩ ?_) ?_
 ·intro s1 y3 E W h hI
  obtain ⟨hE,s⟩:=hI
  refine CW.sub hE ?_
  unfold lI at h
  refine .g (.qn z (.seq ?_))
  refine .cs z h ?_ ?_ <;> intro h
  ·refine .skip (.seq (.block (.g (bv h λx1 hx1 h=>.s (ixv (s.keep q_0) hx1 u38 t70 z z z) z (.s (lde (RV.flat (s.keep q_0) hx1 z) t70 z z z z z) z (.c (.alloc t70 s ?_)))))))
   intro g1 W s
   refine .c (.st t70 s z z z ?_)
   intro W s
   refine .nil (.g (.s (ld t70 s z z z z z) z (.q z (.s (aJ (s.keep q_0) u38 z z) z (bv h λy4 hy4 h=>.c (.cO s func126 (sk hy4) z z ?_))))))
   intro W s
   refine .q z (.nil ?_)
   refine .cs z h ?_ ?_ <;> intro h
   ·refine .g (.qn z (.ret ?_))
    cases h
    exact ⟨by simp,z,aa (vs:=[_]) () (rt z rn) z (s.to [])⟩
   refine .skip (.region (.q z (.q z (.nil ?_))))
   cases h
   exact ⟨z,sb z,s.to []⟩
  refine .exit ?_
  cases h
  exact ⟨by simp,z,sb z,s.to []⟩
 intro x E W hJ
 rcases y1 with o3 | o4
 ·have h:=dG h
  obtain ⟨rfl,hF⟩:=hJ
  refine ⟨_,λ_ _ h=>h,?_⟩
  cases h
  exact hF
 have h:=dH h
 obtain ⟨rfl,hE,s⟩:=hJ
 refine ⟨_,hE.sub,?_⟩
 refine .g (.q z (.q z (.s (aJ (s.keep q_0) u38 z z) z (.q z (bv h λx2 hx2 h=>.s (ixv (s.keep q_0) hx2 u38 t70 z z z) z (.s (fe f70_0 z z z) z (.s (lde (RV.flat (s.keep q_0) hx2 z) t3 z z z z z) z (.qn z (.g (.q z (.q z (.q z (.cu 3 38 ((x2.Op==10)||(x2.Op==4)) s ?_ ?_)))))))))))))
 ·refine .both (x2.Op==10) (λb=>?_) (λb=>?_)
  ·exact .xx b z (.xx b z (.s (pkt b z z z) z (.nil (ck 3 s z (gY b)))))
  have hg2:=b
  exact .g hg2 (.q z (.g hg2 (.q z (.s (pkf hg2 z z z) z (.nil (ck 3 s z (gr hg2)))))))
 intro W s
 cases h
 exact .qn z (.ret (aa () (rt z rn) z (s.to [])))
theorem a7 {a0:List ab} {v_0:Hd} {w:World} {r:(List ab)} (h:aB a0=some r) (q_0:RO w v_0 70 5 ae a0):CL 69 #[sv v_0] w (Ret No w (λs:Hd=>(sv s)) (λs=>[ac (sv s) 70 5 ae r])):=by
 unfold aB at h
 refine ao func69 z z ?_
 have s:=Sep.start w
 refine .g (.qn z (.seq (.g (.q z (.s (C4 u38 z z) z (.nil (.cond z (λb=>?_) (λb=>?_))))))))
 ·have hl:=RV.isnil q_0 b
  subst hl
  refine .g (.qn z (.ret ?_))
  have s:=s.nilv 70 5 ae
  have h:some []=some r:=h
  cases h
  exact aa aF (rt z rn) z (s.tk [0])
 refine .skip (.g (.c (.liv [] ae u38 t70 s z z z z ?_ z (λ_=>z))))
 intro v1 W s
 refine .q z (bv h λr1 hr1 h=>.c (.av hr1 s (s.keep q_0) (λ_=>z) u38 t70 z z z ?_))
 intro v2 W s
 obtain rfl:=o9 h
 exact .qn z (.ret (aa v2 (rt z rn) z (s.tk [0])))
theorem jE {a0:ab} {w:World} {r:Int} (h:eJ a0=some r):CL 176 #[.agg #[vi a0.Op,vi a0.Dst,vi a0.A,vi a0.B,vi a0.N]] w (RU w (.int .i64 r)):=by
 unfold eJ at h
 refine ao func176 z z ?_
 have s:=Sep.start w
 refine .g (.c (.box s z z ?_))
 intro g1 W s
 refine .qn z (.seq (.g (.s (fa f70_0 z z z) z (.s (ld t3 s z z z z z) z (.nil (.block (bv h λy1 hy1 h=>?_)))))))
 refine .seq (CW.via (R':=λx E' W'=>x=.normal/\al E' [(1,Pt g1),(5,.bool y1)]/\Sep No w W' [.box g1 70 [vi a0.Op,vi a0.Dst,vi a0.A,vi a0.B,vi a0.N]]) ?_ ?_)
 ·have h:=hy1
  refine .g (.q z (.q z (.nil ?_)))
  refine .cs z h ?_ ?_ <;> intro h
  ·refine .skip ?_
   cases h
   exact ⟨z,sb z,s.tk [0]⟩
  refine .g (.q z (.q z (.nil ?_)))
  refine .cs z h ?_ ?_ <;> intro h
  ·refine .skip ?_
   cases h
   exact ⟨z,sb z,s.tk [0]⟩
  refine .g (.q z (.q z (.nil ?_)))
  refine .cs z h ?_ ?_ <;> intro h
  ·refine .skip ?_
   cases h
   exact ⟨z,sb z,s.tk [0]⟩
  refine .region (.q z (.q z (.nil ?_)))
  cases h
  exact ⟨z,sb z,s.tk [0]⟩
 intro x E W hJ
 obtain ⟨rfl,hE,s⟩:=hJ
 refine ⟨_,hE.sub,?_⟩
 refine .cs z h ?_ ?_ <;> intro h
 ·cases h
  exact .g (.s (fa f70_1 z z z) z (.s (ld t3 s z z z z z) z (.qn z (.ret (aa () (rt z rn) z (s.to []))))))
 cases h
 exact .skip (.g (.qn z (.ret (aa () (rt z rn) z (s.to [])))))
theorem j2 {a0:Int} {w:World} {r:Int} (h:eT a0=some r):CL 92 #[vi a0] w (RU w (.int .i64 r)):=by
 unfold eT at h
 refine ao func92 z z ?_
 have s:=Sep.start w
 cases h
 exact .g (.qn z (.g (.q z (.s (cv u3 u21 z z) z (.s (cv u21 u3 z z) z (.qn z (.ret (aa () (rt z rn) z (s.to [])))))))))
theorem qS {a0:Bool} {w:World} {r:Int} (h:ml a0=some r):CL 273 #[.bool a0] w (RU w (.int .i64 r)):=by
 unfold ml at h
 refine ao func273 z z ?_
 have s:=Sep.start w
 refine .g (.qn z (.seq (.g (.q z (.nil ?_)))))
 refine .cs z h ?_ ?_ <;> intro h
 ·cases h
  exact .g (.qn z (.ret (aa () (rt z rn) z (s.to []))))
 cases h
 exact .skip (.g (.qn z (.ret (aa () (rt z rn) z (s.to [])))))
theorem qT {a0:Int} {a1:Int} {a2:Int} {w:World} {r:Int} (h:jm a0 a1 a2=some r):CL 255 #[vi a0,vi a1,vi a2] w (RU w (.int .i64 r)):=by
 unfold jm at h
 refine ao func255 z z ?_
 have s:=Sep.start w
 refine .g (.qn z (.seq (.g (.qn z (.block (.g (.q z (.q z (.nil ?_)))))))))
 refine .cs z h ?_ ?_ <;> intro h
 ·cases h
  exact .g (.q z (.q z (.q z (.qn z (.ret (aa () (rt z rn) z (s.to [])))))))
 refine .g (.q z (.q z (.nil ?_)))
 refine .cs z h ?_ ?_ <;> intro h
 ·cases h
  exact .g (.q z (.q z (.q z (.qn z (.ret (aa () (rt z rn) z (s.to [])))))))
 refine .g (.q z (.q z (.nil ?_)))
 refine .cs z h ?_ ?_ <;> intro h
 ·cases h
  exact .g (.q z (.q z (.q z (.qn z (.ret (aa () (rt z rn) z (s.to [])))))))
 refine .g (.q z (.q z (.nil ?_)))
 refine .cs z h ?_ ?_ <;> intro h
 ·refine .g (.q z (.q z (.q z (bv h λy1 hy1 h=>.c (.cO s func273 (qS hy1) z z ?_)))))
  intro W s
  obtain rfl:=o9 h
  exact .qn z (.ret (aa () (rt z rn) z (s.to [])))
 refine .g (.q z (.q z (.nil ?_)))
 refine .cs z h ?_ ?_ <;> intro h
 ·refine .g (.q z (.q z (.q z (bv h λy2 hy2 h=>.c (.cO s func273 (qS hy2) z z ?_)))))
  intro W s
  obtain rfl:=o9 h
  exact .qn z (.ret (aa () (rt z rn) z (s.to [])))
 refine .g (.q z (.q z (.nil ?_)))
 refine .cs z h ?_ ?_ <;> intro h
 ·refine .g (.q z (.q z (.q z (bv h λd1 hd1 h=>.s (fr hd1 z z z) z (bv h λy3 hy3 h=>.c (.cO s func92 (j2 hy3) z z ?_))))))
  intro W s
  obtain rfl:=o9 h
  exact .qn z (.ret (aa () (rt z rn) z (s.to [])))
 refine .g (.q z (.q z (.nil ?_)))
 refine .cs z h ?_ ?_ <;> intro h
 ·refine .g (.q z (.q z (.q z (bv h λd2 hd2 h=>.s (fr hd2 z z z) z (.qn z (.ret ?_))))))
  obtain rfl:=o9 h
  exact aa () (rt z rn) z (s.to [])
 refine .g (.q z (.q z (.nil ?_)))
 refine .cs z h ?_ ?_ <;> intro h
 ·refine .g (.q z (.q z (.q z (bv h λy4 hy4 h=>.c (.cO s func92 (j2 hy4) z z ?_)))))
  intro W s
  obtain rfl:=o9 h
  exact .qn z (.ret (aa () (rt z rn) z (s.to [])))
 refine .g (.q z (.q z (.nil ?_)))
 refine .cs z h ?_ ?_ <;> intro h
 ·refine .g (.q z (.q z (.q z (bv h λy5 hy5 h=>.c (.cO s func92 (j2 hy5) z z ?_)))))
  intro W s
  obtain rfl:=o9 h
  exact .qn z (.ret (aa () (rt z rn) z (s.to [])))
 refine .g (.q z (.q z (.nil ?_)))
 refine .cs z h ?_ ?_ <;> intro h
 ·refine .g (.q z (.q z (.q z (bv h λy6 hy6 h=>.c (.cO s func92 (j2 hy6) z z ?_)))))
  intro W s
  obtain rfl:=o9 h
  exact .qn z (.ret (aa () (rt z rn) z (s.to [])))
 refine .g (.q z (.q z (.nil ?_)))
 refine .cs z h ?_ ?_ <;> intro h
 ·refine .seq (.g (.q z (.q z (.nil ?_))))
  refine .cs z h ?_ ?_ <;> intro h
  ·cases h
   exact .g (.qn z (.ret (aa () (rt z rn) z (s.to []))))
  refine .skip (.g (.q z (.q z (bv h λd3 hd3 h=>.s (dq hd3 z z z) z (bv h λy7 hy7 h=>.c (.cO s func92 (j2 hy7) z z ?_))))))
  intro W s
  obtain rfl:=o9 h
  exact .qn z (.ret (aa () (rt z rn) z (s.to [])))
 refine .skip (.seq (.g (.q z (.q z (.nil ?_)))))
 refine .cs z h ?_ ?_ <;> intro h
 ·obtain rfl:=o9 h
  exact .g (.q z (.qn z (.ret (aa () (rt z rn) z (s.to [])))))
 refine .skip (.g (.q z (.q z (bv h λd4 hd4 h=>.s (dr hd4 z z z) z (.qn z (.ret ?_))))))
 obtain rfl:=o9 h
 exact aa () (rt z rn) z (s.to [])
theorem mL {a0:Ar aj} {a1:ab} {w:World} {r:(Ar aj)} (h:fM a0 a1=some r):CL 210 #[.agg (fv a0).toArray,.agg #[vi a1.Op,vi a1.Dst,vi a1.A,vi a1.B,vi a1.N]] w (RU w (.agg (fv r).toArray)):=by
 unfold fM at h
 refine ao func210 z z ?_
 have s:=Sep.start w
 refine .g (.c (.box s z z ?_))
 intro g1 W s
 have s:Sep _ _ _ [.box g1 181 (fv a0)]:=id s
 refine .c (.box s z z ?_)
 intro g2 W s
 refine .c (.alloc t181 s ?_)
 intro g3 W s
 have s:Sep _ _ _ [.box g3 181 (fv (λ_=>(aj.mk 0 0))),.box g2 70 [vi a1.Op,vi a1.Dst,vi a1.A,vi a1.B,vi a1.N],.box g1 181 (fv a0)]:=id s
 refine .nil (.g (.s (ld t70 s.p1 z z z z z) z (bv h λy1 hy1 h=>.c (.cO s func176 (jE hy1) z z ?_))))
 intro W s
 refine .qn z (.seq (.g (.q z (.q z (.nil ?_)))))
 refine .cs z h ?_ ?_ <;> intro h
 ·refine .g (.s (lda t181 s.p2 (hY _) z z) z (.c (.sta t181 s hY rb z z z ?_)))
  intro W s
  obtain rfl:=o9 h
  exact .nil (.ret (aa () (rc s t181 z rn (hY _) z) z (s.to [])))
 refine .skip (.g (.s (bs T.s179 z z) z (.c (.alloc t179 s ?_))))
 intro g4 W s
 refine .c (.st t179 s z z z ?_)
 intro W s
 refine .nil (bv h λy2 hy2 h=>?_)
 refine .seq (CW.via (R':=λx E' W'=>x=.normal/\al E' [(2,Pt g1),(4,Pt g3),(5,vi y1),(6,Pt g4)]/\Sep No w W' [.box g4 179 [vi y2.Kind,vi y2.N],.box g3 181 (fv (λ_=>(aj.mk 0 0))),.box g2 70 [vi a1.Op,vi a1.Dst,vi a1.A,vi a1.B,vi a1.N],.box g1 181 (fv a0)]) ?_ ?_)
 ·have h:=hy2
  refine .g (.s (fa f70_0 z z z) z (.s (ld t3 s.p2 z z z z z) z (.nil (.block (.g (.q z (.q z (.nil ?_))))))))
  refine .cs z h ?_ ?_ <;> intro h
  ·refine .region (.s (fa f70_4 z z z) z (.s (ld t3 s.p2 z z z z z) z (.s (bs T.s179 z z) z (.c (.st t179 s z z z ?_)))))
   intro W s
   refine .nil ?_
   cases h
   exact ⟨z,sb z,s.tk [0,0,0,0]⟩
  refine .g (.q z (.q z (.nil ?_)))
  refine .cs z h ?_ ?_ <;> intro h
  ·refine .region (.s (fa f70_2 z z z) z (.s (ld t3 s.p2 z z z z z) z (bv h λx1 hx1 h=>.s (ixa hx1 u181 t179 z z z) z (.s (ldx s.p3 hx1 (λ_=>z) t179 z z z z z) z (.c (.st t179 s z z z ?_))))))
   intro W s
   refine .nil ?_
   obtain rfl:=o9 h
   exact ⟨z,sb z,s.tk [0,0,0,0]⟩
  refine .g (.q z (.q z (.nil ?_)))
  refine .cs z h ?_ ?_ <;> intro h
  ·refine .g (.s (fa f70_2 z z z) z (.s (ld t3 s.p2 z z z z z) z (bv h λx2 hx2 h=>.s (ixa hx2 u181 t179 z z z) z (.s (fa f179_0 z z z) z (.s (ldx s.p3 hx2 (λ_=>z) t3 z z z z z) z (.q z (.q z (bv h λb1 hb1 h=>.cu 7 41 (b1) s ?_ ?_))))))))
   ·refine .both (x2.Kind==1) (λb=>?_) (λb=>?_)
    ·have hg1:=b
     have h:=aC b hb1
     refine .g hg1 (.s (fa f70_3 z z z) z (.g hg1 (.s (ld t3 s.p2 z z z z z) z (bv h λx3 hx3 h=>.g hg1 (.s (ixa hx3 u181 t179 z z z) z (.g hg1 (.s (fa f179_0 z z z) z (.g hg1 (.s (ldx s.p3 hx3 (λ_=>z) t3 z z z z z) z (.g hg1 (.q z (.s (pkt hg1 z z z) z ?_))))))))))))
     cases h
     exact .nil (ck 7 s)
    refine .xx b z (.xx b z (.xx b z (.xx b z (.xx b z (.xx b z ?_)))))
    cases aD b hb1
    exact .s (pkf b z z z) z (.nil (ck 7 s))
   intro W s
   refine .nil ?_
   refine .cs z h ?_ ?_ <;> intro h
   ·refine .rk 14 s [0,0,0,0] T.mix ?_
    intro W s
    have t:=s.to [0,0,0,0]
    refine .ts' 0 z (λW t=>fa f70_4 z z z) t z (.ts' 1 z (λW t=>ld t3 t.p2 z z z z z) t z (.ts' 2 z (λW t=>fa f70_2 z z z) t z (.ts' 3 z (λW t=>ld t3 t.p2 z z z z z) t z (bv h λx4 hx4 h=>.ts' 4 z (λW t=>ixa hx4 u181 t179 z z z) t z (.ts' 5 z (λW t=>fa f179_1 z z z) t z (.ts' 6 z (λW t=>ldx t.p3 hx4 (λ_=>z) t3 z z z z z) t z (.ts' 7 z (λW t=>fa f70_3 z z z) t z (.ts' 8 z (λW t=>ld t3 t.p2 z z z z z) t z (bv h λx5 hx5 h=>.ts' 9 z (λW t=>ixa hx5 u181 t179 z z z) t z (.ts' 10 z (λW t=>fa f179_1 z z z) t z (.ts' 11 z (λW t=>ldx t.p3 hx5 (λ_=>z) t3 z z z z z) t z (bv h λy3 hy3 h=>.by1 12 z (.cO s func255 (qT hy3) z z ?_)))))))))))))
    intro W s
    refine s.an [0,0,0,0] λt=>.ts' 13 z (λW t=>bs T.s179 z z) t z (.by1 14 z (.st t179 s z z z ?_))
    intro W s
    refine ⟨λh=>absurd z h,?_⟩
    refine .done ?_
    cases h
    exact ⟨z,sb z,s.tk [0,0,0,0]⟩
   refine .skip ?_
   cases h
   exact ⟨z,sb z,s.tk [0,0,0,0]⟩
  refine .skip ?_
  cases h
  exact ⟨z,sb z,s.tk [0,0,0,0]⟩
 intro x E W hJ
 obtain ⟨rfl,hE,s⟩:=hJ
 refine ⟨_,hE.sub,?_⟩
 refine .g (.q z (.s (ld t179 s z z z z z) z (bv h λx6 hx6 h=>.s (ixa hx6 u181 t179 z z z) z (.c (.stx (x1:=y2) hx6 s.p3 (λ_=>z) t179 z z z z ?_)))))
 intro W s
 refine .nil (.g (.s (lda t181 s (hY _) z z) z (.c (.sta t181 s.p2 hY rb z z z ?_))))
 intro W s
 cases h
 exact .nil (.ret (aa () (rc s t181 z rn (hY _) z) z (s.to [])))
theorem l5 {a0:ab} {a1:Int} {w:World} {r:(List Int)} (h:gZ a0 a1=some r):CL 217 #[.agg #[vi a0.Op,vi a0.Dst,vi a0.A,vi a0.B,vi a0.N],vi a1] w (Ret No w (λs:Hd=>(sv s)) (λs=>[ac (sv s) 3 1 (D.int .i64) r])):=by
 unfold gZ at h
 refine ao func217 z z ?_
 have s:=Sep.start w
 refine .g (.c (.box s z z ?_))
 intro g1 W s
 refine .qn z (.seq (.block (.g (.s (fa f70_0 z z z) z (.s (ld t3 s z z z z z) z (.q z (.q z (.nil ?_))))))))
 refine .cs z h ?_ ?_ <;> intro h
 ·refine .g (.qn z (.ret ?_))
  have s:=s.nilv 3 1 (D.int .i64)
  cases h
  exact aa aF (rt z rn) z (s.tk [0])
 refine .g (.s (fa f70_0 z z z) z (.s (ld t3 s z z z z z) z (.q z (.q z (.nil ?_)))))
 refine .cs z h ?_ ?_ <;> intro h
 ·refine .g (.s (fa f70_4 z z z) z (.s (ld t3 s z z z z z) z (.c (.liv [a0.N] (D.int .i64) u23 t3 s z z z z ?_ z (λ_=>z)))))
  intro v1 W s
  cases h
  exact .qn z (.ret (aa v1 (rt z rn) z (s.tk [0])))
 refine .g (.s (fa f70_0 z z z) z (.s (ld t3 s z z z z z) z (.q z (.q z (.cu 6 26 ((a0.Op==5)&&(decide (a0.N<(w64 (a1+1))))) s ?_ ?_)))))
 ·refine .both (a0.Op==5) (λb=>?_) (λb=>?_)
  ·have hg1:=b
   exact .g hg1 (.s (fa f70_4 z z z) z (.g hg1 (.s (ld t3 s z z z z z) z (.g hg1 (.q z (.g hg1 (.q z (.g hg1 (.q z (.s (pkt hg1 z z z) z (.nil (ck 6 s z (bp hg1)))))))))))))
  exact .xx b z (.xx b z (.xx b z (.xx b z (.xx b z (.s (pkf b z z z) z (.nil (ck 6 s z (bq b))))))))
 intro W s
 refine .q z (.nil ?_)
 refine .cs z h ?_ ?_ <;> intro h
 ·refine .g (.s (fa f70_4 z z z) z (.s (ld t3 s z z z z z) z (.q z (.q z (.c (.liv [a0.N,w64 (a1+1)] (D.int .i64) u23 t3 s z z z z ?_ z (λ_=>z)))))))
  intro v2 W s
  cases h
  exact .qn z (.ret (aa v2 (rt z rn) z (s.tk [0])))
 refine .g (.s (fa f70_0 z z z) z (.s (ld t3 s z z z z z) z (.q z (.q z (.cu 6 42 ((a0.Op==5)&&(decide (a0.N>(w64 (a1+1))))) s ?_ ?_)))))
 ·refine .both (a0.Op==5) (λb=>?_) (λb=>?_)
  ·have hg2:=b
   exact .g hg2 (.s (fa f70_4 z z z) z (.g hg2 (.s (ld t3 s z z z z z) z (.g hg2 (.q z (.g hg2 (.q z (.g hg2 (.q z (.s (pkt hg2 z z z) z (.nil (ck 6 s z (bp hg2)))))))))))))
  exact .xx b z (.xx b z (.xx b z (.xx b z (.xx b z (.s (pkf b z z z) z (.nil (ck 6 s z (bq b))))))))
 intro W s
 refine .q z (.nil ?_)
 refine .cs z h ?_ ?_ <;> intro h
 ·refine .g (.q z (.q z (.s (fa f70_4 z z z) z (.s (ld t3 s z z z z z) z (.c (.liv [w64 (a1+1),a0.N] (D.int .i64) u23 t3 s z z z z ?_ z (λ_=>z)))))))
  intro v3 W s
  cases h
  exact .qn z (.ret (aa v3 (rt z rn) z (s.tk [0])))
 refine .skip (.g (.q z (.q z (.c (.liv [w64 (a1+1)] (D.int .i64) u23 t3 s z z z z ?_ z (λ_=>z))))))
 intro v4 W s
 cases h
 exact .qn z (.ret (aa v4 (rt z rn) z (s.tk [0])))
theorem um {a0:ab} {a1:Int} {a2:Ar aj} {w:World} {r:(List Int)} (h:lJ a0 a1 a2=some r):CL 211 #[.agg #[vi a0.Op,vi a0.Dst,vi a0.A,vi a0.B,vi a0.N],vi a1,.agg (fv a2).toArray] w (Ret No w (λs:Hd=>(sv s)) (λs=>[ac (sv s) 3 1 (D.int .i64) r])):=by
 unfold lJ at h
 refine ao func211 z z ?_
 have s:=Sep.start w
 refine .g (.c (.box s z z ?_))
 intro g1 W s
 refine .c (.box s z z ?_)
 intro g2 W s
 have s:Sep _ _ _ [.box g2 181 (fv a2),.box g1 70 [vi a0.Op,vi a0.Dst,vi a0.A,vi a0.B,vi a0.N]]:=id s
 refine .qn z (.seq (.g (.s (fa f70_0 z z z) z (.s (ld t3 s.p1 z z z z z) z (.q z (.q z (bv h λb1 hb1 h=>.cu 7 17 (b1) s ?_ ?_)))))))
 ·refine .both (a0.Op==5) (λb=>?_) (λb=>?_)
  ·have hg1:=b
   have h:=aC b hb1
   refine .g hg1 (.s (fa f70_2 z z z) z (.g hg1 (.s (ld t3 s.p1 z z z z z) z (bv h λx1 hx1 h=>.g hg1 (.s (ixa hx1 u181 t179 z z z) z (.g hg1 (.s (fa f179_0 z z z) z (.g hg1 (.s (ldx s hx1 (λ_=>z) t3 z z z z z) z (.g hg1 (.q z (.s (pkt hg1 z z z) z ?_))))))))))))
   cases h
   exact .nil (ck 7 s)
  refine .xx b z (.xx b z (.xx b z (.xx b z (.xx b z (.xx b z ?_)))))
  cases aD b hb1
  exact .s (pkf b z z z) z (.nil (ck 7 s))
 intro W s
 refine .nil ?_
 refine .cs z h ?_ ?_ <;> intro h
 ·refine .seq (.g (.s (fa f70_2 z z z) z (.s (ld t3 s.p1 z z z z z) z (bv h λx2 hx2 h=>.s (ixa hx2 u181 t179 z z z) z (.s (fa f179_1 z z z) z (.s (ldx s hx2 (λ_=>z) t3 z z z z z) z (.q z (.nil ?_))))))))
  refine .cs z h ?_ ?_ <;> intro h
  ·refine .g (.s (fa f70_4 z z z) z (.s (ld t3 s.p1 z z z z z) z (.c (.liv [a0.N] (D.int .i64) u23 t3 s z z z z ?_ z (λ_=>z)))))
   intro v1 W s
   cases h
   exact .qn z (.ret (aa v1 (rt z rn) z (s.tk [0])))
  refine .skip (.g (.q z (.q z (.c (.liv [w64 (a1+1)] (D.int .i64) u23 t3 s z z z z ?_ z (λ_=>z))))))
  intro v2 W s
  cases h
  exact .qn z (.ret (aa v2 (rt z rn) z (s.tk [0])))
 refine .skip (.g (.s (ld t70 s.p1 z z z z z) z (.q z (bv h λy1 hy1 h=>.c (.cV s func217 (l5 hy1) z z ?_)))))
 intro v3 W s
 obtain rfl:=o9 h
 exact .qn z (.ret (aa v3 (rt z rn) z (s.tk [0])))
theorem sn {a0:aj} {a1:aj} {w:World} {r:aj} (h:jn a0 a1=some r):CL 212 #[.agg #[vi a0.Kind,vi a0.N],.agg #[vi a1.Kind,vi a1.N]] w (RU w (.agg #[vi r.Kind,vi r.N])):=by
 unfold jn at h
 refine ao func212 z z ?_
 have s:=Sep.start w
 refine .g (.c (.box s z z ?_))
 intro g1 W s
 refine .c (.box s z z ?_)
 intro g2 W s
 refine .c (.alloc t179 s ?_)
 intro g3 W s
 refine .nil (.seq (.block (.g (.s (fa f179_0 z z z) z (.s (ld t3 s.p2 z z z z z) z (.q z (.q z (.cu 4 13 ((a0.Kind==0)||((a0.Kind==a1.Kind)&&((a0.N==a1.N)&&true))) s ?_ ?_))))))))
 ·refine .both (a0.Kind==0) (λb=>?_) (λb=>?_)
  ·exact .xx b z (.xx b z (.xx b z (.s (pkt b z z z) z (.nil (ck 4 s z (gY b))))))
  have hg1:=b
  exact .g hg1 (.s (ld t179 s.p2 z z z z z) z (.g hg1 (.s (ld t179 s.p1 z z z z z) z (.g hg1 (.s (eqs T.e179 z z z z) z (.s (pkf hg1 z z z) z (.nil (ck 4 s z (gr hg1)))))))))
 intro W s
 refine .q z (.nil ?_)
 refine .cs z h ?_ ?_ <;> intro h
 ·refine .g (.s (ld t179 s.p1 z z z z z) z (.c (.st t179 s z z z ?_)))
  intro W s
  obtain rfl:=o9 h
  exact .nil (.ret (aa () (rc s t179 z rn z z) z (s.to [])))
 refine .g (.s (fa f179_0 z z z) z (.s (ld t3 s.p1 z z z z z) z (.q z (.q z (.nil ?_)))))
 refine .cs z h ?_ ?_ <;> intro h
 ·refine .g (.s (ld t179 s.p2 z z z z z) z (.c (.st t179 s z z z ?_)))
  intro W s
  obtain rfl:=o9 h
  exact .nil (.ret (aa () (rc s t179 z rn z z) z (s.to [])))
 refine .skip (.g (.s (bs T.s179 z z) z (.c (.st t179 s z z z ?_))))
 intro W s
 cases h
 exact .nil (.ret (aa () (rc s t179 z rn z z) z (s.to [])))
theorem qy {a0:List ab} {v_0:Hd} {w:World} {r:(List (Ar aj))} (h:eU a0=some r) (q_0:RO w v_0 70 5 ae a0):CL 164 #[sv v_0] w (Ret No w (λs:Hd=>(sv s)) (λs=>[ac (sv s) 181 24 (arD 12 a8) r])):=by
 unfold eU at h
 refine ao func164 z z ?_
 have s:=Sep.start w
 refine .g (.qn z (.g (.q z (.s (aJ (s.keep q_0) u38 z z) z (bv h λr1 hr1 h=>.c (.mkv (λ_=>(aj.mk 0 0)) (arD 12 a8) hr1 u176 t181 s z z z z z (λ_=>z) ?_))))))
 intro v1 W s
 refine .qn z (.seq (.g (.qn z (.block (bv h λy1 hy1 h=>?_)))))
 refine .via (.iter (λs1 E' W'=>al E' [(0,(sv v_0)),(3,(sv v1)),(15,vi s1.1)]/\Sep No w W' [ac (sv v1) 181 24 (arD 12 a8) s1.2]) (λy2 x E' W'=>x=.exit 0/\al E' [(0,(sv v_0)),(3,(sv v1))]/\Sep No w W' [ac (sv v1) 181 24 (arD 12 a8) y2]) hy1 ⟨sb z,s.tk [0]⟩ ?_) ?_
 ·intro s1 y3 E W h hI
  obtain ⟨hE,s⟩:=hI
  refine CW.sub hE ?_
  unfold j9 at h
  refine .g (.qn z (.seq ?_))
  refine .cs z h ?_ ?_ <;> intro h
  ·refine .skip (.seq (.block (.g (.q z (.qn z (.region (.q z (.q z (.s (bs T.s179 z z) z (bv h λx1 hx1 h=>.s (ixv s.lv hx1 u176 t181 z z z) z (bv h λx2 hx2 h=>.s (Du hx2 u181 t179 z z z) z (bv h λr2 hr2 h=>.c (.sevx hr2 hx1 hx2 s t179 (λ_=>z) (λ_=>z) z z z z ?_)))))))))))))
   intro W s
   refine .nil (.region (.q z (.q z (.nil ?_))))
   cases h
   exact ⟨z,sb z,s.tk [0]⟩
  refine .exit ?_
  cases h
  exact ⟨by simp,z,sb z,s.tk [0]⟩
 intro x E W hJ
 obtain ⟨rfl,hE,s⟩:=hJ
 refine ⟨_,hE.sub,?_⟩
 refine .seq (.g (.c (.liv [0] (D.int .i64) u23 t3 s z z z z ?_ z (λ_=>z))))
 intro v2 W s
 refine .qn z (.block (bv h λy4 hy4 h=>?_))
 refine .via (.iter (λs2 E' W'=>∃ (v5:Hd),al E' [(0,(sv v_0)),(3,(sv v1)),(5,(sv v5))]/\Sep No w W' [ac (sv v1) 181 24 (arD 12 a8) s2.2,ac (sv v5) 3 1 (D.int .i64) s2.1]) (λy5 x E' W'=>x=.exit 2/\al E' [(3,(sv v1))]/\Sep No w W' [ac (sv v1) 181 24 (arD 12 a8) y5]) hy4 ⟨v2,sb z,s.tk [1,0]⟩ ?_) ?_
 ·intro s2 y6 E W h hI
  obtain ⟨v4,hE,s⟩:=hI
  refine CW.sub hE ?_
  unfold jo at h
  refine .seq (.g (.q z (.s (aJ s.p1.lv u23 z z) z (.q z (.nil ?_)))))
  refine .cs z h ?_ ?_ <;> intro h
  ·refine .skip (.block (.g (.q z (.q z (.s (aJ s.p1.lv u23 z z) z (.q z (bv h λx3 hx3 h=>.s (ixv s.p1.lv hx3 u23 t3 z z z) z (.s (lde (RV.flat s.p1.lv hx3 z) t3 z z z z z) z (.qn z (.g (.q z (.q z (.s (aJ s.p1.lv u23 z z) z (.q z (bv h λr3 hr3 h=>.c (.cuto hr3 s.p1 u23 t3 z z z z ?_))))))))))))))))
   intro v6 s
   refine .qn z (.seq (bv h λx4 hx4 h=>bv h λx5 hx5 h=>bv h λy7 hy7 h=>?_))
   refine .via (R':=λx E' W'=>x=.normal/\∃ (g1:Nat),al E' [(0,(sv v_0)),(3,(sv v1)),(5,(sv v6)),(6,vi x3),(7,Pt g1)]/\Sep No w W' [ac (sv v6) 3 1 (D.int .i64) r3,ac (sv v1) 181 24 (arD 12 a8) s2.2,.box g1 181 (fv y7)]) ?_ ?_
   ·refine .rk 10 s [0,0] T.mix ?_
    intro W s
    have t:=s.to [0,0]
    refine .tp' 0 z z t (.tp' 1 z z t (.ts' 2 z (λW t=>ixv s.p1.lv hx4 u176 t181 z z z) t z (.ts' 3 z (λW t=>wJ (RV.flat (cs:=fv x4) t.p1.lv hx4 (sU λ_=>z)) t181 (hY _) z z) t z (.tp' 4 z z t (.tp' 5 z z t (.ts' 6 z (λW t=>ixv (s.keep q_0) hx5 u38 t70 z z z) t z (.ts' 7 z (λW t=>lde (RV.flat (t.keep q_0) hx5 z) t70 z z z z z) t z (.by [8,9] ⟨⟨_,z,?_⟩,⟨_,z,?_⟩,trivial⟩))))))))
    ·refine (.cO s func210 (mL hy7) z z ?_)
     intro W s
     refine s.an [0,0] λt=>.by1 9 z (.alloc t181 s ?_)
     intro g2 W s
     have s:Sep _ _ _ [.box g2 181 (fv (λ_=>(aj.mk 0 0))),ac (sv v6) 3 1 (D.int .i64) r3,ac (sv v1) 181 24 (arD 12 a8) s2.2]:=id s
     refine s.an [1,1] λt=>.by1 10 z (.sta t181 s hY rb z z z ?_)
     intro W s
     refine ⟨λh=>absurd z h,?_⟩
     exact .done (⟨z,g2,sb z,s.tk [1,1,0]⟩)
    refine (.alloc t181 s ?_)
    intro g3 W s
    have s:Sep _ _ _ [.box g3 181 (fv (λ_=>(aj.mk 0 0))),ac (sv v6) 3 1 (D.int .i64) r3,ac (sv v1) 181 24 (arD 12 a8) s2.2]:=id s
    refine s.an [1,1] λt=>.by1 8 z (.cO s func210 (mL hy7) z z ?_)
    intro W s
    refine s.an [1,1] λt=>.by1 10 z (.sta t181 s hY rb z z z ?_)
    intro W s
    refine ⟨λh=>absurd z h,?_⟩
    exact .done (⟨z,g3,sb z,s.tk [1,1,0]⟩)
   intro x E W hJ
   obtain ⟨rfl,g4,hE,s⟩:=hJ
   refine ⟨_,hE.sub,?_⟩
   refine .seq (.rk 12 s [0,0,0] T.mix ?_)
   intro W s
   have t:=s.to [0,0,0]
   refine .tp' 0 z z t (.tp' 1 z z t (bv h λx6 hx6 h=>.ts' 2 z (λW t=>ixv (s.keep q_0) hx6 u38 t70 z z z) t z (.ts' 3 z (λW t=>lde (RV.flat (t.keep q_0) hx6 z) t70 z z z z z) t z (.tp' 4 z z t (.tp' 5 z z t (.tp' 6 z z t (bv h λx7 hx7 h=>.ts' 7 z (λW t=>ixv s.p1.lv hx7 u176 t181 z z z) t z (.ts' 8 z (λW t=>wJ (RV.flat (cs:=fv x7) t.p1.lv hx7 (sU λ_=>z)) t181 (hY _) z z) t z (.tp' 11 z z t (bv h λy8 hy8 h=>.by1 9 z (.cV s func211 (um hy8) z z ?_)))))))))))
   intro v7 W s
   refine s.an [1,1,1] λt=>.ts' 10 z (λW t=>aJ s.lv u23 z z) t z (.done (.block (bv h λy9 hy9 h=>?_)))
   refine .via (.iter (λs3 E' W'=>∃ (v10:Hd),al E' [(0,(sv v_0)),(3,(sv v1)),(5,(sv v10)),(7,Pt g4),(57,(sv v7)),(58,vi (y8.length:Int)),(59,vi s3.2.1)]/\Sep No w W' [ac (sv v7) 3 1 (D.int .i64) y8,ac (sv v1) 181 24 (arD 12 a8) s3.2.2,.box g4 181 (fv y7),ac (sv v10) 3 1 (D.int .i64) s3.1]) (λy10 x E' W'=>x=.exit 4/\∃ (v11:Hd),al E' [(0,(sv v_0)),(3,(sv v1)),(5,(sv v11))]/\Sep No w W' [ac (sv v7) 3 1 (D.int .i64) y8,ac (sv v1) 181 24 (arD 12 a8) y10.2,.box g4 181 (fv y7),ac (sv v11) 3 1 (D.int .i64) y10.1]) hy9 ⟨v6,sb z,s.tk [0,1,1,0]⟩ ?_) ?_
   ·intro s3 y11 E W h hI
    obtain ⟨v9,hE,s⟩:=hI
    refine CW.sub hE ?_
    unfold fO at h
    refine .g (.qn z (.seq ?_))
    refine .cs z h ?_ ?_ <;> intro h
    ·refine .skip (bv h λy12 hy12 h=>?_)
     refine .seq (CW.via (R':=λx E' W'=>x=.normal/\∃ (v12:Hd),al E' [(0,(sv v_0)),(3,(sv v1)),(5,(sv v12)),(7,Pt g4),(57,(sv v7)),(58,vi (y8.length:Int)),(59,vi s3.2.1)]/\Sep No w W' [ac (sv v7) 3 1 (D.int .i64) y8,ac (sv v1) 181 24 (arD 12 a8) y12.2,.box g4 181 (fv y7),ac (sv v12) 3 1 (D.int .i64) y12.1]) ?_ ?_)
     ·have h:=hy12
      refine .block (.g (bv h λx8 hx8 h=>.s (ixv s.lv hx8 u23 t3 z z z) z (.s (lde (RV.flat s.lv hx8 z) t3 z z z z z) z (.qn z (.g (.q z (.q z (bv h λx9 hx9 h=>.s (ixv s.p1.lv hx9 u176 t181 z z z) z (.s (wJ (RV.flat (cs:=fv x9) s.p1.lv hx9 (sU λ_=>z)) t181 (hY _) z z) z (.c (.alloc t181 s ?_)))))))))))
      intro g5 W s
      have s:Sep _ _ _ [.box g5 181 (fv (λ_=>(aj.mk 0 0))),ac (sv v7) 3 1 (D.int .i64) y8,ac (sv v1) 181 24 (arD 12 a8) s3.2.2,.box g4 181 (fv y7),ac (sv v9) 3 1 (D.int .i64) s3.1]:=id s
      refine .c (.sta t181 s hY rb z z z ?_)
      intro W s
      refine .nil (.seq (.g (.qn z (.block (bv h λy13 hy13 h=>?_)))))
      refine .via (.iter (λs4 E' W'=>al E' [(0,(sv v_0)),(3,(sv v1)),(5,(sv v9)),(7,Pt g4),(9,vi x8),(10,Pt g5),(57,(sv v7)),(58,vi (y8.length:Int)),(59,vi s3.2.1),(67,vi s4.1)]/\Sep No w W' [.box g5 181 (fv s4.2),ac (sv v7) 3 1 (D.int .i64) y8,ac (sv v1) 181 24 (arD 12 a8) s3.2.2,.box g4 181 (fv y7),ac (sv v9) 3 1 (D.int .i64) s3.1]) (λy14 x E' W'=>x=.exit 6/\al E' [(0,(sv v_0)),(3,(sv v1)),(5,(sv v9)),(7,Pt g4),(9,vi x8),(10,Pt g5),(57,(sv v7)),(58,vi (y8.length:Int)),(59,vi s3.2.1)]/\Sep No w W' [.box g5 181 (fv y14),ac (sv v7) 3 1 (D.int .i64) y8,ac (sv v1) 181 24 (arD 12 a8) s3.2.2,.box g4 181 (fv y7),ac (sv v9) 3 1 (D.int .i64) s3.1]) hy13 ⟨sb z,s.tk [0,0,0,0,0]⟩ ?_) ?_
      ·intro s4 y15 E W h hI
       obtain ⟨hE,s⟩:=hI
       refine CW.sub hE ?_
       unfold fN at h
       refine .g (.qn z (.seq ?_))
       refine .cs z h ?_ ?_ <;> intro h
       ·refine .skip (.seq (.block (.g (.q z (.qn z (.rk 9 s [0,0,0,0,0] T.mix ?_))))))
        intro W s
        have t:=s.to [0,0,0,0,0]
        refine .tp' 0 z z t (.tp' 1 z z t (bv h λx10 hx10 h=>.ts' 2 z (λW t=>ixa hx10 u181 t179 z z z) t z (.ts' 3 z (λW t=>ldx t hx10 (λ_=>z) t179 z z z z z) t z (.tp' 4 z z t (bv h λx11 hx11 h=>.ts' 5 z (λW t=>ixa hx11 u181 t179 z z z) t z (.ts' 6 z (λW t=>ldx t.p3 hx11 (λ_=>z) t179 z z z z z) t z (bv h λy16 hy16 h=>.by1 7 z (.cO s func212 (sn hy16) z z ?_))))))))
        intro W s
        refine s.an [0,0,0,0,0] λt=>bv h λx12 hx12 h=>.ts' 8 z (λW t=>ixa hx12 u181 t179 z z z) t z (.by1 9 z (.stx (x1:=y16) hx12 s (λ_=>z) t179 z z z z ?_))
        intro W s
        refine ⟨λh=>absurd z h,?_⟩
        refine .done (.region (.q z (.q z (.nil ?_))))
        cases h
        exact ⟨z,sb z,s.tk [0,0,0,0,0]⟩
       refine .exit ?_
       cases h
       exact ⟨by simp,z,sb z,s.tk [0,0,0,0,0]⟩
      intro x E W hJ
      obtain ⟨rfl,hE,s⟩:=hJ
      refine ⟨_,hE.sub,?_⟩
      refine .seq (.rk 6 s [0,0,0,0,0] T.mix ?_)
      intro W s
      have t:=s.to [0,0,0,0,0]
      refine .ts' 0 z (λW t=>lda t181 t (hY _) z z) t z (.tp' 1 z z t (.tp' 2 z z t (bv h λx13 hx13 h=>.ts' 3 z (λW t=>ixv s.p2.lv hx13 u176 t181 z z z) t z (.ts' 4 z (λW t=>wJ (RV.flat (cs:=fv x13) t.p2.lv hx13 (sU λ_=>z)) t181 (hY _) z z) t z (.ts' 5 z (λW t=>nea (q:=(λx y:aj=>(x.Kind==y.Kind&&(x.N==y.N&&true)))) T.q181 u181 t179 (λ_=>z) z (eqS T.e179 λ_ _=>z) z z z) t z (.done ?_))))))
      refine .cs z h ?_ ?_ <;> intro h
      ·refine .g (.q z (.q z (.s (lda t181 s (hY _) z z) z (bv h λx14 hx14 h=>.s (ixv s.p2.lv hx14 u176 t181 z z z) z (bv h λr4 hr4 h=>.c (.seva hr4 hx14 s.p2 t181 (λ_=>z) hY rb z z z ?_))))))
       intro W s
       refine .nil (.region (.q z (.q z (.c (.liv [x8] (D.int .i64) u23 t3 s z z z z ?_ z (λ_=>z))))))
       intro v13 W s
       refine bv h λr5 hr5 h=>?_
       have hT0:=s.p5
       refine .c (.av hr5 hT0 hT0.p1.lv (λ_=>z) u23 t3 z z z ?_)
       intro v14 W s
       refine .q z (.nil ?_)
       cases h
       exact ⟨z,v14,sb z,s.tk [4,2,3,0]⟩
      refine .skip ?_
      cases h
      exact ⟨z,v9,sb z,s.tk [1,1,1,1]⟩
     intro x E W hJ
     obtain ⟨rfl,v15,hE,s⟩:=hJ
     refine ⟨_,hE.sub,?_⟩
     refine .region (.q z (.q z (.nil ?_)))
     cases h
     exact ⟨z,v15,sb z,s.tk [0,0,0,0]⟩
    refine .exit ?_
    cases h
    exact ⟨by simp,z,v9,sb z,s.tk [0,0,0,0]⟩
   intro x E W hJ
   obtain ⟨rfl,v16,hE,s⟩:=hJ
   refine ⟨_,hE.sub,?_⟩
   cases h
   exact ⟨z,v16,sb z,s.tk [1,2]⟩
  refine .exit ?_
  cases h
  exact ⟨by simp,z,sb z,s.tk [0]⟩
 intro x E W hJ
 obtain ⟨rfl,hE,s⟩:=hJ
 refine ⟨_,hE.sub,?_⟩
 obtain rfl:=o9 h
 exact .g (.q z (.qn z (.ret (aa v1 (rt z rn) z (s.tk [0])))))
theorem cF {a0:aj} {a1:Int} {w:World} {r:Bool} (h:cf a0 a1=some r):CL 214 #[.agg #[vi a0.Kind,vi a0.N],vi a1] w (RU w (.bool r)):=by
 unfold cf at h
 refine ao func214 z z ?_
 have s:=Sep.start w
 refine .g (.c (.box s z z ?_))
 intro g1 W s
 refine .qn z (.g (.s (fa f179_0 z z z) z (.s (ld t3 s z z z z z) z (.q z (.q z (.cu 5 13 ((a0.Kind==1)&&(a0.N==a1)) s ?_ ?_))))))
 ·refine .both (a0.Kind==1) (λb=>?_) (λb=>?_)
  ·have hg1:=b
   exact .g hg1 (.s (fa f179_1 z z z) z (.g hg1 (.s (ld t3 s z z z z z) z (.g hg1 (.q z (.g hg1 (.q z (.s (pkt hg1 z z z) z (.nil (ck 5 s z (bp hg1)))))))))))
  exact .xx b z (.xx b z (.xx b z (.xx b z (.s (pkf b z z z) z (.nil (ck 5 s z (bq b)))))))
 intro W s
 cases h
 exact .qn z (.ret (aa () (rt z rn) z (s.to [])))
theorem dP {a0:Int} {a1:ab} {g_1:Nat} {w:World} {r:ab} (h:cX a0 a1=some r) (b_1:BR w (Old No w) g_1 70 [vi a1.Op,vi a1.Dst,vi a1.A,vi a1.B,vi a1.N]):CL 256 #[vi a0,Pt g_1] w (RU w (.agg #[vi r.Op,vi r.Dst,vi r.A,vi r.B,vi r.N])):=by
 unfold cX at h
 refine ao func256 z z ?_
 have s:=Sep.start w
 refine .g (.c (.alloc t70 s ?_))
 intro g1 W s
 refine .nil (.g (.s (fa f70_1 z z z) z (.s (ldb t3 (s.keepB b_1) z z z z z) z (.q z (.s (bs T.s70 z z) z (.c (.st t70 s z z z ?_)))))))
 intro W s
 cases h
 exact .nil (.ret (aa () (rc s t70 z rn z z) z (s.to [])))
def vN (w:World) (r:ab):Env->World->Prop:=Fin Tryz.prog Tryz.f213 No w (λs:Unit=>.agg #[vi r.Op,vi r.Dst,vi r.A,vi r.B,vi r.N]) (λs=>[]) .ret
end
noncomputable section
theorem un {a0:ab} {a1:aj} {a2:aj} {w:World} {r:ab} (h:lK a0 a1 a2=some r):CL 213 #[.agg #[vi a0.Op,vi a0.Dst,vi a0.A,vi a0.B,vi a0.N],.agg #[vi a1.Kind,vi a1.N],.agg #[vi a2.Kind,vi a2.N]] w (RU w (.agg #[vi r.Op,vi r.Dst,vi r.A,vi r.B,vi r.N])):=by
 unfold lK at h
 refine ao func213 z z ?_
 have s:=Sep.start w
 refine .g (.c (.box s z z ?_))
 intro g1 W s
 refine .c (.box s z z ?_)
 intro g2 W s
 refine .c (.box s z z ?_)
 intro g3 W s
 refine .c (.alloc t70 s ?_)
 intro g4 W s
 refine .nil (.g (.s (mf z z) z (.qn z (.seq (.g (.s (fa f179_0 z z z) z (.s (ld t3 s.p2 z z z z z) z (.q z (.q z (.cu 4 16 ((a1.Kind==1)&&(a2.Kind==1)) s ?_ ?_))))))))))
 ·refine .both (a1.Kind==1) (λb=>?_) (λb=>?_)
  ·have hg1:=b
   exact .g hg1 (.s (fa f179_0 z z z) z (.g hg1 (.s (ld t3 s.p1 z z z z z) z (.g hg1 (.q z (.s (pkt hg1 z z z) z (.nil (ck 4 s z (bp hg1)))))))))
  exact .xx b z (.xx b z (.xx b z (.s (pkf b z z z) z (.nil (ck 4 s z (bq b))))))
 intro W s
 refine .nil ?_
 refine .cs z h ?_ ?_ <;> intro h
 ·refine .seq (.rk 10 s [0,0,0,0] T.mix ?_)
  intro W s
  have t:=s.to [0,0,0,0]
  refine .ts' 0 z (λW t=>fa f70_1 z z z) t z (.ts' 1 z (λW t=>ld t3 t.p3 z z z z z) t z (.ts' 2 z (λW t=>fa f70_4 z z z) t z (.ts' 3 z (λW t=>ld t3 t.p3 z z z z z) t z (.ts' 4 z (λW t=>fa f179_1 z z z) t z (.ts' 5 z (λW t=>ld t3 t.p2 z z z z z) t z (.ts' 6 z (λW t=>fa f179_1 z z z) t z (.ts' 7 z (λW t=>ld t3 t.p1 z z z z z) t z (bv h λy1 hy1 h=>.by1 8 z (.cO s func255 (qT hy1) z z ?_)))))))))
  intro W s
  refine s.an [0,0,0,0] λt=>.ts' 9 z (λW t=>bs T.s70 z z) t z (.by1 10 z (.st t70 s z z z ?_))
  intro W s
  refine ⟨λh=>absurd z h,?_⟩
  cases h
  exact .done (.ret (aa () (rc s t70 z rn z z) z (s.to [])))
 refine .skip (bv h λy2 hy2 h=>?_)
 refine .seq (CW.via (R':=λx E' W'=>(match y2 with | .inl o1=>x=.normal/\al E' [(3,Pt g1),(4,Pt g2),(5,Pt g3),(6,Pt g4)]/\Sep No w W' [.box g4 70 [vi 0,vi 0,vi 0,vi 0,vi 0],.box g3 179 [vi a2.Kind,vi a2.N],.box g2 179 [vi a1.Kind,vi a1.N],.box g1 70 [vi a0.Op,vi a0.Dst,vi a0.A,vi a0.B,vi a0.N]] | .inr o2=>x=.ret/\vN w o2 E' W')) ?_ ?_)
 ·have h:=hy2
  refine .g (.s (fa f70_4 z z z) z (.s (ld t3 s.p3 z z z z z) z (.nil (.block (bv h λy3 hy3 h=>?_)))))
  refine .seq (CW.via (R':=λx E' W'=>x=.normal/\al E' [(3,Pt g1),(4,Pt g2),(5,Pt g3),(6,Pt g4),(7,.func (.func 256) #[] #[Pt g1]),(28,vi a0.N),(29,.bool y3)]/\Sep No w W' [.box g4 70 [vi 0,vi 0,vi 0,vi 0,vi 0],.box g3 179 [vi a2.Kind,vi a2.N],.box g2 179 [vi a1.Kind,vi a1.N],.box g1 70 [vi a0.Op,vi a0.Dst,vi a0.A,vi a0.B,vi a0.N]]) ?_ ?_)
  ·have h:=hy3
   refine .g (.q z (.q z (.nil ?_)))
   refine .cs z h ?_ ?_ <;> intro h
   ·refine .skip ?_
    cases h
    exact ⟨z,sb z,s.tk [0,0,0,0]⟩
   refine .g (.q z (.q z (.nil ?_)))
   refine .cs z h ?_ ?_ <;> intro h
   ·refine .skip ?_
    cases h
    exact ⟨z,sb z,s.tk [0,0,0,0]⟩
   refine .region (.q z (.q z (.nil ?_)))
   cases h
   exact ⟨z,sb z,s.tk [0,0,0,0]⟩
  intro x E W hJ
  obtain ⟨rfl,hE,s⟩:=hJ
  refine ⟨_,hE.sub,?_⟩
  refine .cs z h ?_ ?_ <;> intro h
  ·refine .seq (.g (.s (ld t179 s.p1 z z z z z) z (bv h λy4 hy4 h=>.c (.cO s func214 (cF hy4) z z ?_))))
   intro W s
   refine .nil ?_
   refine .cs z h ?_ ?_ <;> intro h
   ·refine .g (.q z (.s (fa f70_2 z z z) z (.s (ld t3 s.p3 z z z z z) z (bv h λy5 hy5 h=>.c (.callv (vs:=[vi a0.A]) (cap:=#[Pt g1]) s ⟨_,func256,z,by kernel_rfl⟩ (dP hy5 s.p3.boxB) z z z ?_)))))
    rintro ⟨⟩ W s
    refine .c (.st t70 s z z z ?_)
    intro W s
    refine .nil (.ret ?_)
    cases h
    exact ⟨z,aa (vs:=[_]) () (rc s t70 z rn z z) z (s.to [])⟩
   refine .skip (.g (.s (ld t179 s.p2 z z z z z) z (bv h λy6 hy6 h=>.c (.cO s func214 (cF hy6) z z ?_))))
   intro W s
   refine .nil ?_
   refine .cs z h ?_ ?_ <;> intro h
   ·refine .g (.q z (.s (fa f70_3 z z z) z (.s (ld t3 s.p3 z z z z z) z (bv h λy7 hy7 h=>.c (.callv (vs:=[vi a0.B]) (cap:=#[Pt g1]) s ⟨_,func256,z,by kernel_rfl⟩ (dP hy7 s.p3.boxB) z z z ?_)))))
    rintro ⟨⟩ W s
    refine .c (.st t70 s z z z ?_)
    intro W s
    refine .nil (.ret ?_)
    cases h
    exact ⟨z,aa (vs:=[_]) () (rc s t70 z rn z z) z (s.to [])⟩
   refine .skip ?_
   cases h
   exact ⟨z,sb z,s.tk [0,0,0,0]⟩
  refine bv h λy8 hy8 h=>?_
  refine .seq (CW.via (R':=λx E' W'=>x=.normal/\al E' [(3,Pt g1),(4,Pt g2),(5,Pt g3),(6,Pt g4),(7,.func (.func 256) #[] #[Pt g1]),(28,vi a0.N),(45,.bool y8)]/\Sep No w W' [.box g4 70 [vi 0,vi 0,vi 0,vi 0,vi 0],.box g3 179 [vi a2.Kind,vi a2.N],.box g2 179 [vi a1.Kind,vi a1.N],.box g1 70 [vi a0.Op,vi a0.Dst,vi a0.A,vi a0.B,vi a0.N]]) ?_ ?_)
  ·have h:=hy8
   refine .g (.q z (.q z (.nil ?_)))
   refine .cs z h ?_ ?_ <;> intro h
   ·refine .skip ?_
    cases h
    exact ⟨z,sb z,s.tk [0,0,0,0]⟩
   refine .g (.q z (.q z (.nil ?_)))
   refine .cs z h ?_ ?_ <;> intro h
   ·refine .skip ?_
    cases h
    exact ⟨z,sb z,s.tk [0,0,0,0]⟩
   refine .region (.q z (.q z (.nil ?_)))
   cases h
   exact ⟨z,sb z,s.tk [0,0,0,0]⟩
  intro x E W hJ
  obtain ⟨rfl,hE,s⟩:=hJ
  refine ⟨_,hE.sub,?_⟩
  refine .cs z h ?_ ?_ <;> intro h
  ·refine .g (.s (ld t179 s.p1 z z z z z) z (bv h λy9 hy9 h=>.c (.cO s func214 (cF hy9) z z ?_)))
   intro W s
   refine .nil ?_
   refine .cs z h ?_ ?_ <;> intro h
   ·refine .g (.q z (.s (fa f70_2 z z z) z (.s (ld t3 s.p3 z z z z z) z (bv h λy10 hy10 h=>.c (.callv (vs:=[vi a0.A]) (cap:=#[Pt g1]) s ⟨_,func256,z,by kernel_rfl⟩ (dP hy10 s.p3.boxB) z z z ?_)))))
    rintro ⟨⟩ W s
    refine .c (.st t70 s z z z ?_)
    intro W s
    refine .nil (.ret ?_)
    cases h
    exact ⟨z,aa (vs:=[_]) () (rc s t70 z rn z z) z (s.to [])⟩
   refine .skip ?_
   cases h
   exact ⟨z,sb z,s.tk [0,0,0,0]⟩
  refine .g (.q z (.q z (.nil ?_)))
  refine .cs z h ?_ ?_ <;> intro h
  ·refine .seq (.g (.s (ld t179 s.p1 z z z z z) z (bv h λy11 hy11 h=>.c (.cO s func214 (cF hy11) z z ?_))))
   intro W s
   refine .nil ?_
   refine .cs z h ?_ ?_ <;> intro h
   ·refine .g (.q z (.s (fa f70_2 z z z) z (.s (ld t3 s.p3 z z z z z) z (bv h λy12 hy12 h=>.c (.callv (vs:=[vi a0.A]) (cap:=#[Pt g1]) s ⟨_,func256,z,by kernel_rfl⟩ (dP hy12 s.p3.boxB) z z z ?_)))))
    rintro ⟨⟩ W s
    refine .c (.st t70 s z z z ?_)
    intro W s
    refine .nil (.ret ?_)
    cases h
    exact ⟨z,aa (vs:=[_]) () (rc s t70 z rn z z) z (s.to [])⟩
   refine .skip (.g (.s (ld t179 s.p2 z z z z z) z (bv h λy13 hy13 h=>.c (.cO s func214 (cF hy13) z z ?_))))
   intro W s
   refine .nil ?_
   refine .cs z h ?_ ?_ <;> intro h
   ·refine .g (.q z (.s (fa f70_3 z z z) z (.s (ld t3 s.p3 z z z z z) z (bv h λy14 hy14 h=>.c (.callv (vs:=[vi a0.B]) (cap:=#[Pt g1]) s ⟨_,func256,z,by kernel_rfl⟩ (dP hy14 s.p3.boxB) z z z ?_)))))
    rintro ⟨⟩ W s
    refine .c (.st t70 s z z z ?_)
    intro W s
    refine .nil (.ret ?_)
    cases h
    exact ⟨z,aa (vs:=[_]) () (rc s t70 z rn z z) z (s.to [])⟩
   refine .skip ?_
   cases h
   exact ⟨z,sb z,s.tk [0,0,0,0]⟩
  refine .g (.q z (.q z (.nil ?_)))
  refine .cs z h ?_ ?_ <;> intro h
  ·refine .g (.s (ld t179 s.p1 z z z z z) z (bv h λy15 hy15 h=>.c (.cO s func214 (cF hy15) z z ?_)))
   intro W s
   refine .nil ?_
   refine .cs z h ?_ ?_ <;> intro h
   ·refine .g (.q z (.s (fa f70_2 z z z) z (.s (ld t3 s.p3 z z z z z) z (bv h λy16 hy16 h=>.c (.callv (vs:=[vi a0.A]) (cap:=#[Pt g1]) s ⟨_,func256,z,by kernel_rfl⟩ (dP hy16 s.p3.boxB) z z z ?_)))))
    rintro ⟨⟩ W s
    refine .c (.st t70 s z z z ?_)
    intro W s
    refine .nil (.ret ?_)
    cases h
    exact ⟨z,aa (vs:=[_]) () (rc s t70 z rn z z) z (s.to [])⟩
   refine .skip ?_
   cases h
   exact ⟨z,sb z,s.tk [0,0,0,0]⟩
  refine .skip ?_
  cases h
  exact ⟨z,sb z,s.tk [0,0,0,0]⟩
 intro x E W hJ
 rcases y2 with o3 | o4
 ·have h:=dG h
  obtain ⟨rfl,hE,s⟩:=hJ
  refine ⟨_,hE.sub,?_⟩
  refine .seq (.g (.s (fa f70_4 z z z) z (.s (ld t3 s.p3 z z z z z) z (.q z (.q z (.cu 4 84 ((a0.N==3)||(a0.N==10)) s ?_ ?_))))))
  ·refine .both (a0.N==3) (λb=>?_) (λb=>?_)
   ·exact .xx b z (.xx b z (.xx b z (.s (pkt b z z z) z (.nil (ck 4 s z (gY b))))))
   have hg2:=b
   exact .g hg2 (.s (fa f70_4 z z z) z (.g hg2 (.s (ld t3 s.p3 z z z z z) z (.g hg2 (.q z (.s (pkf hg2 z z z) z (.nil (ck 4 s z (gr hg2)))))))))
  intro W s
  refine .q z (bv h λb1 hb1 h=>.cu 7 92 (b1) s ?_ ?_)
  ·refine .both ((a0.N==3)||(a0.N==10)) (λb=>?_) (λb=>?_)
   ·have hg3:=b
    have h:=aC b hb1
    refine .g hg3 (.s (ld t179 s.p2 z z z z z) z (bv h λy17 hy17 h=>.g hg3 (.c (.cO s func214 (cF hy17) z z ?_))))
    intro W s
    refine .g hg3 (.q z (bv h λb2 hb2 h=>.cu 3 91 (b2) s ?_ ?_))
    ·refine .both (y17) (λb=>?_) (λb=>?_)
     ·refine .xx b z (.xx b z ?_)
      cases aC b hb2
      exact .g hg3 (.s (pkt b z z z) z (.nil (ck 3 s)))
     have hg4:=b
     have h:=aD b hb2
     refine .g hg4 (.s (ld t179 s.p1 z z z z z) z (bv h λy18 hy18 h=>.g hg4 (.c (.cO s func214 (cF hy18) z z ?_))))
     intro W s
     refine .g hg3 (.s (pkf hg4 z z z) z ?_)
     cases h
     exact .nil (ck 3 s)
    intro W s
    refine .s (pkt hg3 z z z) z ?_
    cases h
    exact .nil (ck 5 s)
   refine .xx b z (.xx b z (.xx b z (.xu (.xu (.xx b z ?_)))))
   cases aD b hb1
   exact .s (pkf b z z z) z (.nil (ck 7 s))
  intro W s
  refine .nil ?_
  refine .cs z h ?_ ?_ <;> intro h
  ·refine .g (.s (fa f70_1 z z z) z (.s (ld t3 s.p3 z z z z z) z (.s (bs T.s70 z z) z (.c (.st t70 s z z z ?_)))))
   intro W s
   cases h
   exact .nil (.ret (aa () (rc s t70 z rn z z) z (s.to [])))
  refine .skip (.g (.s (ld t70 s.p3 z z z z z) z (.c (.st t70 s z z z ?_))))
  intro W s
  obtain rfl:=o9 h
  exact .nil (.ret (aa () (rc s t70 z rn z z) z (s.to [])))
 have h:=dH h
 obtain ⟨rfl,hF⟩:=hJ
 refine ⟨_,λ_ _ h=>h,?_⟩
 cases h
 exact hF
theorem tl {a0:ab} {a1:Int} {a2:Ar aj} {w:World} {r:ab} (h:kq a0 a1 a2=some r):CL 165 #[.agg #[vi a0.Op,vi a0.Dst,vi a0.A,vi a0.B,vi a0.N],vi a1,.agg (fv a2).toArray] w (RU w (.agg #[vi r.Op,vi r.Dst,vi r.A,vi r.B,vi r.N])):=by
 unfold kq at h
 refine ao func165 z z ?_
 have s:=Sep.start w
 refine .g (.c (.box s z z ?_))
 intro g1 W s
 refine .c (.box s z z ?_)
 intro g2 W s
 have s:Sep _ _ _ [.box g2 181 (fv a2),.box g1 70 [vi a0.Op,vi a0.Dst,vi a0.A,vi a0.B,vi a0.N]]:=id s
 refine .c (.alloc t70 s ?_)
 intro g3 W s
 refine .nil (.seq (.block (.g (.s (fa f70_0 z z z) z (.s (ld t3 s.p2 z z z z z) z (.q z (.q z (bv h λb1 hb1 h=>.cu 7 18 (b1) s ?_ ?_))))))))
 ·refine .both (a0.Op==2) (λb=>?_) (λb=>?_)
  ·have hg1:=b
   have h:=aC b hb1
   refine .g hg1 (.s (fa f70_2 z z z) z (.g hg1 (.s (ld t3 s.p2 z z z z z) z (bv h λx1 hx1 h=>.g hg1 (.s (ixa hx1 u181 t179 z z z) z (.g hg1 (.s (fa f179_0 z z z) z (.g hg1 (.s (ldx s.p1 hx1 (λ_=>z) t3 z z z z z) z (.g hg1 (.q z (.s (pkt hg1 z z z) z ?_))))))))))))
   cases h
   exact .nil (ck 7 s)
  refine .xx b z (.xx b z (.xx b z (.xx b z (.xx b z (.xx b z ?_)))))
  cases aD b hb1
  exact .s (pkf b z z z) z (.nil (ck 7 s))
 intro W s
 refine .q z (.nil ?_)
 refine .cs z h ?_ ?_ <;> intro h
 ·refine .seq (.rk 8 s [0,0,0] T.mix ?_)
  intro W s
  have t:=s.to [0,0,0]
  refine .ts' 0 z (λW t=>fa f70_1 z z z) t z (.ts' 1 z (λW t=>ld t3 t.p2 z z z z z) t z (.ts' 2 z (λW t=>fa f70_2 z z z) t z (.ts' 3 z (λW t=>ld t3 t.p2 z z z z z) t z (bv h λx2 hx2 h=>.ts' 4 z (λW t=>ixa hx2 u181 t179 z z z) t z (.ts' 5 z (λW t=>fa f179_1 z z z) t z (.ts' 6 z (λW t=>ldx t.p1 hx2 (λ_=>z) t3 z z z z z) t z (.ts' 7 z (λW t=>bs T.s70 z z) t z (.by1 8 z (.st t70 s z z z ?_)))))))))
  intro W s
  refine ⟨λh=>absurd z h,?_⟩
  cases h
  exact .done (.ret (aa () (rc s t70 z rn z z) z (s.to [])))
 refine .g (.s (fa f70_0 z z z) z (.s (ld t3 s.p2 z z z z z) z (.q z (.q z (.nil ?_)))))
 refine .cs z h ?_ ?_ <;> intro h
 ·refine .seq (.rk 10 s [0,0,0] T.mix ?_)
  intro W s
  have t:=s.to [0,0,0]
  refine .ts' 0 z (λW t=>ld t70 t.p2 z z z z z) t z (.ts' 1 z (λW t=>fa f70_2 z z z) t z (.ts' 2 z (λW t=>ld t3 t.p2 z z z z z) t z (bv h λx3 hx3 h=>.ts' 3 z (λW t=>ixa hx3 u181 t179 z z z) t z (.ts' 4 z (λW t=>ldx t.p1 hx3 (λ_=>z) t179 z z z z z) t z (.ts' 5 z (λW t=>fa f70_3 z z z) t z (.ts' 6 z (λW t=>ld t3 t.p2 z z z z z) t z (bv h λx4 hx4 h=>.ts' 7 z (λW t=>ixa hx4 u181 t179 z z z) t z (.ts' 8 z (λW t=>ldx t.p1 hx4 (λ_=>z) t179 z z z z z) t z (bv h λy1 hy1 h=>.by1 9 z (.cO s func213 (un hy1) z z ?_))))))))))
  intro W s
  refine s.an [0,0,0] λt=>.by1 10 z (.st t70 s z z z ?_)
  intro W s
  refine ⟨λh=>absurd z h,?_⟩
  obtain rfl:=o9 h
  exact .done (.ret (aa () (rc s t70 z rn z z) z (s.to [])))
 refine .g (.s (fa f70_0 z z z) z (.s (ld t3 s.p2 z z z z z) z (.q z (.q z (bv h λb2 hb2 h=>.cu 6 51 (b2) s ?_ ?_)))))
 ·refine .both (a0.Op==5) (λb=>?_) (λb=>?_)
  ·have hg2:=b
   have h:=aC b hb2
   refine .g hg2 (.s (fa f70_2 z z z) z (.g hg2 (.s (ld t3 s.p2 z z z z z) z (bv h λx5 hx5 h=>.g hg2 (.s (ixa hx5 u181 t179 z z z) z (.g hg2 (.s (ldx s.p1 hx5 (λ_=>z) t179 z z z z z) z (bv h λy2 hy2 h=>.g hg2 (.c (.cO s func214 (cF hy2) z z ?_))))))))))
   intro W s
   refine .s (pkt hg2 z z z) z ?_
   cases h
   exact .nil (ck 6 s)
  refine .xx b z (.xx b z (.xx b z (.xx b z (.xx b z ?_))))
  cases aD b hb2
  exact .s (pkf b z z z) z (.nil (ck 6 s))
 intro W s
 refine .q z (.nil ?_)
 refine .cs z h ?_ ?_ <;> intro h
 ·refine .g (.s (fa f70_4 z z z) z (.s (ld t3 s.p2 z z z z z) z (.s (bs T.s70 z z) z (.c (.st t70 s z z z ?_)))))
  intro W s
  cases h
  exact .nil (.ret (aa () (rc s t70 z rn z z) z (s.to [])))
 refine .g (.s (fa f70_0 z z z) z (.s (ld t3 s.p2 z z z z z) z (.q z (.q z (bv h λb3 hb3 h=>.cu 7 66 (b3) s ?_ ?_)))))
 ·refine .both (a0.Op==5) (λb=>?_) (λb=>?_)
  ·have hg3:=b
   have h:=aC b hb3
   refine .g hg3 (.s (fa f70_2 z z z) z (.g hg3 (.s (ld t3 s.p2 z z z z z) z (bv h λx6 hx6 h=>.g hg3 (.s (ixa hx6 u181 t179 z z z) z (.g hg3 (.s (fa f179_0 z z z) z (.g hg3 (.s (ldx s.p1 hx6 (λ_=>z) t3 z z z z z) z (.g hg3 (.q z (.s (pkt hg3 z z z) z ?_))))))))))))
   cases h
   exact .nil (ck 7 s)
  refine .xx b z (.xx b z (.xx b z (.xx b z (.xx b z (.xx b z ?_)))))
  cases aD b hb3
  exact .s (pkf b z z z) z (.nil (ck 7 s))
 intro W s
 refine .q z (.nil ?_)
 refine .cs z h ?_ ?_ <;> intro h
 ·refine .g (.q z (.q z (.s (bs T.s70 z z) z (.c (.st t70 s z z z ?_)))))
  intro W s
  cases h
  exact .nil (.ret (aa () (rc s t70 z rn z z) z (s.to [])))
 refine .skip (.g (.s (ld t70 s.p2 z z z z z) z (.c (.st t70 s z z z ?_))))
 intro W s
 obtain rfl:=o9 h
 exact .nil (.ret (aa () (rc s t70 z rn z z) z (s.to [])))
theorem tm {a0:List ab} {v_0:Hd} {w:World} {r:(List ab)×Bool} (h:kr a0=some r) (q_0:RO w v_0 70 5 ae a0):CL 121 #[sv v_0] w (Ret No w (λs:Hd=>.tuple #[sv s,.bool r.2]) (λs=>[ac (sv s) 70 5 ae r.1])):=by
 unfold kr at h
 refine ao func121 z z ?_
 have s:=Sep.start w
 refine .g (.q z (.qn z (.seq (.g (.q z (bv h λy1 hy1 h=>.c (.cO s func67 (bZ hy1 (s.keep q_0)) z z ?_)))))))
 intro W s
 refine .q z (.nil ?_)
 refine .cs z h ?_ ?_ <;> intro h
 ·refine .g (.q z (.qn z (.ret ?_)))
  have s:=s.nilv 70 5 ae
  cases h
  exact aa (vs:=[_,_]) aF (rt z (rt z rn)) z (s.tk [0])
 refine .skip (.g (.q z (bv h λy2 hy2 h=>.c (.cV s func69 (a7 hy2 (s.keep q_0)) z z ?_))))
 intro v1 W s
 refine .qn z (.seq (.g (.q z (bv h λy3 hy3 h=>.c (.cV s func164 (qy hy3 (s.keep q_0)) z z ?_)))))
 intro v2 W s
 refine .s (aJ s.lv u176 z z) z (.qn z (.block (bv h λy4 hy4 h=>?_)))
 refine .via (.iter (λs1 E' W'=>al E' [(0,(sv v_0)),(4,(sv v1)),(13,(sv v2)),(14,vi (y3.length:Int)),(15,vi s1.1)]/\Sep No w W' [ac (sv v2) 181 24 (arD 12 a8) y3,ac (sv v1) 70 5 ae s1.2]) (λy5 x E' W'=>x=.exit 0/\al E' [(4,(sv v1))]/\Sep No w W' [ac (sv v2) 181 24 (arD 12 a8) y3,ac (sv v1) 70 5 ae y5]) hy4 ⟨sb z,s.tk [0,0]⟩ ?_) ?_
 ·intro s1 y6 E W h hI
  obtain ⟨hE,s⟩:=hI
  refine CW.sub hE ?_
  unfold gC at h
  refine .g (.qn z (.seq ?_))
  refine .cs z h ?_ ?_ <;> intro h
  ·refine .skip (bv h λy7 hy7 h=>?_)
   refine .seq (CW.via (R':=λx E' W'=>x=.normal/\al E' [(0,(sv v_0)),(4,(sv v1)),(13,(sv v2)),(14,vi (y3.length:Int)),(15,vi s1.1)]/\Sep No w W' [ac (sv v2) 181 24 (arD 12 a8) y3,ac (sv v1) 70 5 ae y7]) ?_ ?_)
   ·have h:=hy7
    refine .block (.g (.q z (bv h λx1 hx1 h=>.s (ixv s.lv hx1 u176 t181 z z z) z (.s (wJ (RV.flat (cs:=fv x1) s.lv hx1 (sU λ_=>z)) t181 (hY _) z z) z (.c (.alloc t181 s ?_))))))
    intro g1 W s
    have s:Sep _ _ _ [.box g1 181 (fv (λ_=>(aj.mk 0 0))),ac (sv v2) 181 24 (arD 12 a8) y3,ac (sv v1) 70 5 ae s1.2]:=id s
    refine .q z (.c (.sta t181 s hY rb z z z ?_))
    intro W s
    refine .nil (.g (bv h λx2 hx2 h=>.s (ixa hx2 u181 t179 z z z) z (.s (fa f179_0 z z z) z (.s (ldx s hx2 (λ_=>z) t3 z z z z z) z (.q z (.nil ?_))))))
    refine .cs z h ?_ ?_ <;> intro h
    ·refine .rk 10 s [0,0,0] T.mix ?_
     intro W s
     have t:=s.to [0,0,0]
     refine .tp' 0 z z t (.tp' 1 z z t (.tp' 2 z z t (.tp' 3 z z t (bv h λx3 hx3 h=>.ts' 4 z (λW t=>ixv (s.keep q_0) hx3 u38 t70 z z z) t z (.ts' 5 z (λW t=>lde (RV.flat (t.keep q_0) hx3 z) t70 z z z z z) t z (.tp' 6 z z t (.ts' 7 z (λW t=>lda t181 t (hY _) z z) t z (bv h λy8 hy8 h=>.by1 8 z (.cO s func165 (tl hy8) z z ?_)))))))))
     intro W s
     refine s.an [0,0,0] λt=>bv h λx4 hx4 h=>.ts' 9 z (λW t=>ixv s.p2.lv hx4 u38 t70 z z z) t z (bv h λr1 hr1 h=>.by1 10 z (.sev hr1 hx4 s.p2 t70 z z z z z z ?_))
     intro W s
     refine ⟨λh=>absurd z h,?_⟩
     refine .done ?_
     obtain rfl:=o9 h
     exact ⟨z,sb z,s.tk [2,0]⟩
    refine .skip ?_
    cases h
    exact ⟨z,sb z,s.tk [1,1]⟩
   intro x E W hJ
   obtain ⟨rfl,hE,s⟩:=hJ
   refine ⟨_,hE.sub,?_⟩
   refine .region (.q z (.q z (.nil ?_)))
   cases h
   exact ⟨z,sb z,s.tk [0,0]⟩
  refine .exit ?_
  cases h
  exact ⟨by simp,z,sb z,s.tk [0,0]⟩
 intro x E W hJ
 obtain ⟨rfl,hE,s⟩:=hJ
 refine ⟨_,hE.sub,?_⟩
 cases h
 exact .g (.q z (.q z (.qn z (.ret (aa (vs:=[_,_]) v1 (rt z (rt z rn)) z (s.tk [1]))))))
theorem tq {w:World} {r:(Ar Int)} (h:kt=some r):CL 215 #[] w (RU w (.agg (bE r).toArray)):=by
 unfold kt at h
 refine ao func215 z z ?_
 have s:=Sep.start w
 refine .g (.c (.alloc t185 s ?_))
 intro g1 W s
 have s:Sep _ _ _ [.box g1 185 (bE (λ_=>0))]:=id s
 refine .nil (.g (.c (.alloc t185 s ?_)))
 intro g2 W s
 have s:Sep _ _ _ [.box g2 185 (bE (λ_=>0)),.box g1 185 (bE (λ_=>0))]:=id s
 refine .nil (.seq (.g (.qn z (.block (bv h λy1 hy1 h=>?_)))))
 refine .via (.iter (λs1 E' W'=>al E' [(0,Pt g1),(1,Pt g2),(3,vi s1.1)]/\Sep No w W' [.box g2 185 (bE s1.2),.box g1 185 (bE (λ_=>0))]) (λy2 x E' W'=>x=.exit 0/\al E' [(0,Pt g1),(1,Pt g2)]/\Sep No w W' [.box g2 185 (bE y2),.box g1 185 (bE (λ_=>0))]) hy1 ⟨sb z,s.tk [0,0]⟩ ?_) ?_
 ·intro s1 y3 E W h hI
  obtain ⟨hE,s⟩:=hI
  refine CW.sub hE ?_
  unfold mm at h
  refine .g (.qn z (.seq ?_))
  refine .cs z h ?_ ?_ <;> intro h
  ·refine .skip (.seq (.block (.g (.q z (.qn z (.region (.q z (.q z (bv h λx1 hx1 h=>.s (ixa hx1 u185 t3 z z z) z (.c (.stx (x1:=s1.1) hx1 s (λ_=>z) t3 z z z z ?_)))))))))))
   intro W s
   refine .nil (.region (.q z (.q z (.nil ?_))))
   cases h
   exact ⟨z,sb z,s.tk [0,0]⟩
  refine .exit ?_
  cases h
  exact ⟨by simp,z,sb z,s.tk [0,0]⟩
 intro x E W hJ
 obtain ⟨rfl,hE,s⟩:=hJ
 refine ⟨_,hE.sub,?_⟩
 refine .g (.s (lda t185 s (cP _) z z) z (.c (.sta t185 s.p1 cP mP z z z ?_)))
 intro W s
 obtain rfl:=o9 h
 exact .nil (.ret (aa () (rc s t185 z rn (cP _) z) z (s.to [])))
theorem mb {a0:Ar Int} {a1:ab} {w:World} {r:(Ar Int)} (h:fb a0 a1=some r):CL 216 #[.agg (bE a0).toArray,.agg #[vi a1.Op,vi a1.Dst,vi a1.A,vi a1.B,vi a1.N]] w (RU w (.agg (bE r).toArray)):=by
 unfold fb at h
 refine ao func216 z z ?_
 have s:=Sep.start w
 refine .g (.c (.box s z z ?_))
 intro g1 W s
 have s:Sep _ _ _ [.box g1 185 (bE a0)]:=id s
 refine .c (.box s z z ?_)
 intro g2 W s
 refine .c (.alloc t185 s ?_)
 intro g3 W s
 have s:Sep _ _ _ [.box g3 185 (bE (λ_=>0)),.box g2 70 [vi a1.Op,vi a1.Dst,vi a1.A,vi a1.B,vi a1.N],.box g1 185 (bE a0)]:=id s
 refine .nil (.g (.s (ld t70 s.p1 z z z z z) z (bv h λy1 hy1 h=>.c (.cO s func176 (jE hy1) z z ?_))))
 intro W s
 refine .qn z (.seq (.g (.q z (.q z (.nil ?_)))))
 refine .cs z h ?_ ?_ <;> intro h
 ·refine .g (.s (lda t185 s.p2 (cP _) z z) z (.c (.sta t185 s cP mP z z z ?_)))
  intro W s
  obtain rfl:=o9 h
  exact .nil (.ret (aa () (rc s t185 z rn (cP _) z) z (s.to [])))
 refine .skip (.seq (.g (.qn z (.block (bv h λy2 hy2 h=>?_)))))
 refine .via (.iter (λs1 E' W'=>al E' [(2,Pt g1),(3,Pt g2),(4,Pt g3),(5,vi y1),(12,vi s1.1)]/\Sep No w W' [.box g3 185 (bE (λ_=>0)),.box g2 70 [vi a1.Op,vi a1.Dst,vi a1.A,vi a1.B,vi a1.N],.box g1 185 (bE s1.2)]) (λy3 x E' W'=>x=.exit 0/\al E' [(2,Pt g1),(3,Pt g2),(4,Pt g3),(5,vi y1)]/\Sep No w W' [.box g3 185 (bE (λ_=>0)),.box g2 70 [vi a1.Op,vi a1.Dst,vi a1.A,vi a1.B,vi a1.N],.box g1 185 (bE y3)]) hy2 ⟨sb z,s.tk [0,0,0]⟩ ?_) ?_
 ·intro s1 y4 E W h hI
  obtain ⟨hE,s⟩:=hI
  refine CW.sub hE ?_
  unfold iR at h
  refine .g (.qn z (.seq ?_))
  refine .cs z h ?_ ?_ <;> intro h
  ·refine .skip (bv h λy5 hy5 h=>?_)
   refine .seq (CW.via (R':=λx E' W'=>x=.normal/\al E' [(2,Pt g1),(3,Pt g2),(4,Pt g3),(5,vi y1),(12,vi s1.1)]/\Sep No w W' [.box g3 185 (bE (λ_=>0)),.box g2 70 [vi a1.Op,vi a1.Dst,vi a1.A,vi a1.B,vi a1.N],.box g1 185 (bE y5)]) ?_ ?_)
   ·have h:=hy5
    refine .block (.g (.q z (.qn z (.g (.q z (.q z (.q z (.q z (bv h λb1 hb1 h=>.cu 6 24 (b1) s ?_ ?_)))))))))
    ·refine .both (s1.1==y1) (λb=>?_) (λb=>?_)
     ·refine .xx b z (.xx b z (.xx b z (.xx b z (.xx b z ?_))))
      cases aC b hb1
      exact .s (pkt b z z z) z (.nil (ck 6 s))
     have hg1:=b
     have h:=aD b hb1
     refine .g hg1 (.q z (bv h λx1 hx1 h=>.g hg1 (.s (ixa hx1 u185 t3 z z z) z (.g hg1 (.s (ldx s.p2 hx1 (λ_=>z) t3 z z z z z) z (.g hg1 (.q z (.g hg1 (.q z (.s (pkf hg1 z z z) z ?_))))))))))
     cases h
     exact .nil (ck 6 s)
    intro W s
    refine .nil ?_
    refine .cs z h ?_ ?_ <;> intro h
    ·refine .region (.q z (.q z (bv h λx2 hx2 h=>.s (ixa hx2 u185 t3 z z z) z (.c (.stx (x1:=s1.1) hx2 s.p2 (λ_=>z) t3 z z z z ?_)))))
     intro W s
     refine .nil ?_
     cases h
     exact ⟨z,sb z,s.tk [1,1,0]⟩
    refine .skip ?_
    cases h
    exact ⟨z,sb z,s.tk [0,0,0]⟩
   intro x E W hJ
   obtain ⟨rfl,hE,s⟩:=hJ
   refine ⟨_,hE.sub,?_⟩
   refine .region (.q z (.q z (.nil ?_)))
   cases h
   exact ⟨z,sb z,s.tk [0,0,0]⟩
  refine .exit ?_
  cases h
  exact ⟨by simp,z,sb z,s.tk [0,0,0]⟩
 intro x E W hJ
 obtain ⟨rfl,hE,s⟩:=hJ
 refine ⟨_,hE.sub,?_⟩
 refine .seq (.g (.s (fa f70_0 z z z) z (.s (ld t3 s.p1 z z z z z) z (.q z (.nil ?_)))))
 refine .cs z h ?_ ?_ <;> intro h
 ·refine .region (.q z (.s (fa f70_2 z z z) z (.s (ld t3 s.p1 z z z z z) z (bv h λx3 hx3 h=>.s (ixa hx3 u185 t3 z z z) z (.c (.stx (x1:=a1.A) hx3 s.p2 (λ_=>z) t3 z z z z ?_))))))
  intro W s
  refine .nil (.g (.s (lda t185 s (cP _) z z) z (.c (.sta t185 s.p1 cP mP z z z ?_))))
  intro W s
  cases h
  exact .nil (.ret (aa () (rc s t185 z rn (cP _) z) z (s.to [])))
 refine .skip (.g (.s (lda t185 s.p2 (cP _) z z) z (.c (.sta t185 s cP mP z z z ?_))))
 intro W s
 obtain rfl:=o9 h
 exact .nil (.ret (aa () (rc s t185 z rn (cP _) z) z (s.to [])))
theorem qz {a0:Ar Int} {a1:Ar Int} {w:World} {r:(Ar Int)} (h:gD a0 a1=some r):CL 218 #[.agg (bE a0).toArray,.agg (bE a1).toArray] w (RU w (.agg (bE r).toArray)):=by
 unfold gD at h
 refine ao func218 z z ?_
 have s:=Sep.start w
 refine .g (.c (.box s z z ?_))
 intro g1 W s
 have s:Sep _ _ _ [.box g1 185 (bE a0)]:=id s
 refine .c (.box s z z ?_)
 intro g2 W s
 have s:Sep _ _ _ [.box g2 185 (bE a1),.box g1 185 (bE a0)]:=id s
 refine .c (.alloc t185 s ?_)
 intro g3 W s
 have s:Sep _ _ _ [.box g3 185 (bE (λ_=>0)),.box g2 185 (bE a1),.box g1 185 (bE a0)]:=id s
 refine .nil (.seq (.g (.qn z (.block (bv h λy1 hy1 h=>?_)))))
 refine .via (.iter (λs1 E' W'=>al E' [(2,Pt g1),(3,Pt g2),(4,Pt g3),(6,vi s1.1)]/\Sep No w W' [.box g3 185 (bE (λ_=>0)),.box g2 185 (bE a1),.box g1 185 (bE s1.2)]) (λy2 x E' W'=>x=.exit 0/\al E' [(2,Pt g1),(4,Pt g3)]/\Sep No w W' [.box g3 185 (bE (λ_=>0)),.box g2 185 (bE a1),.box g1 185 (bE y2)]) hy1 ⟨sb z,s.tk [0,0,0]⟩ ?_) ?_
 ·intro s1 y3 E W h hI
  obtain ⟨hE,s⟩:=hI
  refine CW.sub hE ?_
  unfold kc at h
  refine .g (.qn z (.seq ?_))
  refine .cs z h ?_ ?_ <;> intro h
  ·refine .skip (bv h λy4 hy4 h=>?_)
   refine .seq (CW.via (R':=λx E' W'=>x=.normal/\al E' [(2,Pt g1),(3,Pt g2),(4,Pt g3),(6,vi s1.1)]/\Sep No w W' [.box g3 185 (bE (λ_=>0)),.box g2 185 (bE a1),.box g1 185 (bE y4)]) ?_ ?_)
   ·have h:=hy4
    refine .block (.g (.q z (.qn z (.seq (.rk 7 s [0,0,0] T.mix ?_)))))
    intro W s
    have t:=s.to [0,0,0]
    refine .tp' 0 z z t (bv h λx1 hx1 h=>.ts' 1 z (λW t=>ixa hx1 u185 t3 z z z) t z (.ts' 2 z (λW t=>ldx t.p2 hx1 (λ_=>z) t3 z z z z z) t z (.tp' 3 z z t (bv h λx2 hx2 h=>.ts' 4 z (λW t=>ixa hx2 u185 t3 z z z) t z (.ts' 5 z (λW t=>ldx t.p1 hx2 (λ_=>z) t3 z z z z z) t z (.tp' 6 z z t (.done ?_)))))))
    refine .cs z h ?_ ?_ <;> intro h
    ·refine .region (.q z (.q z (bv h λx3 hx3 h=>.s (ixa hx3 u185 t3 z z z) z (.c (.stx (x1:=s1.1) hx3 s.p2 (λ_=>z) t3 z z z z ?_)))))
     intro W s
     refine .nil ?_
     cases h
     exact ⟨z,sb z,s.tk [1,1,0]⟩
    refine .skip ?_
    cases h
    exact ⟨z,sb z,s.tk [0,0,0]⟩
   intro x E W hJ
   obtain ⟨rfl,hE,s⟩:=hJ
   refine ⟨_,hE.sub,?_⟩
   refine .region (.q z (.q z (.nil ?_)))
   cases h
   exact ⟨z,sb z,s.tk [0,0,0]⟩
  refine .exit ?_
  cases h
  exact ⟨by simp,z,sb z,s.tk [0,0,0]⟩
 intro x E W hJ
 obtain ⟨rfl,hE,s⟩:=hJ
 refine ⟨_,hE.sub,?_⟩
 refine .g (.s (lda t185 s.p2 (cP _) z z) z (.c (.sta t185 s cP mP z z z ?_)))
 intro W s
 obtain rfl:=o9 h
 exact .nil (.ret (aa () (rc s t185 z rn (cP _) z) z (s.to [])))
theorem pS {a0:List ab} {v_0:Hd} {w:World} {r:(List (Ar Int))} (h:dM a0=some r) (q_0:RO w v_0 70 5 ae a0):CL 166 #[sv v_0] w (Ret No w (λs:Hd=>(sv s)) (λs=>[ac (sv s) 185 12 (arD 12 (D.int .i64)) r])):=by
 unfold dM at h
 refine ao func166 z z ?_
 have s:=Sep.start w
 refine .g (.qn z (.g (.q z (.s (aJ (s.keep q_0) u38 z z) z (bv h λr1 hr1 h=>.c (.mkv (λ_=>0) (arD 12 (D.int .i64)) hr1 u183 t185 s z z z z z (λ_=>z) ?_))))))
 intro v1 W s
 refine .qn z (.g (.q z (.s (aJ (s.keep q_0) u38 z z) z (bv h λr2 hr2 h=>.c (.mkv false D.bool hr2 u188 t4 s z z z z z (λ_=>z) ?_)))))
 intro v2 W s
 refine .qn z (.seq (.g (.q z (.s (aJ s.p1.lv u183 z z) z (.qn z (.block (bv h λy1 hy1 h=>?_)))))))
 refine .via (.iter (λs1 E' W'=>al E' [(0,(sv v_0)),(3,(sv v1)),(4,(sv v2)),(19,vi (r1.length:Int)),(20,vi s1.1)]/\Sep No w W' [ac (sv v2) 4 1 D.bool r2,ac (sv v1) 185 12 (arD 12 (D.int .i64)) s1.2]) (λy2 x E' W'=>x=.exit 0/\al E' [(0,(sv v_0)),(3,(sv v1)),(4,(sv v2))]/\Sep No w W' [ac (sv v2) 4 1 D.bool r2,ac (sv v1) 185 12 (arD 12 (D.int .i64)) y2]) hy1 ⟨sb z,s.tk [0,0]⟩ ?_) ?_
 ·intro s1 y3 E W h hI
  obtain ⟨hE,s⟩:=hI
  refine CW.sub hE ?_
  unfold jp at h
  refine .g (.qn z (.seq ?_))
  refine .cs z h ?_ ?_ <;> intro h
  ·refine .skip (.seq (.block (.g (.q z (.qn z (.region (.q z (.q z (bv h λy4 hy4 h=>.c (.cO s func215 (tq hy4) z z ?_))))))))))
   intro W s
   refine bv h λx1 hx1 h=>.s (ixv s.p1.lv hx1 u183 t185 z z z) z (bv h λr3 hr3 h=>.c (.seva hr3 hx1 s.p1 t185 (λ_=>z) cP mP z z z ?_))
   intro W s
   refine .nil (.region (.q z (.q z (.nil ?_))))
   cases h
   exact ⟨z,sb z,s.tk [1,0]⟩
  refine .exit ?_
  cases h
  exact ⟨by simp,z,sb z,s.tk [0,0]⟩
 intro x E W hJ
 obtain ⟨rfl,hE,s⟩:=hJ
 refine ⟨_,hE.sub,?_⟩
 refine .g (.q z (bv h λx2 hx2 h=>.s (ixv s.lv hx2 u188 t4 z z z) z (bv h λr4 hr4 h=>.c (.sev hr4 hx2 s t4 z z z z z z ?_))))
 intro W s
 refine .nil (.seq (.g (.c (.liv [0] (D.int .i64) u23 t3 s z z z z ?_ z (λ_=>z)))))
 intro v3 W s
 refine .qn z (.block (bv h λy5 hy5 h=>?_))
 refine .via (.iter (λs2 E' W'=>∃ (v6:Hd),al E' [(0,(sv v_0)),(3,(sv v1)),(4,(sv v2)),(6,(sv v6))]/\Sep No w W' [ac (sv v2) 4 1 D.bool s2.2.1,ac (sv v1) 185 12 (arD 12 (D.int .i64)) s2.2.2,ac (sv v6) 3 1 (D.int .i64) s2.1]) (λy6 x E' W'=>x=.exit 2/\al E' [(3,(sv v1))]/\Sep No w W' [ac (sv v2) 4 1 D.bool y6.1,ac (sv v1) 185 12 (arD 12 (D.int .i64)) y6.2]) hy5 ⟨v3,sb z,s.tk [1,1,0]⟩ ?_) ?_
 ·intro s2 y7 E W h hI
  obtain ⟨v5,hE,s⟩:=hI
  refine CW.sub hE ?_
  unfold jq at h
  refine .seq (.g (.q z (.s (aJ s.p2.lv u23 z z) z (.q z (.nil ?_)))))
  refine .cs z h ?_ ?_ <;> intro h
  ·refine .skip (.block (.g (.q z (.q z (.s (aJ s.p2.lv u23 z z) z (.q z (bv h λx3 hx3 h=>.s (ixv s.p2.lv hx3 u23 t3 z z z) z (.s (lde (RV.flat s.p2.lv hx3 z) t3 z z z z z) z (.qn z (.g (.q z (.q z (.s (aJ s.p2.lv u23 z z) z (.q z (bv h λr5 hr5 h=>.c (.cuto hr5 s.p2 u23 t3 z z z z ?_))))))))))))))))
   intro v7 s
   refine .qn z (.seq (bv h λx4 hx4 h=>bv h λx5 hx5 h=>bv h λy8 hy8 h=>?_))
   refine .via (R':=λx E' W'=>x=.normal/\∃ (g1:Nat),al E' [(0,(sv v_0)),(3,(sv v1)),(4,(sv v2)),(6,(sv v7)),(7,vi x3),(8,Pt g1)]/\Sep No w W' [ac (sv v7) 3 1 (D.int .i64) r5,ac (sv v2) 4 1 D.bool s2.2.1,ac (sv v1) 185 12 (arD 12 (D.int .i64)) s2.2.2,.box g1 185 (bE y8)]) ?_ ?_
   ·refine .rk 10 s [0,0,0] T.mix ?_
    intro W s
    have t:=s.to [0,0,0]
    refine .tp' 0 z z t (.tp' 1 z z t (.ts' 2 z (λW t=>ixv s.p2.lv hx4 u183 t185 z z z) t z (.ts' 3 z (λW t=>wJ (RV.flat (cs:=bE x4) t.p2.lv hx4 (sU λ_=>z)) t185 (cP _) z z) t z (.tp' 4 z z t (.tp' 5 z z t (.ts' 6 z (λW t=>ixv (s.keep q_0) hx5 u38 t70 z z z) t z (.ts' 7 z (λW t=>lde (RV.flat (t.keep q_0) hx5 z) t70 z z z z z) t z (.by [8,9] ⟨⟨_,z,?_⟩,⟨_,z,?_⟩,trivial⟩))))))))
    ·refine (.cO s func216 (mb hy8) z z ?_)
     intro W s
     refine s.an [0,0,0] λt=>.by1 9 z (.alloc t185 s ?_)
     intro g2 W s
     have s:Sep _ _ _ [.box g2 185 (bE (λ_=>0)),ac (sv v7) 3 1 (D.int .i64) r5,ac (sv v2) 4 1 D.bool s2.2.1,ac (sv v1) 185 12 (arD 12 (D.int .i64)) s2.2.2]:=id s
     refine s.an [1,1,1] λt=>.by1 10 z (.sta t185 s cP mP z z z ?_)
     intro W s
     refine ⟨λh=>absurd z h,?_⟩
     exact .done (⟨z,g2,sb z,s.tk [1,1,1,0]⟩)
    refine (.alloc t185 s ?_)
    intro g3 W s
    have s:Sep _ _ _ [.box g3 185 (bE (λ_=>0)),ac (sv v7) 3 1 (D.int .i64) r5,ac (sv v2) 4 1 D.bool s2.2.1,ac (sv v1) 185 12 (arD 12 (D.int .i64)) s2.2.2]:=id s
    refine s.an [1,1,1] λt=>.by1 8 z (.cO s func216 (mb hy8) z z ?_)
    intro W s
    refine s.an [1,1,1] λt=>.by1 10 z (.sta t185 s cP mP z z z ?_)
    intro W s
    refine ⟨λh=>absurd z h,?_⟩
    exact .done (⟨z,g3,sb z,s.tk [1,1,1,0]⟩)
   intro x E W hJ
   obtain ⟨rfl,g4,hE,s⟩:=hJ
   refine ⟨_,hE.sub,?_⟩
   refine .g (.q z (.q z (bv h λx6 hx6 h=>.s (ixv (s.keep q_0) hx6 u38 t70 z z z) z (.s (lde (RV.flat (s.keep q_0) hx6 z) t70 z z z z z) z (.q z (bv h λy9 hy9 h=>.c (.cV s func217 (l5 hy9) z z ?_)))))))
   intro v8 W s
   refine .s (aJ s.lv u23 z z) z (.qn z (.block (bv h λy10 hy10 h=>?_)))
   refine .via (.iter (λs3 E' W'=>∃ (v11:Hd),al E' [(0,(sv v_0)),(3,(sv v1)),(4,(sv v2)),(6,(sv v11)),(8,Pt g4),(59,(sv v8)),(60,vi (y9.length:Int)),(61,vi s3.2.1)]/\Sep No w W' [ac (sv v8) 3 1 (D.int .i64) y9,ac (sv v2) 4 1 D.bool s3.2.2.1,ac (sv v1) 185 12 (arD 12 (D.int .i64)) s3.2.2.2,.box g4 185 (bE y8),ac (sv v11) 3 1 (D.int .i64) s3.1]) (λy11 x E' W'=>x=.exit 4/\∃ (v12:Hd),al E' [(0,(sv v_0)),(3,(sv v1)),(4,(sv v2)),(6,(sv v12))]/\Sep No w W' [ac (sv v8) 3 1 (D.int .i64) y9,ac (sv v2) 4 1 D.bool y11.2.1,ac (sv v1) 185 12 (arD 12 (D.int .i64)) y11.2.2,.box g4 185 (bE y8),ac (sv v12) 3 1 (D.int .i64) y11.1]) hy10 ⟨v7,sb z,s.tk [0,1,1,1,0]⟩ ?_) ?_
   ·intro s3 y12 E W h hI
    obtain ⟨v10,hE,s⟩:=hI
    refine CW.sub hE ?_
    unfold fP at h
    refine .g (.qn z (.seq ?_))
    refine .cs z h ?_ ?_ <;> intro h
    ·refine .skip (bv h λy13 hy13 h=>?_)
     refine .seq (CW.via (R':=λx E' W'=>x=.normal/\∃ (v13:Hd),al E' [(0,(sv v_0)),(3,(sv v1)),(4,(sv v2)),(6,(sv v13)),(8,Pt g4),(59,(sv v8)),(60,vi (y9.length:Int)),(61,vi s3.2.1)]/\Sep No w W' [ac (sv v8) 3 1 (D.int .i64) y9,ac (sv v2) 4 1 D.bool y13.2.1,ac (sv v1) 185 12 (arD 12 (D.int .i64)) y13.2.2,.box g4 185 (bE y8),ac (sv v13) 3 1 (D.int .i64) y13.1]) ?_ ?_)
     ·have h:=hy13
      refine .block (.g (bv h λx7 hx7 h=>.s (ixv s.lv hx7 u23 t3 z z z) z (.s (lde (RV.flat s.lv hx7 z) t3 z z z z z) z (.qn z (.g (.s (lda t185 s.p3 (cP _) z z) z (.c (.alloc t185 s ?_))))))))
      intro g5 W s
      have s:Sep _ _ _ [.box g5 185 (bE (λ_=>0)),ac (sv v8) 3 1 (D.int .i64) y9,ac (sv v2) 4 1 D.bool s3.2.2.1,ac (sv v1) 185 12 (arD 12 (D.int .i64)) s3.2.2.2,.box g4 185 (bE y8),ac (sv v10) 3 1 (D.int .i64) s3.1]:=id s
      refine .c (.sta t185 s cP mP z z z ?_)
      intro W s
      refine .nil (bv h λy14 hy14 h=>?_)
      refine .seq (CW.via (R':=λx E' W'=>x=.normal/\al E' [(0,(sv v_0)),(3,(sv v1)),(4,(sv v2)),(6,(sv v10)),(8,Pt g4),(10,vi x7),(11,Pt g5),(59,(sv v8)),(60,vi (y9.length:Int)),(61,vi s3.2.1)]/\Sep No w W' [.box g5 185 (bE y14),ac (sv v8) 3 1 (D.int .i64) y9,ac (sv v2) 4 1 D.bool s3.2.2.1,ac (sv v1) 185 12 (arD 12 (D.int .i64)) s3.2.2.2,.box g4 185 (bE y8),ac (sv v10) 3 1 (D.int .i64) s3.1]) ?_ ?_)
      ·have h:=hy14
       refine .g (.q z (.q z (bv h λx8 hx8 h=>.s (ixv s.p2.lv hx8 u188 t4 z z z) z (.s (lde (RV.flat s.p2.lv hx8 z) t4 z z z z z) z (.nil ?_)))))
       refine .cs z h ?_ ?_ <;> intro h
       ·refine .rk 6 s [0,0,0,0,0,0] T.mix ?_
        intro W s
        have t:=s.to [0,0,0,0,0,0]
        refine .tp' 0 z z t (.tp' 1 z z t (bv h λx9 hx9 h=>.ts' 2 z (λW t=>ixv s.p3.lv hx9 u183 t185 z z z) t z (.ts' 3 z (λW t=>wJ (RV.flat (cs:=bE x9) t.p3.lv hx9 (sU λ_=>z)) t185 (cP _) z z) t z (.ts' 4 z (λW t=>lda t185 t.p4 (cP _) z z) t z (bv h λy15 hy15 h=>.by1 5 z (.cO s func218 (qz hy15) z z ?_))))))
        intro W s
        refine s.an [0,0,0,0,0,0] λt=>.by1 6 z (.sta t185 s cP mP z z z ?_)
        intro W s
        refine ⟨λh=>absurd z h,?_⟩
        refine .done ?_
        obtain rfl:=o9 h
        exact ⟨z,sb z,s.tk [0,0,0,0,0,0]⟩
       refine .skip ?_
       obtain rfl:=o9 h
       exact ⟨z,sb z,s.tk [0,0,0,0,0,0]⟩
      intro x E W hJ
      obtain ⟨rfl,hE,s⟩:=hJ
      refine ⟨_,hE.sub,?_⟩
      refine .seq (bv h λx10 hx10 h=>bv h λb1 hb1 h=>?_)
      refine .via (R':=λx E' W'=>x=.normal/\al E' [(0,(sv v_0)),(3,(sv v1)),(4,(sv v2)),(6,(sv v10)),(8,Pt g4),(10,vi x7),(11,Pt g5),(59,(sv v8)),(60,vi (y9.length:Int)),(61,vi s3.2.1),(88,.bool b1)]/\Sep No w W' [.box g5 185 (bE y14),ac (sv v8) 3 1 (D.int .i64) y9,ac (sv v2) 4 1 D.bool s3.2.2.1,ac (sv v1) 185 12 (arD 12 (D.int .i64)) s3.2.2.2,.box g4 185 (bE y8),ac (sv v10) 3 1 (D.int .i64) s3.1]) ?_ ?_
      ·refine .rk 13 s [0,0,0,0,0,0] T.mix ?_
       intro W s
       have t:=s.to [0,0,0,0,0,0]
       refine .tp' 0 z z t (.tp' 1 z z t (.ts' 2 z (λW t=>ixv s.p2.lv hx10 u188 t4 z z z) t z (.ts' 3 z (λW t=>lde (RV.flat t.p2.lv hx10 z) t4 z z z z z) t z (.tp' 4 z z t (.tp' 5 z z t (.both (!x10) (λb=>?_) (λb=>?_)))))))
       ·exact .off 6 z b t (.off 7 z b t (.off 8 z b t (.off 9 z b t (.off 10 z b t (.off 11 z b t (.ts' 12 z (λW t=>pkt b z z z) t z (.eqv 88 z (gu (aC b hb1)) (.done (⟨z,sb z,s.tk [0,0,0,0,0,0]⟩)))) (by kernel_rfl) z z) (by kernel_rfl) z z) (by kernel_rfl) z z) (by kernel_rfl) z z) (by kernel_rfl) z z) (by kernel_rfl) z z
       have hg1:=b
       have h_b1:=aD b hb1
       exact .t1g 6 z hg1 (λW t=>lda t185 t (cP _) z z) t (.t1g 7 z hg1 (λW t=>pr z) t (.t1g 8 z hg1 (λW t=>pr z) t (bv h_b1 λx11 hx11 h_b1=>.t1g 9 z hg1 (λW t=>ixv s.p3.lv hx11 u183 t185 z z z) t (.t1g 10 z hg1 (λW t=>wJ (RV.flat (cs:=bE x11) t.p3.lv hx11 (sU λ_=>z)) t185 (cP _) z z) t (.t1g 11 z hg1 (λW t=>nea (q:=(λ(x y:Int)=>x==y)) T.q185 u185 t3 (λ_=>z) z (eqI u3) z z z) t (.ts' 12 z (λW t=>pkf hg1 z z z) t z (.eqv 88 z (gu h_b1) (.done (⟨z,sb z,s.tk [0,0,0,0,0,0]⟩)))) (by kernel_rfl) z z) (by kernel_rfl) z z) (by kernel_rfl) z z) (by kernel_rfl) z z) (by kernel_rfl) z z) (by kernel_rfl) z z
      intro x E W hJ
      obtain ⟨rfl,hE,s⟩:=hJ
      refine ⟨_,hE.sub,?_⟩
      refine .cs z h ?_ ?_ <;> intro h
      ·refine .g (.q z (.q z (bv h λx12 hx12 h=>.s (ixv s.p2.lv hx12 u188 t4 z z z) z (bv h λr6 hr6 h=>.c (.sev hr6 hx12 s.p2 t4 z z z z z z ?_)))))
       intro W s
       refine .nil (.g (.q z (.q z (.s (lda t185 s.p1 (cP _) z z) z (bv h λx13 hx13 h=>.s (ixv s.p3.lv hx13 u183 t185 z z z) z (bv h λr7 hr7 h=>.c (.seva hr7 hx13 s.p3 t185 (λ_=>z) cP mP z z z ?_)))))))
       intro W s
       refine .nil (.region (.q z (.q z (.c (.liv [x7] (D.int .i64) u23 t3 s z z z z ?_ z (λ_=>z))))))
       intro v14 W s
       refine bv h λr8 hr8 h=>?_
       have hT0:=s.p6
       refine .c (.av hr8 hT0 hT0.p1.lv (λ_=>z) u23 t3 z z z ?_)
       intro v15 W s
       refine .q z (.nil ?_)
       cases h
       exact ⟨z,v15,sb z,s.tk [5,3,2,3,0]⟩
      refine .skip ?_
      cases h
      exact ⟨z,v10,sb z,s.tk [1,1,1,1,1]⟩
     intro x E W hJ
     obtain ⟨rfl,v16,hE,s⟩:=hJ
     refine ⟨_,hE.sub,?_⟩
     refine .region (.q z (.q z (.nil ?_)))
     cases h
     exact ⟨z,v16,sb z,s.tk [0,0,0,0,0]⟩
    refine .exit ?_
    cases h
    exact ⟨by simp,z,v10,sb z,s.tk [0,0,0,0,0]⟩
   intro x E W hJ
   obtain ⟨rfl,v17,hE,s⟩:=hJ
   refine ⟨_,hE.sub,?_⟩
   cases h
   exact ⟨z,v17,sb z,s.tk [1,1,2]⟩
  refine .exit ?_
  cases h
  exact ⟨by simp,z,sb z,s.tk [0,0]⟩
 intro x E W hJ
 obtain ⟨rfl,hE,s⟩:=hJ
 refine ⟨_,hE.sub,?_⟩
 cases h
 exact .g (.q z (.qn z (.ret (aa v1 (rt z rn) z (s.tk [1])))))
theorem pT {a0:ab} {w:World} {r:Int} (h:jr a0=some r):CL 167 #[.agg #[vi a0.Op,vi a0.Dst,vi a0.A,vi a0.B,vi a0.N]] w (RU w (.int .u16 r)):=by
 unfold jr at h
 refine ao func167 z z ?_
 have s:=Sep.start w
 refine .g (.c (.box s z z ?_))
 intro g1 W s
 refine .qn z (.seq (.g (.s (fa f70_0 z z z) z (.s (ld t3 s z z z z z) z (.nil (.block (bv h λy1 hy1 h=>?_)))))))
 refine .seq (CW.via (R':=λx E' W'=>x=.normal/\al E' [(1,Pt g1),(4,vi a0.Op),(5,.bool y1)]/\Sep No w W' [.box g1 70 [vi a0.Op,vi a0.Dst,vi a0.A,vi a0.B,vi a0.N]]) ?_ ?_)
 ·have h:=hy1
  refine .g (.q z (.q z (.nil ?_)))
  refine .cs z h ?_ ?_ <;> intro h
  ·refine .skip ?_
   cases h
   exact ⟨z,sb z,s.tk [0]⟩
  refine .g (.q z (.q z (.nil ?_)))
  refine .cs z h ?_ ?_ <;> intro h
  ·refine .skip ?_
   cases h
   exact ⟨z,sb z,s.tk [0]⟩
  refine .g (.q z (.q z (.nil ?_)))
  refine .cs z h ?_ ?_ <;> intro h
  ·refine .skip ?_
   cases h
   exact ⟨z,sb z,s.tk [0]⟩
  refine .region (.q z (.q z (.nil ?_)))
  cases h
  exact ⟨z,sb z,s.tk [0]⟩
 intro x E W hJ
 obtain ⟨rfl,hE,s⟩:=hJ
 refine ⟨_,hE.sub,?_⟩
 refine .cs z h ?_ ?_ <;> intro h
 ·refine .g (.s (fa f70_2 z z z) z (.s (ld t3 s z z z z z) z (bv h λd1 hd1 h=>.s (fr hd1 z z z) z (.qn z (.ret ?_)))))
  obtain rfl:=o9 h
  exact aa () (rt z rn) z (s.to [])
 refine .g (.q z (.q z (.nil ?_)))
 refine .cs z h ?_ ?_ <;> intro h
 ·refine .seq (.rk 8 s [0] T.mix ?_)
  intro W s
  have t:=s.to [0]
  refine .ts' 0 z (λW t=>fa f70_2 z z z) t z (.ts' 1 z (λW t=>ld t3 t z z z z z) t z (bv h λd2 hd2 h=>.ts' 2 z (λW t=>fr hd2 z z z) t z (.ts' 3 z (λW t=>fa f70_3 z z z) t z (.ts' 4 z (λW t=>ld t3 t z z z z z) t z (bv h λd3 hd3 h=>.ts' 5 z (λW t=>fr hd3 z z z) t z (.tp' 6 z z t (.tp' 7 z z t (.done (.ret ?_)))))))))
  cases h
  exact aa () (rt z rn) z (s.to [])
 cases h
 exact .skip (.g (.qn z (.ret (aa () (rt z rn) z (s.to [])))))
theorem tr {a0:List ab} {v_0:Hd} {w:World} {r:(List ab)×Bool} (h:ku a0=some r) (q_0:RO w v_0 70 5 ae a0):CL 122 #[sv v_0] w (Ret No w (λs:Hd=>.tuple #[sv s,.bool r.2]) (λs=>[ac (sv s) 70 5 ae r.1])):=by
 unfold ku at h
 refine ao func122 z z ?_
 have s:=Sep.start w
 refine .g (.q z (.qn z (.seq (.g (.q z (bv h λy1 hy1 h=>.c (.cO s func67 (bZ hy1 (s.keep q_0)) z z ?_)))))))
 intro W s
 refine .q z (.nil ?_)
 refine .cs z h ?_ ?_ <;> intro h
 ·refine .g (.q z (.qn z (.ret ?_)))
  have s:=s.nilv 70 5 ae
  cases h
  exact aa (vs:=[_,_]) aF (rt z (rt z rn)) z (s.tk [0])
 refine .skip (.g (.q z (bv h λy2 hy2 h=>.c (.cV s func69 (a7 hy2 (s.keep q_0)) z z ?_))))
 intro v1 W s
 refine .qn z (.seq (.g (.q z (bv h λy3 hy3 h=>.c (.cV s func166 (pS hy3 (s.keep q_0)) z z ?_)))))
 intro v2 W s
 refine .s (aJ s.lv u183 z z) z (.qn z (.block (bv h λy4 hy4 h=>?_)))
 refine .via (.iter (λs1 E' W'=>al E' [(0,(sv v_0)),(4,(sv v1)),(14,(sv v2)),(15,vi (y3.length:Int)),(16,vi s1.1)]/\Sep No w W' [ac (sv v2) 185 12 (arD 12 (D.int .i64)) y3,ac (sv v1) 70 5 ae s1.2]) (λy5 x E' W'=>x=.exit 0/\al E' [(4,(sv v1))]/\Sep No w W' [ac (sv v2) 185 12 (arD 12 (D.int .i64)) y3,ac (sv v1) 70 5 ae y5]) hy4 ⟨sb z,s.tk [0,0]⟩ ?_) ?_
 ·intro s1 y6 E W h hI
  obtain ⟨hE,s⟩:=hI
  refine CW.sub hE ?_
  unfold gF at h
  refine .g (.qn z (.seq ?_))
  refine .cs z h ?_ ?_ <;> intro h
  ·refine .skip (bv h λy7 hy7 h=>?_)
   refine .seq (CW.via (R':=λx E' W'=>x=.normal/\al E' [(0,(sv v_0)),(4,(sv v1)),(14,(sv v2)),(15,vi (y3.length:Int)),(16,vi s1.1)]/\Sep No w W' [ac (sv v2) 185 12 (arD 12 (D.int .i64)) y3,ac (sv v1) 70 5 ae y7]) ?_ ?_)
   ·have h:=hy7
    refine .block (.g (.q z (bv h λx1 hx1 h=>.s (ixv s.lv hx1 u183 t185 z z z) z (.s (wJ (RV.flat (cs:=bE x1) s.lv hx1 (sU λ_=>z)) t185 (cP _) z z) z (.c (.alloc t185 s ?_))))))
    intro g1 W s
    have s:Sep _ _ _ [.box g1 185 (bE (λ_=>0)),ac (sv v2) 185 12 (arD 12 (D.int .i64)) y3,ac (sv v1) 70 5 ae s1.2]:=id s
    refine .q z (.c (.sta t185 s cP mP z z z ?_))
    intro W s
    refine .nil (.g (.q z (.q z (bv h λx2 hx2 h=>.s (ixv (s.keep q_0) hx2 u38 t70 z z z) z (.s (lde (RV.flat (s.keep q_0) hx2 z) t70 z z z z z) z (bv h λy8 hy8 h=>.c (.cO s func167 (pT hy8) z z ?_)))))))
    intro W s
    refine .qn z (bv h λy9 hy9 h=>?_)
    refine .seq (CW.via (R':=λx E' W'=>x=.normal/\al E' [(0,(sv v_0)),(4,(sv v1)),(5,vi s1.1),(6,Pt g1),(14,(sv v2)),(15,vi (y3.length:Int)),(16,vi s1.1)]/\Sep No w W' [.box g1 185 (bE x1),ac (sv v2) 185 12 (arD 12 (D.int .i64)) y3,ac (sv v1) 70 5 ae y9]) ?_ ?_)
    ·have h:=hy9
     refine .g (.q z (.q z (.nil ?_)))
     refine .cs z h ?_ ?_ <;> intro h
     ·refine .region (.q z (.q z (.q z (.q z (bv h λx3 hx3 h=>.s (ixv (s.keep q_0) hx3 u38 t70 z z z) z (.s (fe f70_2 z z z) z (.s (lde (RV.flat (s.keep q_0) hx3 z) t3 z z z z z) z (bv h λx4 hx4 h=>.s (ixa hx4 u185 t3 z z z) z (.s (ldx s hx4 (λ_=>z) t3 z z z z z) z (bv h λx5 hx5 h=>.s (ixv s.p2.lv hx5 u38 t70 z z z) z (.s (fe f70_2 z z z) z (bv h λr1 hr1 h=>.c (.sev hr1 hx5 s.p2 t3 z z z z z z ?_)))))))))))))
      intro W s
      refine .nil ?_
      obtain rfl:=o9 h
      exact ⟨z,sb z,s.tk [1,1,0]⟩
     refine .skip ?_
     cases h
     exact ⟨z,sb z,s.tk [0,0,0]⟩
    intro x E W hJ
    obtain ⟨rfl,hE,s⟩:=hJ
    refine ⟨_,hE.sub,?_⟩
    refine .g (.q z (.q z (bv h λx6 hx6 h=>.s (ixv (s.keep q_0) hx6 u38 t70 z z z) z (.s (fe f70_0 z z z) z (.s (lde (RV.flat (s.keep q_0) hx6 z) t3 z z z z z) z (.q z (.nil ?_)))))))
    refine .cs z h ?_ ?_ <;> intro h
    ·refine .region (.q z (.q z (.q z (.q z (bv h λx7 hx7 h=>.s (ixv (s.keep q_0) hx7 u38 t70 z z z) z (.s (fe f70_3 z z z) z (.s (lde (RV.flat (s.keep q_0) hx7 z) t3 z z z z z) z (bv h λx8 hx8 h=>.s (ixa hx8 u185 t3 z z z) z (.s (ldx s hx8 (λ_=>z) t3 z z z z z) z (bv h λx9 hx9 h=>.s (ixv s.p2.lv hx9 u38 t70 z z z) z (.s (fe f70_3 z z z) z (bv h λr2 hr2 h=>.c (.sev hr2 hx9 s.p2 t3 z z z z z z ?_)))))))))))))
     intro W s
     refine .nil ?_
     obtain rfl:=o9 h
     exact ⟨z,sb z,s.tk [2,0]⟩
    refine .skip ?_
    obtain rfl:=o9 h
    exact ⟨z,sb z,s.tk [1,1]⟩
   intro x E W hJ
   obtain ⟨rfl,hE,s⟩:=hJ
   refine ⟨_,hE.sub,?_⟩
   refine .region (.q z (.q z (.nil ?_)))
   cases h
   exact ⟨z,sb z,s.tk [0,0]⟩
  refine .exit ?_
  cases h
  exact ⟨by simp,z,sb z,s.tk [0,0]⟩
 intro x E W hJ
 obtain ⟨rfl,hE,s⟩:=hJ
 refine ⟨_,hE.sub,?_⟩
 cases h
 exact .g (.q z (.q z (.qn z (.ret (aa (vs:=[_,_]) v1 (rt z (rt z rn)) z (s.tk [1]))))))
theorem ja {a0:ab} {w:World} {r:Bool} (h:cr a0=some r):CL 38 #[.agg #[vi a0.Op,vi a0.Dst,vi a0.A,vi a0.B,vi a0.N]] w (RU w (.bool r)):=by
 unfold cr at h
 refine ao func38 z z ?_
 have s:=Sep.start w
 refine .g (.c (.box s z z ?_))
 intro g1 W s
 refine .qn z (.g (.s (fa f70_0 z z z) z (.s (ld t3 s z z z z z) z (.q z (.q z (.cu 4 10 ((a0.Op==4)||(a0.Op==5)) s ?_ ?_))))))
 ·refine .both (a0.Op==4) (λb=>?_) (λb=>?_)
  ·exact .xx b z (.xx b z (.xx b z (.s (pkt b z z z) z (.nil (ck 4 s z (gY b))))))
  have hg1:=b
  exact .g hg1 (.s (fa f70_0 z z z) z (.g hg1 (.s (ld t3 s z z z z z) z (.g hg1 (.q z (.s (pkf hg1 z z z) z (.nil (ck 4 s z (gr hg1)))))))))
 intro W s
 cases h
 exact .qn z (.ret (aa () (rt z rn) z (s.to [])))
def so (w:World) (r:Int):Env->World->Prop:=Fin Tryz.prog Tryz.f168 No w (λs:Unit=>.int .i64 r) (λs=>[]) .ret
theorem rE {a0:List ab} {a1:Int} {v_0:Hd} {w:World} {r:Int} (h:kH a0 a1=some r) (q_0:RO w v_0 70 5 ae a0):CL 168 #[sv v_0,vi a1] w (RU w (.int .i64 r)):=by
 unfold kH at h
 refine ao func168 z z ?_
 have s:=Sep.start w
 refine .g (.qn z (.g (.q z (.qn z (.seq (.g (.q z (.s (aJ (s.keep q_0) u38 z z) z (.qn z (.block (bv h λy1 hy1 h=>?_)))))))))))
 refine .via (.iter (λs1 E' W'=>al E' [(0,(sv v_0)),(1,vi a1),(5,vi s1.1),(8,vi (a0.length:Int)),(9,vi s1.2)]/\Sep No w W' []) (λy2 x E' W'=>(match y2 with | .inl o1=>x=.ret/\so w o1 E' W' | .inr o2=>x=.exit 0/\al E' [(1,vi a1)]/\Sep No w W' [])) hy1 ⟨sb rfl,s.to [] rfl⟩ ?_) ?_
 ·intro s1 y3 E W h hI
  obtain ⟨hE,s⟩:=hI
  refine CW.sub hE ?_
  unfold nr at h
  refine .g (.qn z (.seq ?_))
  refine .cs z h ?_ ?_ <;> intro h
  ·refine .skip (.seq (.block (.seq (.g (.q z (.q z (bv h λx1 hx1 h=>.s (ixv (s.keep q_0) hx1 u38 t70 z z z) z (.s (fe f70_0 z z z) z (.s (lde (RV.flat (s.keep q_0) hx1 z) t3 z z z z z) z (.q z (.nil ?_)))))))))))
   refine .cs z h ?_ ?_ <;> intro h
   ·refine .g (.q z (.qn z (.ret ?_)))
    cases h
    exact ⟨by simp,z,aa (vs:=[_]) () (rt z rn) z (s.to [])⟩
   refine .skip (.region (.q z (.q z (bv h λx2 hx2 h=>.s (ixv (s.keep q_0) hx2 u38 t70 z z z) z (.s (fe f70_4 z z z) z (.s (lde (RV.flat (s.keep q_0) hx2 z) t3 z z z z z) z (.qn z (.region (.q z (.q z (.nil ?_)))))))))))
   cases h
   exact ⟨z,sb z,s.to []⟩
  refine .exit ?_
  cases h
  exact ⟨by simp,z,sb z,s.to []⟩
 intro x E W hJ
 rcases y1 with o3 | o4
 ·have h:=dG h
  obtain ⟨rfl,hF⟩:=hJ
  refine ⟨_,λ_ _ h=>h,?_⟩
  cases h
  exact hF
 have h:=dH h
 obtain ⟨rfl,hE,s⟩:=hJ
 refine ⟨_,hE.sub,?_⟩
 obtain rfl:=o9 h
 exact .g (.q z (.qn z (.ret (aa () (rt z rn) z (s.to [])))))
theorem tt {a0:List ab} {v_0:Hd} {w:World} {r:(List ab)×Bool} (h:kw a0=some r) (q_0:RO w v_0 70 5 ae a0):CL 123 #[sv v_0] w (Ret No w (λs:Hd=>.tuple #[sv s,.bool r.2]) (λs=>[ac (sv s) 70 5 ae r.1])):=by
 unfold kw at h
 refine ao func123 z z ?_
 have s:=Sep.start w
 refine .g (.q z (.qn z (.seq (.g (.q z (bv h λy1 hy1 h=>.c (.cO s func67 (bZ hy1 (s.keep q_0)) z z ?_)))))))
 intro W s
 refine .q z (.nil ?_)
 refine .cs z h ?_ ?_ <;> intro h
 ·refine .g (.q z (.qn z (.ret ?_)))
  have s:=s.nilv 70 5 ae
  cases h
  exact aa (vs:=[_,_]) aF (rt z (rt z rn)) z (s.tk [0])
 refine .skip (.g (.q z (bv h λy2 hy2 h=>.c (.cV s func69 (a7 hy2 (s.keep q_0)) z z ?_))))
 intro v1 W s
 refine .qn z (.seq (.g (.q z (.s (aJ (s.keep q_0) u38 z z) z (.qn z (.block (bv h λy3 hy3 h=>?_)))))))
 refine .via (.iter (λs1 E' W'=>al E' [(0,(sv v_0)),(4,(sv v1)),(12,(sv v_0)),(13,vi (a0.length:Int)),(14,vi s1.1)]/\Sep No w W' [ac (sv v1) 70 5 ae s1.2]) (λy4 x E' W'=>x=.exit 0/\al E' [(4,(sv v1))]/\Sep No w W' [ac (sv v1) 70 5 ae y4]) hy3 ⟨sb z,s.tk [0]⟩ ?_) ?_
 ·intro s1 y5 E W h hI
  obtain ⟨hE,s⟩:=hI
  refine CW.sub hE ?_
  unfold gG at h
  refine .g (.qn z (.seq ?_))
  refine .cs z h ?_ ?_ <;> intro h
  ·refine .skip (bv h λy6 hy6 h=>?_)
   refine .seq (CW.via (R':=λx E' W'=>x=.normal/\al E' [(0,(sv v_0)),(4,(sv v1)),(12,(sv v_0)),(13,vi (a0.length:Int)),(14,vi s1.1)]/\Sep No w W' [ac (sv v1) 70 5 ae y6]) ?_ ?_)
   ·have h:=hy6
    refine .block (.g (.q z (bv h λx1 hx1 h=>.s (ixv (s.keep q_0) hx1 u38 t70 z z z) z (.s (lde (RV.flat (s.keep q_0) hx1 z) t70 z z z z z) z (.c (.alloc t70 s ?_))))))
    intro g1 W s
    refine .q z (.c (.st t70 s z z z ?_))
    intro W s
    refine .nil (.g (.s (ld t70 s z z z z z) z (bv h λy7 hy7 h=>.c (.cO s func38 (ja hy7) z z ?_))))
    intro W s
    refine .nil ?_
    refine .cs z h ?_ ?_ <;> intro h
    ·refine .region (.q z (.q z (.q z (.s (fa f70_4 z z z) z (.s (ld t3 s z z z z z) z (bv h λy8 hy8 h=>.c (.cO s func168 (rE hy8 (s.keep q_0)) z z ?_)))))))
     intro W s
     refine bv h λx2 hx2 h=>.s (ixv s.p1.lv hx2 u38 t70 z z z) z (.s (fe f70_4 z z z) z (bv h λr1 hr1 h=>.c (.sev hr1 hx2 s.p1 t3 z z z z z z ?_)))
     intro W s
     refine .nil ?_
     obtain rfl:=o9 h
     exact ⟨z,sb z,s.tk [0]⟩
    refine .skip ?_
    cases h
    exact ⟨z,sb z,s.tk [1]⟩
   intro x E W hJ
   obtain ⟨rfl,hE,s⟩:=hJ
   refine ⟨_,hE.sub,?_⟩
   refine .region (.q z (.q z (.nil ?_)))
   cases h
   exact ⟨z,sb z,s.tk [0]⟩
  refine .exit ?_
  cases h
  exact ⟨by simp,z,sb z,s.tk [0]⟩
 intro x E W hJ
 obtain ⟨rfl,hE,s⟩:=hJ
 refine ⟨_,hE.sub,?_⟩
 cases h
 exact .g (.q z (.q z (.qn z (.ret (aa (vs:=[_,_]) v1 (rt z (rt z rn)) z (s.tk [0]))))))
theorem iu {a0:Int} {a1:Int} {w:World} {r:Bool} (h:db a0 a1=some r):CL 128 #[.int .u16 a0,vi a1] w (RU w (.bool r)):=by
 unfold db at h
 refine ao func128 z z ?_
 have s:=Sep.start w
 refine .g (.qn z (.g (.q z (.q z (bv h λd1 hd1 h=>.s (fr hd1 z z z) z (.q z (.q z (.qn z (.ret ?_)))))))))
 cases h
 exact aa () (rt z rn) z (s.to [])
theorem lh {a0:List ab} {a1:List Int} {a2:Int} {v_0:Hd} {v_1:Hd} {w:World} {r:Int} (h:dS a0 a1 a2=some r) (q_0:RO w v_0 70 5 ae a0) (q_1:RO w v_1 145 1 (D.int .u16) a1):CL 177 #[sv v_0,sv v_1,vi a2] w (RU w (.int .u16 r)):=by
 unfold dS at h
 refine ao func177 z z ?_
 have s:=Sep.start w
 refine .g (.qn z (.g (.qn z (.seq (.g (.q z (.q z (bv h λx1 hx1 h=>.s (ixv (s.keep q_0) hx1 u38 t70 z z z) z (.s (lde (RV.flat (s.keep q_0) hx1 z) t70 z z z z z) z (.q z (bv h λy1 hy1 h=>.c (.cV s func217 (l5 hy1) z z ?_))))))))))))
 intro v1 W s
 refine .s (aJ s.lv u23 z z) z (.qn z (.block (bv h λy2 hy2 h=>?_)))
 refine .via (.iter (λs1 E' W'=>al E' [(1,(sv v_1)),(7,.int .u16 s1.1),(15,(sv v1)),(16,vi (y1.length:Int)),(17,vi s1.2)]/\Sep No w W' [ac (sv v1) 3 1 (D.int .i64) y1]) (λy3 x E' W'=>x=.exit 0/\al E' [(7,.int .u16 y3)]/\Sep No w W' [ac (sv v1) 3 1 (D.int .i64) y1]) hy2 ⟨sb z,s.tk [0]⟩ ?_) ?_
 ·intro s1 y4 E W h hI
  obtain ⟨hE,s⟩:=hI
  refine CW.sub hE ?_
  unfold kZ at h
  refine .g (.qn z (.seq ?_))
  refine .cs z h ?_ ?_ <;> intro h
  ·refine .skip (.seq (.block (.g (bv h λx2 hx2 h=>.s (ixv s.lv hx2 u23 t3 z z z) z (.s (lde (RV.flat s.lv hx2 z) t3 z z z z z) z (.qn z (.region (.q z (.q z (.q z (bv h λx3 hx3 h=>.s (ixv (s.keep q_1) hx3 u190 t145 z z z) z (.s (lde (RV.flat (s.keep q_1) hx3 z) t145 z z z z z) z (.q z (.qn z (.region (.q z (.q z (.nil ?_))))))))))))))))))
   cases h
   exact ⟨z,sb z,s.tk [0]⟩
  refine .exit ?_
  cases h
  exact ⟨by simp,z,sb z,s.tk [0]⟩
 intro x E W hJ
 obtain ⟨rfl,hE,s⟩:=hJ
 refine ⟨_,hE.sub,?_⟩
 obtain rfl:=o9 h
 exact .g (.q z (.qn z (.ret (aa () (rt z rn) z (s.to [])))))
theorem nD {a0:List ab} {v_0:Hd} {w:World} {r:(List Int)} (h:dT a0=some r) (q_0:RO w v_0 70 5 ae a0):CL 175 #[sv v_0] w (Ret No w (λs:Hd=>(sv s)) (λs=>[ac (sv s) 145 1 (D.int .u16) r])):=by
 unfold dT at h
 refine ao func175 z z ?_
 have s:=Sep.start w
 refine .g (.qn z (.g (.q z (.s (aJ (s.keep q_0) u38 z z) z (bv h λr1 hr1 h=>.c (.mkv 0 (D.int .u16) hr1 u190 t145 s z z z z z (λ_=>z) ?_))))))
 intro v1 W s
 refine .qn z (.seq (.g (.qn z (.block (bv h λy1 hy1 h=>?_)))))
 refine .via (.iter (λs1 E' W'=>al E' [(0,(sv v_0)),(3,(sv v1)),(4,.bool s1.1)]/\Sep No w W' [ac (sv v1) 145 1 (D.int .u16) s1.2]) (λy2 x E' W'=>x=.exit 0/\al E' [(3,(sv v1))]/\Sep No w W' [ac (sv v1) 145 1 (D.int .u16) y2]) hy1 ⟨sb z,s.tk [0]⟩ ?_) ?_
 ·intro s1 y3 E W h hI
  obtain ⟨hE,s⟩:=hI
  refine CW.sub hE ?_
  unfold bN at h
  refine .seq (.g (.q z (.nil ?_)))
  refine .cs z h ?_ ?_ <;> intro h
  ·refine .skip (.block (.g (.qn z (.g (.q z (.s (aJ (s.keep q_0) u38 z z) z (.q z (.qn z (.block (bv h λy4 hy4 h=>?_))))))))))
   refine .via (.iter (λs2 E' W'=>al E' [(0,(sv v_0)),(3,(sv v1)),(4,.bool s2.1),(5,vi s2.2.1)]/\Sep No w W' [ac (sv v1) 145 1 (D.int .u16) s2.2.2]) (λy5 x E' W'=>x=.exit 2/\al E' [(0,(sv v_0)),(3,(sv v1)),(4,.bool y5.1)]/\Sep No w W' [ac (sv v1) 145 1 (D.int .u16) y5.2]) hy4 ⟨sb z,s.tk [0]⟩ ?_) ?_
   ·intro s2 y6 E W h hI
    obtain ⟨hE,s⟩:=hI
    refine CW.sub hE ?_
    unfold dj at h
    refine .seq (.g (.q z (.q z (.nil ?_))))
    refine .cs z h ?_ ?_ <;> intro h
    ·refine .skip (bv h λy7 hy7 h=>?_)
     refine .seq (CW.via (R':=λx E' W'=>x=.normal/\al E' [(0,(sv v_0)),(3,(sv v1)),(4,.bool y7.1),(5,vi s2.2.1)]/\Sep No w W' [ac (sv v1) 145 1 (D.int .u16) y7.2]) ?_ ?_)
     ·have h:=hy7
      refine .block (.g (.q z (.q z (.q z (bv h λy8 hy8 h=>.c (.cO s func177 (lh hy8 (s.keep q_0) s.lv) z z ?_))))))
      intro W s
      refine .qn z (bv h λy9 hy9 h=>?_)
      refine .seq (CW.via (R':=λx E' W'=>x=.normal/\al E' [(0,(sv v_0)),(3,(sv v1)),(4,.bool s2.1),(5,vi s2.2.1),(6,.int .u16 y9)]/\Sep No w W' [ac (sv v1) 145 1 (D.int .u16) s2.2.2]) ?_ ?_)
      ·have h:=hy9
       refine .g (.q z (.q z (bv h λx1 hx1 h=>.s (ixv (s.keep q_0) hx1 u38 t70 z z z) z (.s (lde (RV.flat (s.keep q_0) hx1 z) t70 z z z z z) z (bv h λy10 hy10 h=>.c (.cO s func176 (jE hy10) z z ?_))))))
       intro W s
       refine .qn z (.g (.q z (.q z (.nil ?_))))
       refine .cs z h ?_ ?_ <;> intro h
       ·refine .region (.q z (.q z (bv h λd1 hd1 h=>.s (fr hd1 z z z) z (.q z (.q z (.nil ?_))))))
        cases h
        exact ⟨z,sb z,s.tk [0]⟩
       refine .skip ?_
       obtain rfl:=o9 h
       exact ⟨z,sb z,s.tk [0]⟩
      intro x E W hJ
      obtain ⟨rfl,hE,s⟩:=hJ
      refine ⟨_,hE.sub,?_⟩
      refine .g (.q z (.q z (.q z (bv h λx2 hx2 h=>.s (ixv (s.keep q_0) hx2 u38 t70 z z z) z (.s (lde (RV.flat (s.keep q_0) hx2 z) t70 z z z z z) z (bv h λy11 hy11 h=>.c (.cO s func167 (pT hy11) z z ?_)))))))
      intro W s
      refine .q z (.qn z (.g (.q z (.q z (.q z (bv h λx3 hx3 h=>.s (ixv s.lv hx3 u190 t145 z z z) z (.s (lde (RV.flat s.lv hx3 z) t145 z z z z z) z (.q z (.nil ?_)))))))))
      refine .cs z h ?_ ?_ <;> intro h
      ·refine .g (.q z (.q z (.q z (bv h λx4 hx4 h=>.s (ixv s.lv hx4 u190 t145 z z z) z (bv h λr2 hr2 h=>.c (.sev hr2 hx4 s t145 z z z z z z ?_))))))
       intro W s
       refine .nil (.region (.q z (.nil ?_)))
       cases h
       exact ⟨z,sb z,s.tk [0]⟩
      refine .skip ?_
      cases h
      exact ⟨z,sb z,s.tk [0]⟩
     intro x E W hJ
     obtain ⟨rfl,hE,s⟩:=hJ
     refine ⟨_,hE.sub,?_⟩
     refine .region (.q z (.q z (.q z (.nil ?_))))
     cases h
     exact ⟨z,sb z,s.tk [0]⟩
    refine .exit ?_
    cases h
    exact ⟨by simp,z,sb z,s.tk [0]⟩
   intro x E W hJ
   obtain ⟨rfl,hE,s⟩:=hJ
   refine ⟨_,hE.sub,?_⟩
   cases h
   exact ⟨z,sb z,s.tk [0]⟩
  refine .exit ?_
  cases h
  exact ⟨by simp,z,sb z,s.tk [0]⟩
 intro x E W hJ
 obtain ⟨rfl,hE,s⟩:=hJ
 refine ⟨_,hE.sub,?_⟩
 obtain rfl:=o9 h
 exact .g (.q z (.qn z (.ret (aa v1 (rt z rn) z (s.tk [0])))))
theorem sq {a0:List ab} {v_0:Hd} {w:World} {r:(List Int)} (h:lL a0=some r) (q_0:RO w v_0 70 5 ae a0):CL 169 #[sv v_0] w (Ret No w (λs:Hd=>(sv s)) (λs=>[ac (sv s) 3 1 (D.int .i64) r])):=by
 unfold lL at h
 refine ao func169 z z ?_
 have s:=Sep.start w
 refine .g (.qn z (.g (.qn z (.g (.q z (bv h λy1 hy1 h=>.c (.cV s func175 (nD hy1 (s.keep q_0)) z z ?_)))))))
 intro v1 W s
 refine .qn z (.seq (.g (.q z (.s (aJ (s.keep q_0) u38 z z) z (.qn z (.block ?_))))))
 have s:=s.nilv 3 1 (D.int .i64)
 refine bv h λy2 hy2 h=>?_
 refine .via (.iter (λs1 E' W'=>∃ (v4:Hd),al E' [(0,(sv v_0)),(3,(sv v4)),(4,(sv v1)),(10,(sv v_0)),(11,vi (a0.length:Int)),(12,vi s1.2)]/\Sep No w W' [ac (sv v1) 145 1 (D.int .u16) y1,ac (sv v4) 3 1 (D.int .i64) s1.1]) (λy3 x E' W'=>x=.exit 0/\∃ (v5:Hd),al E' [(3,(sv v5))]/\Sep No w W' [ac (sv v1) 145 1 (D.int .u16) y1,ac (sv v5) 3 1 (D.int .i64) y3]) hy2 ⟨aF,sb z,s.tk [1,0]⟩ ?_) ?_
 ·intro s1 y4 E W h hI
  obtain ⟨v3,hE,s⟩:=hI
  refine CW.sub hE ?_
  unfold iV at h
  refine .g (.qn z (.seq ?_))
  refine .cs z h ?_ ?_ <;> intro h
  ·refine .skip (bv h λy5 hy5 h=>?_)
   refine .seq (CW.via (R':=λx E' W'=>x=.normal/\∃ (v6:Hd),al E' [(0,(sv v_0)),(3,(sv v6)),(4,(sv v1)),(10,(sv v_0)),(11,vi (a0.length:Int)),(12,vi s1.2)]/\Sep No w W' [ac (sv v1) 145 1 (D.int .u16) y1,ac (sv v6) 3 1 (D.int .i64) y5]) ?_ ?_)
   ·have h:=hy5
    refine .block (.g (.q z (bv h λx1 hx1 h=>.s (ixv (s.keep q_0) hx1 u38 t70 z z z) z (.s (lde (RV.flat (s.keep q_0) hx1 z) t70 z z z z z) z (.c (.alloc t70 s ?_))))))
    intro g1 W s
    refine .q z (.c (.st t70 s z z z ?_))
    intro W s
    refine .nil (.g (.s (ld t70 s z z z z z) z (bv h λy6 hy6 h=>.c (.cO s func176 (jE hy6) z z ?_))))
    intro W s
    refine .qn z (.g (.q z (.q z (.q z (.cu 4 25 ((decide (y6>=0))&&(x1.Op !=7)) s ?_ ?_)))))
    ·refine .both (decide (y6>=0)) (λb=>?_) (λb=>?_)
     ·have hg1:=b
      exact .g hg1 (.s (fa f70_0 z z z) z (.g hg1 (.s (ld t3 s z z z z z) z (.g hg1 (.q z (.s (pkt hg1 z z z) z (.nil (ck 4 s z (bp hg1)))))))))
     exact .xx b z (.xx b z (.xx b z (.s (pkf b z z z) z (.nil (ck 4 s z (bq b))))))
    intro W s
    refine .q z (bv h λb1 hb1 h=>.cu 8 34 (b1) s ?_ ?_)
    ·refine .both ((decide (y6>=0))&&(x1.Op !=7)) (λb=>?_) (λb=>?_)
     ·have hg2:=b
      have h:=aC b hb1
      refine .g hg2 (.q z (.g hg2 (.q z (.g hg2 (.q z (bv h λy7 hy7 h=>.g hg2 (.c (.cO s func177 (lh hy7 (s.keep q_0) s.p1.lv) z z ?_))))))))
      intro W s
      refine .g hg2 (.q z (bv h λy8 hy8 h=>.g hg2 (.c (.cO s func128 (iu hy8) z z ?_))))
      intro W s
      refine .g hg2 (.q z (.s (pkt hg2 z z z) z ?_))
      cases h
      exact .nil (ck 8 s)
     refine .xx b z (.xx b z (.xx b z (.xx b z (.xx b z (.xx b z (.xx b z ?_))))))
     cases aD b hb1
     exact .s (pkf b z z z) z (.nil (ck 8 s))
    intro W s
    refine .nil ?_
    refine .cs z h ?_ ?_ <;> intro h
    ·refine .region (.q z (.q z (.c (.liv [s1.2] (D.int .i64) u23 t3 s z z z z ?_ z (λ_=>z)))))
     intro v7 W s
     refine bv h λr1 hr1 h=>?_
     have hT0:=s.p3
     refine .c (.av hr1 hT0 hT0.p1.lv (λ_=>z) u23 t3 z z z ?_)
     intro v8 W s
     refine .q z (.nil ?_)
     obtain rfl:=o9 h
     exact ⟨z,v8,sb z,s.tk [3,0]⟩
    refine .skip ?_
    cases h
    exact ⟨z,v3,sb z,s.tk [1,1]⟩
   intro x E W hJ
   obtain ⟨rfl,v9,hE,s⟩:=hJ
   refine ⟨_,hE.sub,?_⟩
   refine .region (.q z (.q z (.nil ?_)))
   cases h
   exact ⟨z,v9,sb z,s.tk [0,0]⟩
  refine .exit ?_
  cases h
  exact ⟨by simp,z,v3,sb z,s.tk [0,0]⟩
 intro x E W hJ
 obtain ⟨rfl,v10,hE,s⟩:=hJ
 refine ⟨_,hE.sub,?_⟩
 obtain rfl:=o9 h
 exact .g (.q z (.qn z (.ret (aa v10 (rt z rn) z (s.tk [1])))))
theorem tu {a0:List ab} {v_0:Hd} {w:World} {r:(List ab)×Bool} (h:kx a0=some r) (q_0:RO w v_0 70 5 ae a0):CL 124 #[sv v_0] w (Ret No w (λs:Hd=>.tuple #[sv s,.bool r.2]) (λs=>[ac (sv s) 70 5 ae r.1])):=by
 unfold kx at h
 refine ao func124 z z ?_
 have s:=Sep.start w
 refine .g (.q z (.qn z (.seq (.g (.q z (bv h λy1 hy1 h=>.c (.cO s func67 (bZ hy1 (s.keep q_0)) z z ?_)))))))
 intro W s
 refine .q z (.nil ?_)
 refine .cs z h ?_ ?_ <;> intro h
 ·refine .g (.q z (.qn z (.ret ?_)))
  have s:=s.nilv 70 5 ae
  cases h
  exact aa (vs:=[_,_]) aF (rt z (rt z rn)) z (s.tk [0])
 refine .skip (.g (.q z (bv h λy2 hy2 h=>.c (.cV s func69 (a7 hy2 (s.keep q_0)) z z ?_))))
 intro v1 W s
 refine .qn z (.seq (.g (.q z (bv h λy3 hy3 h=>.c (.cV s func169 (sq hy3 (s.keep q_0)) z z ?_)))))
 intro v2 W s
 refine .s (aJ s.lv u23 z z) z (.qn z (.block (bv h λy4 hy4 h=>?_)))
 refine .via (.iter (λs1 E' W'=>al E' [(4,(sv v1)),(13,(sv v2)),(14,vi (y3.length:Int)),(15,vi s1.1)]/\Sep No w W' [ac (sv v2) 3 1 (D.int .i64) y3,ac (sv v1) 70 5 ae s1.2]) (λy5 x E' W'=>x=.exit 0/\al E' [(4,(sv v1))]/\Sep No w W' [ac (sv v2) 3 1 (D.int .i64) y3,ac (sv v1) 70 5 ae y5]) hy4 ⟨sb z,s.tk [0,0]⟩ ?_) ?_
 ·intro s1 y6 E W h hI
  obtain ⟨hE,s⟩:=hI
  refine CW.sub hE ?_
  unfold jJ at h
  refine .g (.qn z (.seq ?_))
  refine .cs z h ?_ ?_ <;> intro h
  ·refine .skip (.seq (.block (.g (bv h λx1 hx1 h=>.s (ixv s.lv hx1 u23 t3 z z z) z (.s (lde (RV.flat s.lv hx1 z) t3 z z z z z) z (.qn z (.region (.q z (.q z (.q z (.q z (.s (bs T.s70 z z) z (bv h λx2 hx2 h=>.s (ixv s.p1.lv hx2 u38 t70 z z z) z (bv h λr1 hr1 h=>.c (.sev hr1 hx2 s.p1 t70 z z z z z z ?_)))))))))))))))
   intro W s
   refine .nil (.region (.q z (.q z (.nil ?_))))
   cases h
   exact ⟨z,sb z,s.tk [1,0]⟩
  refine .exit ?_
  cases h
  exact ⟨by simp,z,sb z,s.tk [0,0]⟩
 intro x E W hJ
 obtain ⟨rfl,hE,s⟩:=hJ
 refine ⟨_,hE.sub,?_⟩
 cases h
 exact .g (.q z (.q z (.qn z (.ret (aa (vs:=[_,_]) v1 (rt z (rt z rn)) z (s.tk [1]))))))
theorem sr {a0:List ab} {v_0:Hd} {w:World} {r:(List Bool)} (h:gH a0=some r) (q_0:RO w v_0 70 5 ae a0):CL 170 #[sv v_0] w (Ret No w (λs:Hd=>(sv s)) (λs=>[ac (sv s) 4 1 D.bool r])):=by
 unfold gH at h
 refine ao func170 z z ?_
 have s:=Sep.start w
 refine .g (.qn z (.seq (.g (.q z (bv h λy1 hy1 h=>.c (.cO s func67 (bZ hy1 (s.keep q_0)) z z ?_))))))
 intro W s
 refine .q z (.nil ?_)
 refine .cs z h ?_ ?_ <;> intro h
 ·refine .g (.qn z (.ret ?_))
  have s:=s.nilv 4 1 D.bool
  cases h
  exact aa aF (rt z rn) z (s.tk [0])
 refine .skip (.g (.q z (.s (aJ (s.keep q_0) u38 z z) z (bv h λr1 hr1 h=>.c (.mkv false D.bool hr1 u188 t4 s z z z z z (λ_=>z) ?_)))))
 intro v1 W s
 refine .qn z (.g (.q z (bv h λx1 hx1 h=>.s (ixv s.lv hx1 u188 t4 z z z) z (bv h λr2 hr2 h=>.c (.sev hr2 hx1 s t4 z z z z z z ?_)))))
 intro W s
 refine .nil (.seq (.g (.c (.liv [0] (D.int .i64) u23 t3 s z z z z ?_ z (λ_=>z)))))
 intro v2 W s
 refine .qn z (.block (bv h λy2 hy2 h=>?_))
 refine .via (.iter (λs1 E' W'=>∃ (v5:Hd),al E' [(0,(sv v_0)),(3,(sv v1)),(4,(sv v5))]/\Sep No w W' [ac (sv v1) 4 1 D.bool s1.2,ac (sv v5) 3 1 (D.int .i64) s1.1]) (λy3 x E' W'=>x=.exit 0/\al E' [(3,(sv v1))]/\Sep No w W' [ac (sv v1) 4 1 D.bool y3]) hy2 ⟨v2,sb z,s.tk [1,0]⟩ ?_) ?_
 ·intro s1 y4 E W h hI
  obtain ⟨v4,hE,s⟩:=hI
  refine CW.sub hE ?_
  unfold lN at h
  refine .seq (.g (.q z (.s (aJ s.p1.lv u23 z z) z (.q z (.nil ?_)))))
  refine .cs z h ?_ ?_ <;> intro h
  ·refine .skip (.block (.g (.q z (.q z (.s (aJ s.p1.lv u23 z z) z (.q z (bv h λx2 hx2 h=>.s (ixv s.p1.lv hx2 u23 t3 z z z) z (.s (lde (RV.flat s.p1.lv hx2 z) t3 z z z z z) z (.qn z (.g (.q z (.q z (.s (aJ s.p1.lv u23 z z) z (.q z (bv h λr3 hr3 h=>.c (.cuto hr3 s.p1 u23 t3 z z z z ?_))))))))))))))))
   intro v6 s
   refine .qn z (.g (.q z (.q z (bv h λx3 hx3 h=>.s (ixv (s.keep q_0) hx3 u38 t70 z z z) z (.s (lde (RV.flat (s.keep q_0) hx3 z) t70 z z z z z) z (.q z (bv h λy5 hy5 h=>.c (.cV s func217 (l5 hy5) z z ?_))))))))
   intro v7 W s
   refine .s (aJ s.lv u23 z z) z (.qn z (.block (bv h λy6 hy6 h=>?_)))
   refine .via (.iter (λs2 E' W'=>∃ (v10:Hd),al E' [(0,(sv v_0)),(3,(sv v1)),(4,(sv v10)),(36,(sv v7)),(37,vi (y5.length:Int)),(38,vi s2.2.1)]/\Sep No w W' [ac (sv v7) 3 1 (D.int .i64) y5,ac (sv v1) 4 1 D.bool s2.2.2,ac (sv v10) 3 1 (D.int .i64) s2.1]) (λy7 x E' W'=>x=.exit 2/\∃ (v11:Hd),al E' [(0,(sv v_0)),(3,(sv v1)),(4,(sv v11))]/\Sep No w W' [ac (sv v7) 3 1 (D.int .i64) y5,ac (sv v1) 4 1 D.bool y7.2,ac (sv v11) 3 1 (D.int .i64) y7.1]) hy6 ⟨v6,sb z,s.tk [0,1,0]⟩ ?_) ?_
   ·intro s2 y8 E W h hI
    obtain ⟨v9,hE,s⟩:=hI
    refine CW.sub hE ?_
    unfold lM at h
    refine .g (.qn z (.seq ?_))
    refine .cs z h ?_ ?_ <;> intro h
    ·refine .skip (bv h λy9 hy9 h=>?_)
     refine .seq (CW.via (R':=λx E' W'=>x=.normal/\∃ (v12:Hd),al E' [(0,(sv v_0)),(3,(sv v1)),(4,(sv v12)),(36,(sv v7)),(37,vi (y5.length:Int)),(38,vi s2.2.1)]/\Sep No w W' [ac (sv v7) 3 1 (D.int .i64) y5,ac (sv v1) 4 1 D.bool y9.2,ac (sv v12) 3 1 (D.int .i64) y9.1]) ?_ ?_)
     ·have h:=hy9
      refine .block (.g (bv h λx4 hx4 h=>.s (ixv s.lv hx4 u23 t3 z z z) z (.s (lde (RV.flat s.lv hx4 z) t3 z z z z z) z (.qn z (.g (.q z (.q z (bv h λx5 hx5 h=>.s (ixv s.p1.lv hx5 u188 t4 z z z) z (.s (lde (RV.flat s.p1.lv hx5 z) t4 z z z z z) z (.q z (.nil ?_)))))))))))
      refine .cs z h ?_ ?_ <;> intro h
      ·refine .g (.q z (.q z (bv h λx6 hx6 h=>.s (ixv s.p1.lv hx6 u188 t4 z z z) z (bv h λr4 hr4 h=>.c (.sev hr4 hx6 s.p1 t4 z z z z z z ?_)))))
       intro W s
       refine .nil (.region (.q z (.q z (.c (.liv [x4] (D.int .i64) u23 t3 s z z z z ?_ z (λ_=>z))))))
       intro v13 W s
       refine bv h λr5 hr5 h=>?_
       have hT0:=s.p3
       refine .c (.av hr5 hT0 hT0.p1.lv (λ_=>z) u23 t3 z z z ?_)
       intro v14 W s
       refine .q z (.nil ?_)
       cases h
       exact ⟨z,v14,sb z,s.tk [3,2,0]⟩
      refine .skip ?_
      cases h
      exact ⟨z,v9,sb z,s.tk [0,0,0]⟩
     intro x E W hJ
     obtain ⟨rfl,v15,hE,s⟩:=hJ
     refine ⟨_,hE.sub,?_⟩
     refine .region (.q z (.q z (.nil ?_)))
     cases h
     exact ⟨z,v15,sb z,s.tk [0,0,0]⟩
    refine .exit ?_
    cases h
    exact ⟨by simp,z,v9,sb z,s.tk [0,0,0]⟩
   intro x E W hJ
   obtain ⟨rfl,v16,hE,s⟩:=hJ
   refine ⟨_,hE.sub,?_⟩
   cases h
   exact ⟨z,v16,sb z,s.tk [1,1]⟩
  refine .exit ?_
  cases h
  exact ⟨by simp,z,sb z,s.tk [0]⟩
 intro x E W hJ
 obtain ⟨rfl,hE,s⟩:=hJ
 refine ⟨_,hE.sub,?_⟩
 obtain rfl:=o9 h
 exact .g (.q z (.qn z (.ret (aa v1 (rt z rn) z (s.tk [0])))))
theorem ss {a0:ab} {a1:Int} {w:World} {r:Bool} (h:js a0 a1=some r):CL 171 #[.agg #[vi a0.Op,vi a0.Dst,vi a0.A,vi a0.B,vi a0.N],vi a1] w (RU w (.bool r)):=by
 unfold js at h
 refine ao func171 z z ?_
 have s:=Sep.start w
 refine .g (.c (.box s z z ?_))
 intro g1 W s
 refine .qn z (.g (.s (ld t70 s z z z z z) z (bv h λy1 hy1 h=>.c (.cO s func38 (ja hy1) z z ?_))))
 intro W s
 refine .q z (.cu 6 13 (y1&&(a0.N==(w64 (a1+1)))) s ?_ ?_)
 ·refine .both (y1) (λb=>?_) (λb=>?_)
  ·have hg1:=b
   exact .g hg1 (.s (fa f70_4 z z z) z (.g hg1 (.s (ld t3 s z z z z z) z (.g hg1 (.q z (.g hg1 (.q z (.g hg1 (.q z (.s (pkt hg1 z z z) z (.nil (ck 6 s z (bp hg1)))))))))))))
  exact .xx b z (.xx b z (.xx b z (.xx b z (.xx b z (.s (pkf b z z z) z (.nil (ck 6 s z (bq b))))))))
 intro W s
 refine .q z (.q z (.cu 12 27 ((!(y1&&(a0.N==(w64 (a1+1)))))&&(!((a0.Op==2)&&(a0.Dst==a0.A)))) s ?_ ?_))
 ·refine .both (!(y1&&(a0.N==(w64 (a1+1))))) (λb=>?_) (λb=>?_)
  ·have hg2:=b
   refine .g hg2 (.s (fa f70_0 z z z) z (.g hg2 (.s (ld t3 s z z z z z) z (.g hg2 (.q z (.g hg2 (.q z (.cu 6 25 ((a0.Op==2)&&(a0.Dst==a0.A)) s ?_ ?_))))))))
   ·refine .both (a0.Op==2) (λb=>?_) (λb=>?_)
    ·have hg3:=b
     exact .g hg3 (.s (fa f70_1 z z z) z (.g hg3 (.s (ld t3 s z z z z z) z (.g hg3 (.s (fa f70_2 z z z) z (.g hg3 (.s (ld t3 s z z z z z) z (.g hg3 (.q z (.g hg2 (.s (pkt hg3 z z z) z (.nil (ck 6 s z (bp hg3))))))))))))))
    exact .xx b z (.xx b z (.xx b z (.xx b z (.xx b z (.g hg2 (.s (pkf b z z z) z (.nil (ck 6 s z (bq b)))))))))
   intro W s
   exact .g hg2 (.q z (.s (pkt hg2 z z z) z (.nil (ck 7 s z (bp hg2)))))
  exact .xx b z (.xx b z (.xx b z (.xx b z (.xu (.xu (.xu (.xu (.xu (.xx b z (.xx b z (.s (pkf b z z z) z (.nil (ck 12 s z (bq b))))))))))))))
 intro W s
 cases h
 exact .qn z (.ret (aa () (rt z rn) z (s.to [])))
end
noncomputable section
theorem qA {a0:List ab} {v_0:Hd} {w:World} {r:(List ab)×Bool} (h:gI a0=some r) (q_0:RO w v_0 70 5 ae a0):CL 125 #[sv v_0] w (Ret No w (λs:Hd=>.tuple #[sv s,.bool r.2]) (λs=>[ac (sv s) 70 5 ae r.1])):=by
 unfold gI at h
 refine ao func125 z z ?_
 have s:=Sep.start w
 refine .g (.q z (.qn z (.seq (.g (.q z (bv h λy1 hy1 h=>.c (.cO s func67 (bZ hy1 (s.keep q_0)) z z ?_)))))))
 intro W s
 refine .q z (.nil ?_)
 refine .cs z h ?_ ?_ <;> intro h
 ·refine .g (.q z (.qn z (.ret ?_)))
  have s:=s.nilv 70 5 ae
  cases h
  exact aa (vs:=[_,_]) aF (rt z (rt z rn)) z (s.tk [0])
 refine .skip (.g (.q z (.s (aJ (s.keep q_0) u38 z z) z (bv h λr1 hr1 h=>.c (.mkv 0 (D.int .i64) hr1 u23 t3 s z z z z z (λ_=>z) ?_)))))
 intro v1 W s
 refine .qn z (.g (.qn z (.seq (.g (.q z (bv h λy2 hy2 h=>.c (.cV s func170 (sr hy2 (s.keep q_0)) z z ?_)))))))
 intro v2 W s
 refine .s (aJ s.lv u188 z z) z (.qn z (.block ?_))
 have s:=s.nilv 70 5 ae
 refine bv h λy3 hy3 h=>?_
 refine .via (.iter (λs1 E' W'=>∃ (v5:Hd),al E' [(0,(sv v_0)),(4,(sv v1)),(5,(sv v5)),(17,(sv v2)),(18,vi (y2.length:Int)),(19,vi s1.2.1)]/\Sep No w W' [ac (sv v2) 4 1 D.bool y2,ac (sv v1) 3 1 (D.int .i64) s1.2.2,ac (sv v5) 70 5 ae s1.1]) (λy4 x E' W'=>x=.exit 0/\∃ (v6:Hd),al E' [(4,(sv v1)),(5,(sv v6))]/\Sep No w W' [ac (sv v2) 4 1 D.bool y2,ac (sv v1) 3 1 (D.int .i64) y4.2,ac (sv v6) 70 5 ae y4.1]) hy3 ⟨aF,sb z,s.tk [1,1,0]⟩ ?_) ?_
 ·intro s1 y5 E W h hI
  obtain ⟨v4,hE,s⟩:=hI
  refine CW.sub hE ?_
  unfold gv at h
  refine .g (.qn z (.seq ?_))
  refine .cs z h ?_ ?_ <;> intro h
  ·refine .skip (bv h λy6 hy6 h=>?_)
   refine .seq (CW.via (R':=λx E' W'=>x=.normal/\∃ (v7:Hd),al E' [(0,(sv v_0)),(4,(sv v1)),(5,(sv v7)),(17,(sv v2)),(18,vi (y2.length:Int)),(19,vi s1.2.1)]/\Sep No w W' [ac (sv v2) 4 1 D.bool y2,ac (sv v1) 3 1 (D.int .i64) y6.2,ac (sv v7) 70 5 ae y6.1]) ?_ ?_)
   ·have h:=hy6
    refine .block (.g (.q z (bv h λx1 hx1 h=>.s (ixv s.lv hx1 u188 t4 z z z) z (.s (lde (RV.flat s.lv hx1 z) t4 z z z z z) z (.q z (.qn z (.g (.q z (.q z (.q z (.s (aJ s.p2.lv u38 z z) z (bv h λx2 hx2 h=>.s (ixv s.p1.lv hx2 u23 t3 z z z) z (bv h λr2 hr2 h=>.c (.sev hr2 hx2 s.p1 t3 z z z z z z ?_))))))))))))))
    intro W s
    refine .nil (.g (.q z (.q z (bv h λb1 hb1 h=>.cu 7 37 (b1) s ?_ ?_))))
    ·refine .both (x1) (λb=>?_) (λb=>?_)
     ·have hg1:=b
      have h:=aC b hb1
      refine .g hg1 (.q z (.g hg1 (.q z (bv h λx3 hx3 h=>.g hg1 (.s (ixv (s.keep q_0) hx3 u38 t70 z z z) z (.g hg1 (.s (lde (RV.flat (s.keep q_0) hx3 z) t70 z z z z z) z (.g hg1 (.q z (bv h λy7 hy7 h=>.g hg1 (.c (.cO s func171 (ss hy7) z z ?_))))))))))))
      intro W s
      refine .s (pkt hg1 z z z) z ?_
      cases h
      exact .nil (ck 7 s)
     refine .xx b z (.xx b z (.xx b z (.xx b z (.xx b z (.xx b z ?_)))))
     cases aD b hb1
     exact .s (pkf b z z z) z (.nil (ck 7 s))
    intro W s
    refine .nil ?_
    refine .cs z h ?_ ?_ <;> intro h
    ·refine .region (.q z (.q z (.q z (bv h λx4 hx4 h=>.s (ixv (s.keep q_0) hx4 u38 t70 z z z) z (.s (lde (RV.flat (s.keep q_0) hx4 z) t70 z z z z z) z (.c (.liv [x4] ae u38 t70 s z z z z ?_ z (λ_=>z))))))))
     intro v8 W s
     refine bv h λr3 hr3 h=>?_
     have hT0:=s.p3
     refine .c (.av hr3 hT0 hT0.p1.lv (λ_=>z) u38 t70 z z z ?_)
     intro v9 W s
     refine .q z (.nil ?_)
     cases h
     exact ⟨z,v9,sb z,s.tk [3,2,0]⟩
    refine .skip ?_
    cases h
    exact ⟨z,v4,sb z,s.tk [1,0,0]⟩
   intro x E W hJ
   obtain ⟨rfl,v10,hE,s⟩:=hJ
   refine ⟨_,hE.sub,?_⟩
   refine .region (.q z (.q z (.nil ?_)))
   cases h
   exact ⟨z,v10,sb z,s.tk [0,0,0]⟩
  refine .exit ?_
  cases h
  exact ⟨by simp,z,v4,sb z,s.tk [0,0,0]⟩
 intro x E W hJ
 obtain ⟨rfl,v11,hE,s⟩:=hJ
 refine ⟨_,hE.sub,?_⟩
 refine .seq (.g (.q z (.s (aJ s.p2.lv u38 z z) z (.qn z (.block (bv h λy8 hy8 h=>?_))))))
 refine .via (.iter (λs2 E' W'=>al E' [(4,(sv v1)),(5,(sv v11)),(46,(sv v11)),(47,vi (y3.1.length:Int)),(48,vi s2.1)]/\Sep No w W' [ac (sv v2) 4 1 D.bool y2,ac (sv v1) 3 1 (D.int .i64) y3.2,ac (sv v11) 70 5 ae s2.2]) (λy9 x E' W'=>x=.exit 2/\al E' [(5,(sv v11))]/\Sep No w W' [ac (sv v2) 4 1 D.bool y2,ac (sv v1) 3 1 (D.int .i64) y3.2,ac (sv v11) 70 5 ae y9]) hy8 ⟨sb z,s.tk [0,0,0]⟩ ?_) ?_
 ·intro s2 y10 E W h hI
  obtain ⟨hE,s⟩:=hI
  refine CW.sub hE ?_
  unfold d7 at h
  refine .g (.qn z (.seq ?_))
  refine .cs z h ?_ ?_ <;> intro h
  ·refine .skip (bv h λy11 hy11 h=>?_)
   refine .seq (CW.via (R':=λx E' W'=>x=.normal/\al E' [(4,(sv v1)),(5,(sv v11)),(46,(sv v11)),(47,vi (y3.1.length:Int)),(48,vi s2.1)]/\Sep No w W' [ac (sv v2) 4 1 D.bool y2,ac (sv v1) 3 1 (D.int .i64) y3.2,ac (sv v11) 70 5 ae y11]) ?_ ?_)
   ·have h:=hy11
    refine .block (.g (.q z (bv h λx5 hx5 h=>.s (ixv s.p2.lv hx5 u38 t70 z z z) z (.s (lde (RV.flat s.p2.lv hx5 z) t70 z z z z z) z (.c (.alloc t70 s ?_))))))
    intro g1 W s
    refine .q z (.c (.st t70 s z z z ?_))
    intro W s
    refine .nil (.g (.s (ld t70 s z z z z z) z (bv h λy12 hy12 h=>.c (.cO s func38 (ja hy12) z z ?_))))
    intro W s
    refine .nil ?_
    refine .cs z h ?_ ?_ <;> intro h
    ·refine .region (.q z (.q z (.q z (.s (fa f70_4 z z z) z (.s (ld t3 s z z z z z) z (bv h λx6 hx6 h=>.s (ixv s.p2.lv hx6 u23 t3 z z z) z (.s (lde (RV.flat s.p2.lv hx6 z) t3 z z z z z) z (bv h λx7 hx7 h=>.s (ixv s.p3.lv hx7 u38 t70 z z z) z (.s (fe f70_4 z z z) z (bv h λr4 hr4 h=>.c (.sev hr4 hx7 s.p3 t3 z z z z z z ?_)))))))))))
     intro W s
     refine .nil ?_
     obtain rfl:=o9 h
     exact ⟨z,sb z,s.tk [2,2,0]⟩
    refine .skip ?_
    cases h
    exact ⟨z,sb z,s.tk [1,1,1]⟩
   intro x E W hJ
   obtain ⟨rfl,hE,s⟩:=hJ
   refine ⟨_,hE.sub,?_⟩
   refine .region (.q z (.q z (.nil ?_)))
   cases h
   exact ⟨z,sb z,s.tk [0,0,0]⟩
  refine .exit ?_
  cases h
  exact ⟨by simp,z,sb z,s.tk [0,0,0]⟩
 intro x E W hJ
 obtain ⟨rfl,hE,s⟩:=hJ
 refine ⟨_,hE.sub,?_⟩
 cases h
 exact .g (.q z (.q z (.qn z (.ret (aa (vs:=[_,_]) v11 (rt z (rt z rn)) z (s.tk [2]))))))
def qB (w:World) (r:(List ab)×Bool):Env->World->Prop:=Fin Tryz.prog Tryz.f66 No w (λs:Hd=>.tuple #[sv s,.bool r.2]) (λs=>[ac (sv s) 70 5 ae r.1]) .ret
theorem pU {a0:List ab} {a1:Int} {v_0:Hd} {w:World} {r:(List ab)×Bool} (h:bW a0 a1=some r) (q_0:RO w v_0 70 5 ae a0):CL 66 #[sv v_0,vi a1] w (Ret No w (λs:Hd=>.tuple #[sv s,.bool r.2]) (λs=>[ac (sv s) 70 5 ae r.1])):=by
 unfold bW at h
 refine ao func66 z z ?_
 have s:=Sep.start w
 refine .g (.q z (.qn z (.seq (.g (.q z (bv h λy1 hy1 h=>.c (.cO s func67 (bZ hy1 (s.keep q_0)) z z ?_)))))))
 intro W s
 refine .q z (.q z (.cu 3 17 ((!y1)||(decide (a1<0))) s ?_ ?_))
 ·refine .both (!y1) (λb=>?_) (λb=>?_)
  ·exact .xx b z (.xx b z (.s (pkt b z z z) z (.nil (ck 3 s z (gY b)))))
  have hg1:=b
  exact .g hg1 (.q z (.g hg1 (.q z (.s (pkf hg1 z z z) z (.nil (ck 3 s z (gr hg1)))))))
 intro W s
 refine .q z (.cu 3 21 (((!y1)||(decide (a1<0)))||(decide (a1>4))) s ?_ ?_)
 ·refine .both ((!y1)||(decide (a1<0))) (λb=>?_) (λb=>?_)
  ·exact .xx b z (.xx b z (.s (pkt b z z z) z (.nil (ck 3 s z (gY b)))))
  have hg2:=b
  exact .g hg2 (.q z (.g hg2 (.q z (.s (pkf hg2 z z z) z (.nil (ck 3 s z (gr hg2)))))))
 intro W s
 refine .nil ?_
 refine .cs z h ?_ ?_ <;> intro h
 ·refine .g (.q z (.qn z (.ret ?_)))
  have s:=s.nilv 70 5 ae
  cases h
  exact aa (vs:=[_,_]) aF (rt z (rt z rn)) z (s.tk [0])
 refine .skip (.g (.q z (bv h λy2 hy2 h=>.c (.cV s func69 (a7 hy2 (s.keep q_0)) z z ?_))))
 intro v1 W s
 refine .qn z (.seq (.g (.q z (.qn z (.block (bv h λy3 hy3 h=>?_))))))
 refine .via (.iter (λs1 E' W'=>∃ (v4:Hd),al E' [(6,(sv v4)),(24,vi a1),(25,vi s1.2)]/\Sep No w W' [ac (sv v4) 70 5 ae s1.1]) (λy4 x E' W'=>(match y4 with | .inl o1=>x=.ret/\qB w o1 E' W' | .inr o2=>x=.exit 0/\∃ (v5:Hd),al E' [(6,(sv v5))]/\Sep No w W' [ac (sv v5) 70 5 ae o2])) hy3 ⟨v1,sb rfl,s.tk [0]⟩ ?_) ?_
 ·intro s1 y5 E W h hI
  obtain ⟨v3,hE,s⟩:=hI
  refine CW.sub hE ?_
  unfold bL at h
  refine .g (.qn z (.seq ?_))
  refine .cs z h ?_ ?_ <;> intro h
  ·refine .skip (.seq (.block (.g (.c (.lfn u142 t67 s z z z z ?_)))))
   intro g1 W s
   have s:Sep _ _ _ [.box g1 67 [.func (.func 121) #[] #[],.func (.func 122) #[] #[],.func (.func 123) #[] #[],.func (.func 124) #[] #[],.func (.func 125) #[] #[]],ac (sv v3) 70 5 ae s1.1]:=id s
   refine .s (len u142 z z) z (.qn z (.block (.rounds 6 (.step (.g (.qn z (.seq (.cond z (λb=>?_) (λb=>?_)))))))))
   ·refine .skip (.seq (.block (.g (.s (ixs (by decide) u142 t67 z z z) z (.s (ld t67 s z z z z z) z (.qn z (.g (.q z (.q z (bv h λy6 hy6 h=>.c (.callv (vs:=[sv v3]) (cap:=#[]) s ⟨_,func121,z,by kernel_rfl⟩ (tm hy6 s.p1.lv) z z z ?_)))))))))))
    rintro v6 W s
    refine .q z (.q z (.q z (.q z (.qn z (.seq (.g (.q z (.q z (.nil ?_)))))))))
    refine .cs z h ?_ ?_ <;> intro h
    ·refine .g (.q z (.qn z (.ret ?_)))
     have s:=s.nilv 70 5 ae
     cases h
     exact ⟨by simp,z,aa (vs:=[_,_]) aF (rt z (rt z rn)) z (s.tk [0])⟩
    refine .skip (.region (.q z (.qn z (.region (.q z (.qn z (.step (.g (.qn z (.seq (.cond z (λb=>?_) (λb=>?_))))))))))))
    ·refine .skip (.seq (.block (.g (.s (ixs (by decide) u142 t67 z z z) z (.s (ld t67 s.p1 z z z z z) z (.qn z (.g (.q z (.q z (bv h λy7 hy7 h=>.c (.callv (vs:=[sv v6]) (cap:=#[]) s ⟨_,func122,z,by kernel_rfl⟩ (tr hy7 s.lv) z z z ?_)))))))))))
     rintro v7 W s
     refine .q z (.q z (.q z (.q z (.qn z (.seq (.g (.q z (.q z (.nil ?_)))))))))
     refine .cs z h ?_ ?_ <;> intro h
     ·refine .g (.q z (.qn z (.ret ?_)))
      have s:=s.nilv 70 5 ae
      cases h
      exact ⟨by simp,z,aa (vs:=[_,_]) aF (rt z (rt z rn)) z (s.tk [0])⟩
     refine .skip (.region (.q z (.qn z (.region (.q z (.qn z (.step (.g (.qn z (.seq (.cond z (λb=>?_) (λb=>?_))))))))))))
     ·refine .skip (.seq (.block (.g (.s (ixs (by decide) u142 t67 z z z) z (.s (ld t67 s.p2 z z z z z) z (.qn z (.g (.q z (.q z (bv h λy8 hy8 h=>.c (.callv (vs:=[sv v7]) (cap:=#[]) s ⟨_,func123,z,by kernel_rfl⟩ (tt hy8 s.lv) z z z ?_)))))))))))
      rintro v8 W s
      refine .q z (.q z (.q z (.q z (.qn z (.seq (.g (.q z (.q z (.nil ?_)))))))))
      refine .cs z h ?_ ?_ <;> intro h
      ·refine .g (.q z (.qn z (.ret ?_)))
       have s:=s.nilv 70 5 ae
       cases h
       exact ⟨by simp,z,aa (vs:=[_,_]) aF (rt z (rt z rn)) z (s.tk [0])⟩
      refine .skip (.region (.q z (.qn z (.region (.q z (.qn z (.step (.g (.qn z (.seq (.cond z (λb=>?_) (λb=>?_))))))))))))
      ·refine .skip (.seq (.block (.g (.s (ixs (by decide) u142 t67 z z z) z (.s (ld t67 s.p3 z z z z z) z (.qn z (.g (.q z (.q z (bv h λy9 hy9 h=>.c (.callv (vs:=[sv v8]) (cap:=#[]) s ⟨_,func124,z,by kernel_rfl⟩ (tu hy9 s.lv) z z z ?_)))))))))))
       rintro v9 W s
       refine .q z (.q z (.q z (.q z (.qn z (.seq (.g (.q z (.q z (.nil ?_)))))))))
       refine .cs z h ?_ ?_ <;> intro h
       ·refine .g (.q z (.qn z (.ret ?_)))
        have s:=s.nilv 70 5 ae
        cases h
        exact ⟨by simp,z,aa (vs:=[_,_]) aF (rt z (rt z rn)) z (s.tk [0])⟩
       refine .skip (.region (.q z (.qn z (.region (.q z (.qn z (.step (.g (.qn z (.seq (.cond z (λb=>?_) (λb=>?_))))))))))))
       ·refine .skip (.seq (.block (.g (.s (ixs (by decide) u142 t67 z z z) z (.s (ld t67 s.p4 z z z z z) z (.qn z (.g (.q z (.q z (bv h λy10 hy10 h=>.c (.callv (vs:=[sv v9]) (cap:=#[]) s ⟨_,func125,z,by kernel_rfl⟩ (qA hy10 s.lv) z z z ?_)))))))))))
        rintro v10 W s
        refine .q z (.q z (.q z (.q z (.qn z (.seq (.g (.q z (.q z (.nil ?_)))))))))
        refine .cs z h ?_ ?_ <;> intro h
        ·refine .g (.q z (.qn z (.ret ?_)))
         have s:=s.nilv 70 5 ae
         cases h
         exact ⟨by simp,z,aa (vs:=[_,_]) aF (rt z (rt z rn)) z (s.tk [0])⟩
        refine .skip (.region (.q z (.qn z (.region (.q z (.qn z (.step (.g (.qn z (.seq (.cond z (λb=>?_) (λb=>?_))))))))))))
        ·exact absurd b (by decide)
        refine .exit (.region (.q z (.q z (.nil ?_))))
        cases h
        exact ⟨z,v10,sb z,s.tk [0]⟩
       exact absurd b (by decide)
      exact absurd b (by decide)
     exact absurd b (by decide)
    exact absurd b (by decide)
   exact absurd b (by decide)
  refine .exit ?_
  cases h
  exact ⟨by simp,z,v3,sb z,s.tk [0]⟩
 intro x E W hJ
 rcases y3 with o3 | o4
 ·have h:=dG h
  obtain ⟨rfl,hF⟩:=hJ
  refine ⟨_,λ_ _ h=>h,?_⟩
  cases h
  exact hF
 have h:=dH h
 obtain ⟨rfl,v11,hE,s⟩:=hJ
 refine ⟨_,hE.sub,?_⟩
 cases h
 exact .g (.q z (.q z (.qn z (.ret (aa (vs:=[_,_]) v11 (rt z (rt z rn)) z (s.tk [0]))))))
def rF (w:World) (r:(List (List ab))×Bool):Env->World->Prop:=Fin Tryz.prog Tryz.f35 No w (λs:Hd=>.tuple #[sv s,.bool r.2]) (λs=>[ac (sv s) 38 1 (λ(l:List ab)=>D.row 70 5 (l.map ae)) r.1]) .ret
theorem qC {a0:List (List ab)} {a1:Int} {v_0:Hd} {w:World} {r:(List (List ab))×Bool} (h:dk a0 a1=some r) (q_0:RO w v_0 38 1 (λ(l:List ab)=>D.row 70 5 (l.map ae)) a0):CL 35 #[sv v_0,vi a1] w (Ret No w (λs:Hd=>.tuple #[sv s,.bool r.2]) (λs=>[ac (sv s) 38 1 (λ(l:List ab)=>D.row 70 5 (l.map ae)) r.1])):=by
 unfold dk at h
 refine ao func35 z z ?_
 have s:=Sep.start w
 refine .g (.q z (.qn z (.seq (.g (.q z (.s (aJ (s.keep q_0) u32 z z) z (.q z (.q z (.cu 4 18 ((decide ((a0.length:Int)<1))||(decide ((a0.length:Int)>3))) s ?_ ?_)))))))))
 ·refine .both (decide ((a0.length:Int)<1)) (λb=>?_) (λb=>?_)
  ·exact .xx b z (.xx b z (.xx b z (.s (pkt b z z z) z (.nil (ck 4 s z (gY b))))))
  have hg1:=b
  exact .g hg1 (.q z (.g hg1 (.s (aJ (s.keep q_0) u32 z z) z (.g hg1 (.q z (.s (pkf hg1 z z z) z (.nil (ck 4 s z (gr hg1)))))))))
 intro W s
 refine .nil ?_
 refine .cs z h ?_ ?_ <;> intro h
 ·refine .g (.q z (.qn z (.ret ?_)))
  have s:=s.nilv 38 1 (λ(l:List ab)=>D.row 70 5 (l.map ae))
  cases h
  exact aa (vs:=[_,_]) aF (rt z (rt z rn)) z (s.tk [0])
 refine .skip (.g (.qn z (.seq (.g (.q z (.s (aJ (s.keep q_0) u32 z z) z (.qn z (.block ?_))))))))
 have s:=s.nilv 38 1 (λ(l:List ab)=>D.row 70 5 (l.map ae))
 refine bv h λy1 hy1 h=>?_
 refine .via (.iter (λs1 E' W'=>∃ (v3:Hd),al E' [(1,vi a1),(6,(sv v3)),(19,(sv v_0)),(20,vi (a0.length:Int)),(21,vi s1.2)]/\Sep No w W' [ac (sv v3) 38 1 (λ(l:List ab)=>D.row 70 5 (l.map ae)) s1.1]) (λy2 x E' W'=>(match y2 with | .inl o1=>x=.ret/\rF w o1 E' W' | .inr o2=>x=.exit 0/\∃ (v4:Hd),al E' [(6,(sv v4))]/\Sep No w W' [ac (sv v4) 38 1 (λ(l:List ab)=>D.row 70 5 (l.map ae)) o2])) hy1 ⟨aF,sb rfl,s.tk [0]⟩ ?_) ?_
 ·intro s1 y3 E W h hI
  obtain ⟨v2,hE,s⟩:=hI
  refine CW.sub hE ?_
  unfold c8 at h
  refine .g (.qn z (.seq ?_))
  refine .cs z h ?_ ?_ <;> intro h
  ·refine .skip (.seq (.block (.g (bv h λx1 hx1 h=>?_))))
   obtain ⟨k1,hd,hck1⟩:=RV.el2 q_0 hx1
   obtain ⟨v5,k1,rfl,q5,hd1⟩:=cU q_0 hd
   obtain rfl:=mO q_0 hd1
   refine .s (ixv (s.keep q_0) hx1 u32 t38 z z z) z (.s (lde (hck1 _ s.agree) t38 z z z z z) z (.qn z (.g (.q z (.q z (bv h λy4 hy4 h=>.c (.cV s func66 (pU hy4 (s.keep (q5 _ q_0))) z z ?_)))))))
   intro v6 W s
   refine .q z (.q z (.q z (.q z (.qn z (.seq (.g (.q z (.q z (.nil ?_)))))))))
   refine .cs z h ?_ ?_ <;> intro h
   ·refine .g (.q z (.qn z (.ret ?_)))
    have s:=s.nilv 38 1 (λ(l:List ab)=>D.row 70 5 (l.map ae))
    cases h
    exact ⟨by simp,z,aa (vs:=[_,_]) aF (rt z (rt z rn)) z (s.tk [0])⟩
   refine .skip (.region (.q z (.q z (.c (.lg (L1:=[ac (sv v6) 70 5 ae y4.1]) [y4.1] (λ(l:List ab)=>D.row 70 5 (l.map ae)) u32 t38 (s.to [0,0]) z z z (.row (.nil)) ?_ z (λ_=>z))))))
   intro v7 W s
   refine bv h λr1 hr1 h=>.c (.appv hr1 (s.to [1,0]) u32 t38 z z z ?_)
   intro v8 W s
   refine .qn z (.region (.q z (.q z (.nil ?_))))
   cases h
   exact ⟨z,v8,sb z,s.tk [0]⟩
  refine .exit ?_
  cases h
  exact ⟨by simp,z,v2,sb z,s.tk [0]⟩
 intro x E W hJ
 rcases y1 with o3 | o4
 ·have h:=dG h
  obtain ⟨rfl,hF⟩:=hJ
  refine ⟨_,λ_ _ h=>h,?_⟩
  cases h
  exact hF
 have h:=dH h
 obtain ⟨rfl,v9,hE,s⟩:=hJ
 refine ⟨_,hE.sub,?_⟩
 cases h
 exact .g (.q z (.q z (.qn z (.ret (aa (vs:=[_,_]) v9 (rt z (rt z rn)) z (s.tk [0]))))))
theorem qD {a0:Int} {w:World} {r:(List Int)} (h:gJ a0=some r):CL 178 #[.int .u16 a0] w (Ret No w (λs:Hd=>(sv s)) (λs=>[ac (sv s) 3 1 (D.int .i64) r])):=by
 unfold gJ at h
 refine ao func178 z z ?_
 have s:=Sep.start w
 refine .g (.qn z (.g (.qn z (.seq (.g (.qn z (.block ?_)))))))
 have s:=s.nilv 3 1 (D.int .i64)
 refine bv h λy1 hy1 h=>?_
 refine .via (.iter (λs1 E' W'=>∃ (v3:Hd),al E' [(0,.int .u16 a0),(3,(sv v3)),(5,vi s1.2)]/\Sep No w W' [ac (sv v3) 3 1 (D.int .i64) s1.1]) (λy2 x E' W'=>x=.exit 0/\∃ (v4:Hd),al E' [(3,(sv v4))]/\Sep No w W' [ac (sv v4) 3 1 (D.int .i64) y2]) hy1 ⟨aF,sb z,s.tk [0]⟩ ?_) ?_
 ·intro s1 y3 E W h hI
  obtain ⟨v2,hE,s⟩:=hI
  refine CW.sub hE ?_
  unfold ke at h
  refine .g (.qn z (.seq ?_))
  refine .cs z h ?_ ?_ <;> intro h
  ·refine .skip (bv h λy4 hy4 h=>?_)
   refine .seq (CW.via (R':=λx E' W'=>x=.normal/\∃ (v5:Hd),al E' [(0,.int .u16 a0),(3,(sv v5)),(5,vi s1.2)]/\Sep No w W' [ac (sv v5) 3 1 (D.int .i64) y4]) ?_ ?_)
   ·have h:=hy4
    refine .block (.g (.q z (.qn z (.g (.q z (.q z (bv h λy5 hy5 h=>.c (.cO s func128 (iu hy5) z z ?_))))))))
    intro W s
    refine .nil ?_
    refine .cs z h ?_ ?_ <;> intro h
    ·refine .region (.q z (.q z (.c (.liv [s1.2] (D.int .i64) u23 t3 s z z z z ?_ z (λ_=>z)))))
     intro v6 W s
     refine bv h λr1 hr1 h=>?_
     have hT0:=s.p1
     refine .c (.av hr1 hT0 hT0.p1.lv (λ_=>z) u23 t3 z z z ?_)
     intro v7 W s
     refine .q z (.nil ?_)
     obtain rfl:=o9 h
     exact ⟨z,v7,sb z,s.tk [0]⟩
    refine .skip ?_
    cases h
    exact ⟨z,v2,sb z,s.tk [0]⟩
   intro x E W hJ
   obtain ⟨rfl,v8,hE,s⟩:=hJ
   refine ⟨_,hE.sub,?_⟩
   refine .region (.q z (.q z (.nil ?_)))
   cases h
   exact ⟨z,v8,sb z,s.tk [0]⟩
  refine .exit ?_
  cases h
  exact ⟨by simp,z,v2,sb z,s.tk [0]⟩
 intro x E W hJ
 obtain ⟨rfl,v9,hE,s⟩:=hJ
 refine ⟨_,hE.sub,?_⟩
 obtain rfl:=o9 h
 exact .g (.q z (.qn z (.ret (aa v9 (rt z rn) z (s.tk [0])))))
theorem tv {a0:List ab} {v_0:Hd} {w:World} {r:(Ar Int)} (h:iK a0=some r) (q_0:RO w v_0 70 5 ae a0):CL 127 #[sv v_0] w (RU w (.agg (iv r).toArray)):=by
 unfold iK at h
 refine ao func127 z z ?_
 have s:=Sep.start w
 refine .g (.c (.alloc t146 s ?_))
 intro g1 W s
 have s:Sep _ _ _ [.box g1 146 (iv (λ_=>0))]:=id s
 refine .nil (.g (.c (.alloc t146 s ?_)))
 intro g2 W s
 have s:Sep _ _ _ [.box g2 146 (iv (λ_=>0)),.box g1 146 (iv (λ_=>0))]:=id s
 refine .nil (.g (.q z (bv h λy1 hy1 h=>.c (.cV s func175 (nD hy1 (s.keep q_0)) z z ?_))))
 intro v1 W s
 refine .qn z (.seq (.g (.q z (.s (aJ (s.keep q_0) u38 z z) z (.qn z (.block (bv h λy2 hy2 h=>?_)))))))
 refine .via (.iter (λs1 E' W'=>al E' [(0,(sv v_0)),(2,Pt g1),(3,Pt g2),(4,(sv v1)),(13,(sv v_0)),(14,vi (a0.length:Int)),(15,vi s1.1)]/\Sep No w W' [ac (sv v1) 145 1 (D.int .u16) y1,.box g2 146 (iv s1.2),.box g1 146 (iv (λ_=>0))]) (λy3 x E' W'=>x=.exit 0/\al E' [(2,Pt g1),(3,Pt g2)]/\Sep No w W' [ac (sv v1) 145 1 (D.int .u16) y1,.box g2 146 (iv y3),.box g1 146 (iv (λ_=>0))]) hy2 ⟨sb z,s.tk [0,0,0]⟩ ?_) ?_
 ·intro s1 y4 E W h hI
  obtain ⟨hE,s⟩:=hI
  refine CW.sub hE ?_
  unfold mn at h
  refine .g (.qn z (.seq ?_))
  refine .cs z h ?_ ?_ <;> intro h
  ·refine .skip (bv h λy5 hy5 h=>?_)
   refine .seq (CW.via (R':=λx E' W'=>x=.normal/\al E' [(0,(sv v_0)),(2,Pt g1),(3,Pt g2),(4,(sv v1)),(13,(sv v_0)),(14,vi (a0.length:Int)),(15,vi s1.1)]/\Sep No w W' [ac (sv v1) 145 1 (D.int .u16) y1,.box g2 146 (iv y5),.box g1 146 (iv (λ_=>0))]) ?_ ?_)
   ·have h:=hy5
    refine .block (.g (.q z (bv h λx1 hx1 h=>.s (ixv (s.keep q_0) hx1 u38 t70 z z z) z (.s (lde (RV.flat (s.keep q_0) hx1 z) t70 z z z z z) z (.c (.alloc t70 s ?_))))))
    intro g3 W s
    refine .q z (.c (.st t70 s z z z ?_))
    intro W s
    refine .nil (.g (.s (ld t70 s z z z z z) z (bv h λy6 hy6 h=>.c (.cO s func176 (jE hy6) z z ?_))))
    intro W s
    refine .qn z (.seq (.g (.q z (.q z (.nil ?_)))))
    refine .cs z h ?_ ?_ <;> intro h
    ·refine .exit ?_
     cases h
     exact ⟨z,sb z,s.tk [1,1,1]⟩
    refine .skip (.seq (.rk 8 s [0,0,0,0] T.mix ?_))
    intro W s
    have t:=s.to [0,0,0,0]
    refine .tp' 0 z z t (.tp' 1 z z t (.tp' 2 z z t (.tp' 4 z z t (bv h λd1 hd1 h=>.ts' 5 z (λW t=>fr hd1 z z z) t z (bv h λy7 hy7 h=>.by1 3 z (.cO s func177 (lh hy7 (s.keep q_0) s.p1.lv) z z ?_))))))
    intro W s
    refine s.an [0,0,0,0] λt=>.tp' 6 z z t (.tp' 7 z z t (.done (bv h λy8 hy8 h=>?_)))
    refine .seq (CW.via (R':=λx E' W'=>x=.normal/\al E' [(0,(sv v_0)),(2,Pt g1),(3,Pt g2),(4,(sv v1)),(7,vi y6),(8,.int .u16 y8),(13,(sv v_0)),(14,vi (a0.length:Int)),(15,vi s1.1)]/\Sep No w W' [.box g3 70 [vi x1.Op,vi x1.Dst,vi x1.A,vi x1.B,vi x1.N],ac (sv v1) 145 1 (D.int .u16) y1,.box g2 146 (iv s1.2),.box g1 146 (iv (λ_=>0))]) ?_ ?_)
    ·have h:=hy8
     refine .g (.s (fa f70_0 z z z) z (.s (ld t3 s z z z z z) z (.q z (.nil ?_))))
     refine .cs z h ?_ ?_ <;> intro h
     ·refine .region (.q z (.s (fa f70_2 z z z) z (.s (ld t3 s z z z z z) z (bv h λd2 hd2 h=>.s (fr hd2 z z z) z (.q z (.q z (.nil ?_)))))))
      cases h
      exact ⟨z,sb z,s.tk [0,0,0,0]⟩
     refine .skip ?_
     cases h
     exact ⟨z,sb z,s.tk [0,0,0,0]⟩
    intro x E W hJ
    obtain ⟨rfl,hE,s⟩:=hJ
    refine ⟨_,hE.sub,?_⟩
    refine .g (.q z (bv h λx2 hx2 h=>.s (ixa hx2 u146 t145 z z z) z (.s (ldx s.p2 hx2 (λ_=>z) t145 z z z z z) z (.q z (.q z (bv h λx3 hx3 h=>.s (ixa hx3 u146 t145 z z z) z (.c (.stx (x1:=bA .or .u16 x2 y8) hx3 s.p2 (λ_=>z) t145 z z z z ?_))))))))
    intro W s
    refine .nil (.g (.q z (bv h λy9 hy9 h=>.c (.cV s func178 (qD hy9) z z ?_))))
    intro v2 W s
    refine .s (aJ s.lv u23 z z) z (.qn z (.block (bv h λy10 hy10 h=>?_)))
    refine .via (.iter (λs2 E' W'=>al E' [(0,(sv v_0)),(2,Pt g1),(3,Pt g2),(4,(sv v1)),(7,vi y6),(13,(sv v_0)),(14,vi (a0.length:Int)),(15,vi s1.1),(46,(sv v2)),(47,vi (y9.length:Int)),(48,vi s2.1)]/\Sep No w W' [ac (sv v2) 3 1 (D.int .i64) y9,.box g2 146 (iv s2.2),.box g3 70 [vi x1.Op,vi x1.Dst,vi x1.A,vi x1.B,vi x1.N],ac (sv v1) 145 1 (D.int .u16) y1,.box g1 146 (iv (λ_=>0))]) (λy11 x E' W'=>x=.exit 2/\al E' [(0,(sv v_0)),(2,Pt g1),(3,Pt g2),(4,(sv v1)),(13,(sv v_0)),(14,vi (a0.length:Int)),(15,vi s1.1)]/\Sep No w W' [ac (sv v2) 3 1 (D.int .i64) y9,.box g2 146 (iv y11),.box g3 70 [vi x1.Op,vi x1.Dst,vi x1.A,vi x1.B,vi x1.N],ac (sv v1) 145 1 (D.int .u16) y1,.box g1 146 (iv (λ_=>0))]) hy10 ⟨sb z,s.tk [0,0,0,0,0]⟩ ?_) ?_
    ·intro s2 y12 E W h hI
     obtain ⟨hE,s⟩:=hI
     refine CW.sub hE ?_
     unfold jK at h
     refine .g (.qn z (.seq ?_))
     refine .cs z h ?_ ?_ <;> intro h
     ·refine .skip (.seq (.block (.g (bv h λx4 hx4 h=>.s (ixv s.lv hx4 u23 t3 z z z) z (.s (lde (RV.flat s.lv hx4 z) t3 z z z z z) z (.qn z (.rk 7 s [0,0,0,0,0] T.mix ?_)))))))
      intro W s
      have t:=s.to [0,0,0,0,0]
      refine .tp' 0 z z t (bv h λx5 hx5 h=>.ts' 1 z (λW t=>ixa hx5 u146 t145 z z z) t z (.ts' 2 z (λW t=>ldx t.p1 hx5 (λ_=>z) t145 z z z z z) t z (.tp' 3 z z t (bv h λd3 hd3 h=>.ts' 4 z (λW t=>fr hd3 z z z) t z (.tp' 5 z z t (bv h λx6 hx6 h=>.ts' 6 z (λW t=>ixa hx6 u146 t145 z z z) t z (.by1 7 z (.stx (x1:=bA .or .u16 x5 d3) hx6 s.p1 (λ_=>z) t145 z z z z ?_))))))))
      intro W s
      refine ⟨λh=>absurd z h,?_⟩
      refine .done (.region (.q z (.q z (.nil ?_))))
      cases h
      exact ⟨z,sb z,s.tk [1,0,0,0,0]⟩
     refine .exit ?_
     cases h
     exact ⟨by simp,z,sb z,s.tk [0,0,0,0,0]⟩
    intro x E W hJ
    obtain ⟨rfl,hE,s⟩:=hJ
    refine ⟨_,hE.sub,?_⟩
    obtain rfl:=o9 h
    exact ⟨z,sb z,s.tk [3,1,2]⟩
   intro x E W hJ
   obtain ⟨rfl,hE,s⟩:=hJ
   refine ⟨_,hE.sub,?_⟩
   refine .region (.q z (.q z (.nil ?_)))
   cases h
   exact ⟨z,sb z,s.tk [0,0,0]⟩
  refine .exit ?_
  cases h
  exact ⟨by simp,z,sb z,s.tk [0,0,0]⟩
 intro x E W hJ
 obtain ⟨rfl,hE,s⟩:=hJ
 refine ⟨_,hE.sub,?_⟩
 refine .g (.s (lda t146 s.p1 (wL _) z z) z (.c (.sta t146 s.p2 wL Ax z z z ?_)))
 intro W s
 obtain rfl:=o9 h
 exact .nil (.ret (aa () (rc s t146 z rn (wL _) z) z (s.to [])))
theorem tw {a0:List ab} {v_0:Hd} {w:World} {r:(List Int)} (h:iL a0=some r) (q_0:RO w v_0 70 5 ae a0):CL 68 #[sv v_0] w (Ret No w (λs:Hd=>(sv s)) (λs=>[ac (sv s) 3 1 (D.int .i64) r])):=by
 unfold iL at h
 refine ao func68 z z ?_
 have s:=Sep.start w
 refine .g (.qn z (.g (.q z (bv h λy1 hy1 h=>.c (.cO s func127 (tv hy1 (s.keep q_0)) z z ?_)))))
 intro W s
 refine .c (.alloc t146 s ?_)
 intro g1 W s
 have s:Sep _ _ _ [.box g1 146 (iv (λ_=>0))]:=id s
 refine .c (.sta t146 s wL Ax z z z ?_)
 intro W s
 refine .nil (.g (bv h λr1 hr1 h=>.c (.mkv 0 (D.int .i64) hr1 u23 t3 s z z z z z (λ_=>z) ?_)))
 intro v1 W s
 refine .qn z (.seq (.g (.q z (.s (aJ s.lv u23 z z) z (.qn z (.block (bv h λy2 hy2 h=>?_)))))))
 refine .via (.iter (λs1 E' W'=>al E' [(3,Pt g1),(4,(sv v1)),(12,vi (r1.length:Int)),(13,vi s1.1)]/\Sep No w W' [ac (sv v1) 3 1 (D.int .i64) s1.2,.box g1 146 (iv y1)]) (λy3 x E' W'=>x=.exit 0/\al E' [(4,(sv v1))]/\Sep No w W' [ac (sv v1) 3 1 (D.int .i64) y3,.box g1 146 (iv y1)]) hy2 ⟨sb z,s.tk [0,0]⟩ ?_) ?_
 ·intro s1 y4 E W h hI
  obtain ⟨hE,s⟩:=hI
  refine CW.sub hE ?_
  unfold mq at h
  refine .g (.qn z (.seq ?_))
  refine .cs z h ?_ ?_ <;> intro h
  ·refine .skip (.seq (.block (.g (.q z (.qn z (.g (.qn z (.seq (.g (.q z (.qn z (.block (bv h λy5 hy5 h=>?_)))))))))))))
   refine .via (.iter (λs2 E' W'=>al E' [(3,Pt g1),(4,(sv v1)),(5,vi s1.1),(6,.int .u16 s2.1),(12,vi (r1.length:Int)),(13,vi s1.1),(16,vi s1.1),(17,vi s2.2)]/\Sep No w W' [ac (sv v1) 3 1 (D.int .i64) s1.2,.box g1 146 (iv y1)]) (λy6 x E' W'=>x=.exit 2/\al E' [(3,Pt g1),(4,(sv v1)),(5,vi s1.1),(6,.int .u16 y6),(12,vi (r1.length:Int)),(13,vi s1.1)]/\Sep No w W' [ac (sv v1) 3 1 (D.int .i64) s1.2,.box g1 146 (iv y1)]) hy5 ⟨sb z,s.tk [0,0]⟩ ?_) ?_
   ·intro s2 y7 E W h hI
    obtain ⟨hE,s⟩:=hI
    refine CW.sub hE ?_
    unfold mo at h
    refine .g (.qn z (.seq ?_))
    refine .cs z h ?_ ?_ <;> intro h
    ·refine .skip (bv h λy8 hy8 h=>?_)
     refine .seq (CW.via (R':=λx E' W'=>x=.normal/\al E' [(3,Pt g1),(4,(sv v1)),(5,vi s1.1),(6,.int .u16 y8),(12,vi (r1.length:Int)),(13,vi s1.1),(16,vi s1.1),(17,vi s2.2)]/\Sep No w W' [ac (sv v1) 3 1 (D.int .i64) s1.2,.box g1 146 (iv y1)]) ?_ ?_)
     ·have h:=hy8
      refine .block (.g (.q z (.qn z (.g (.q z (bv h λx1 hx1 h=>.s (ixa hx1 u146 t145 z z z) z (.s (ldx s.p1 hx1 (λ_=>z) t145 z z z z z) z (.q z (bv h λy9 hy9 h=>.c (.cO s func128 (iu hy9) z z ?_))))))))))
      intro W s
      refine .nil ?_
      refine .cs z h ?_ ?_ <;> intro h
      ·refine .region (.q z (.q z (.q z (bv h λx2 hx2 h=>.s (ixv s.lv hx2 u23 t3 z z z) z (.s (lde (RV.flat s.lv hx2 z) t3 z z z z z) z (bv h λd1 hd1 h=>.s (fr hd1 z z z) z (.q z (.q z (.nil ?_)))))))))
       cases h
       exact ⟨z,sb z,s.tk [0,0]⟩
      refine .skip ?_
      cases h
      exact ⟨z,sb z,s.tk [0,0]⟩
     intro x E W hJ
     obtain ⟨rfl,hE,s⟩:=hJ
     refine ⟨_,hE.sub,?_⟩
     refine .region (.q z (.q z (.nil ?_)))
     cases h
     exact ⟨z,sb z,s.tk [0,0]⟩
    refine .exit ?_
    cases h
    exact ⟨by simp,z,sb z,s.tk [0,0]⟩
   intro x E W hJ
   obtain ⟨rfl,hE,s⟩:=hJ
   refine ⟨_,hE.sub,?_⟩
   refine .block (bv h λy10 hy10 h=>?_)
   refine .via (.iter (λs3 E' W'=>al E' [(3,Pt g1),(4,(sv v1)),(5,vi s1.1),(6,.int .u16 y5),(12,vi (r1.length:Int)),(13,vi s1.1)]/\Sep No w W' [ac (sv v1) 3 1 (D.int .i64) s3,.box g1 146 (iv y1)]) (λy11 x E' W'=>x=.exit 4/\al E' [(3,Pt g1),(4,(sv v1)),(12,vi (r1.length:Int)),(13,vi s1.1)]/\Sep No w W' [ac (sv v1) 3 1 (D.int .i64) y11,.box g1 146 (iv y1)]) hy10 ⟨sb z,s.tk [0,0]⟩ ?_) ?_
   ·intro s3 y12 E W h hI
    obtain ⟨hE,s⟩:=hI
    refine CW.sub hE ?_
    unfold mp at h
    refine .seq (.g (.q z (.q z (.q z (bv h λx3 hx3 h=>.s (ixv s.lv hx3 u23 t3 z z z) z (.s (lde (RV.flat s.lv hx3 z) t3 z z z z z) z (bv h λy13 hy13 h=>.c (.cO s func128 (iu hy13) z z ?_))))))))
    intro W s
    refine .nil ?_
    refine .cs z h ?_ ?_ <;> intro h
    ·refine .skip (.block (.region (.q z (.q z (bv h λx4 hx4 h=>.s (ixv s.lv hx4 u23 t3 z z z) z (.s (lde (RV.flat s.lv hx4 z) t3 z z z z z) z (.q z (bv h λx5 hx5 h=>.s (ixv s.lv hx5 u23 t3 z z z) z (bv h λr2 hr2 h=>.c (.sev hr2 hx5 s t3 z z z z z z ?_))))))))))
     intro W s
     refine .nil ?_
     cases h
     exact ⟨z,sb z,s.tk [0,0]⟩
    refine .exit ?_
    cases h
    exact ⟨by simp,z,sb z,s.tk [0,0]⟩
   intro x E W hJ
   obtain ⟨rfl,hE,s⟩:=hJ
   refine ⟨_,hE.sub,?_⟩
   refine .region (.q z (.q z (.nil ?_)))
   cases h
   exact ⟨z,sb z,s.tk [0,0]⟩
  refine .exit ?_
  cases h
  exact ⟨by simp,z,sb z,s.tk [0,0]⟩
 intro x E W hJ
 obtain ⟨rfl,hE,s⟩:=hJ
 refine ⟨_,hE.sub,?_⟩
 obtain rfl:=o9 h
 exact .g (.q z (.qn z (.ret (aa v1 (rt z rn) z (s.tk [0])))))
theorem su {a0:List ab} {v_0:Hd} {w:World} {r:(List ab)×Bool} (h:fc a0=some r) (q_0:RO w v_0 70 5 ae a0):CL 36 #[sv v_0] w (Ret No w (λs:Hd=>.tuple #[sv s,.bool r.2]) (λs=>[ac (sv s) 70 5 ae r.1])):=by
 unfold fc at h
 refine ao func36 z z ?_
 have s:=Sep.start w
 refine .g (.q z (.qn z (.seq (.g (.q z (bv h λy1 hy1 h=>.c (.cO s func67 (bZ hy1 (s.keep q_0)) z z ?_)))))))
 intro W s
 refine .q z (.nil ?_)
 refine .cs z h ?_ ?_ <;> intro h
 ·refine .g (.q z (.qn z (.ret ?_)))
  have s:=s.nilv 70 5 ae
  cases h
  exact aa (vs:=[_,_]) aF (rt z (rt z rn)) z (s.tk [0])
 refine .skip (.g (.q z (bv h λy2 hy2 h=>.c (.cV s func68 (tw hy2 (s.keep q_0)) z z ?_))))
 intro v1 W s
 refine .qn z (.g (.q z (bv h λy3 hy3 h=>.c (.cV s func69 (a7 hy3 (s.keep q_0)) z z ?_))))
 intro v2 W s
 refine .qn z (.seq (.g (.q z (.s (aJ (s.keep q_0) u38 z z) z (.qn z (.block (bv h λy4 hy4 h=>?_)))))))
 refine .via (.iter (λs1 E' W'=>al E' [(4,(sv v1)),(5,(sv v2)),(15,(sv v_0)),(16,vi (a0.length:Int)),(17,vi s1.1)]/\Sep No w W' [ac (sv v2) 70 5 ae s1.2,ac (sv v1) 3 1 (D.int .i64) y2]) (λy5 x E' W'=>x=.exit 0/\al E' [(5,(sv v2))]/\Sep No w W' [ac (sv v2) 70 5 ae y5,ac (sv v1) 3 1 (D.int .i64) y2]) hy4 ⟨sb z,s.tk [0,0]⟩ ?_) ?_
 ·intro s1 y6 E W h hI
  obtain ⟨hE,s⟩:=hI
  refine CW.sub hE ?_
  unfold fQ at h
  refine .g (.qn z (.seq ?_))
  refine .cs z h ?_ ?_ <;> intro h
  ·refine .skip (.seq (.block (.g (.q z (bv h λx1 hx1 h=>.s (ixv (s.keep q_0) hx1 u38 t70 z z z) z (.s (lde (RV.flat (s.keep q_0) hx1 z) t70 z z z z z) z (.c (.alloc t70 s ?_))))))))
   intro g1 W s
   refine .q z (.c (.st t70 s z z z ?_))
   intro W s
   refine .nil (.rk 29 s [0,1] T.mix ?_)
   intro W s
   have t:=s.to [0,1]
   refine .tp' 0 z z t (.tp' 1 z z t (.tp' 2 z z t (.tp' 3 z z t (.tp' 4 z z t (.tp' 5 z z t (.tp' 6 z z t (.ts' 7 z (λW t=>fa f70_1 z z z) t z (.ts' 8 z (λW t=>ld t3 t z z z z z) t z (bv h λx2 hx2 h=>.ts' 9 z (λW t=>ixv s.p2.lv hx2 u23 t3 z z z) t z (.ts' 10 z (λW t=>lde (RV.flat t.p1.lv hx2 z) t3 z z z z z) t z (.tp' 11 z z t (.ts' 12 z (λW t=>fa f70_2 z z z) t z (.ts' 13 z (λW t=>ld t3 t z z z z z) t z (bv h λx3 hx3 h=>.ts' 14 z (λW t=>ixv s.p2.lv hx3 u23 t3 z z z) t z (.ts' 15 z (λW t=>lde (RV.flat t.p1.lv hx3 z) t3 z z z z z) t z (.tp' 16 z z t (.ts' 17 z (λW t=>fa f70_3 z z z) t z (.ts' 18 z (λW t=>ld t3 t z z z z z) t z (bv h λx4 hx4 h=>.ts' 19 z (λW t=>ixv s.p2.lv hx4 u23 t3 z z z) t z (.ts' 20 z (λW t=>lde (RV.flat t.p1.lv hx4 z) t3 z z z z z) t z (bv h λx5 hx5 h=>.ts' 21 z (λW t=>ixv s.p1.lv hx5 u38 t70 z z z) t z (.ts' 22 z (λW t=>fe f70_1 z z z) t z (bv h λr1 hr1 h=>.by1 23 z (.sev hr1 hx5 s.p1 t3 z z z z z z ?_))))))))))))))))))))))))
   intro W s
   refine s.an [1,1] λt=>bv h λx6 hx6 h=>.ts' 24 z (λW t=>ixv s.lv hx6 u38 t70 z z z) t z (.ts' 25 z (λW t=>fe f70_2 z z z) t z (bv h λr2 hr2 h=>.by1 26 z (.sev hr2 hx6 s t3 z z z z z z ?_)))
   intro W s
   refine s.an [1,1] λt=>bv h λx7 hx7 h=>.by1 27 z (.runs (ixv s.lv hx7 u38 t70 z z z) z z ?_)
   refine s.an [1,1] λt=>.ts' 28 z (λW t=>fe f70_3 z z z) t z (bv h λr3 hr3 h=>.by1 29 z (.sev hr3 hx7 s t3 z z z z z z ?_))
   intro W s
   refine ⟨λh=>absurd z h,?_⟩
   refine .done (.region (.q z (.q z (.nil ?_))))
   cases h
   exact ⟨z,sb z,s.tk [0,1]⟩
  refine .exit ?_
  cases h
  exact ⟨by simp,z,sb z,s.tk [0,0]⟩
 intro x E W hJ
 obtain ⟨rfl,hE,s⟩:=hJ
 refine ⟨_,hE.sub,?_⟩
 cases h
 exact .g (.q z (.q z (.qn z (.ret (aa (vs:=[_,_]) v2 (rt z (rt z rn)) z (s.tk [0]))))))
def sw (w:World) (r:(List (List ab))×Bool):Env->World->Prop:=Fin Tryz.prog Tryz.f10 No w (λs:Hd=>.tuple #[sv s,.bool r.2]) (λs=>[ac (sv s) 38 1 (λ(l:List ab)=>D.row 70 5 (l.map ae)) r.1]) .ret
theorem nF {k:Nat} {a0:aA} {a1:Int} {aN:Hd} {aG:Hd} {w:World} {r:(List (List ab))×Bool} (h:dc k a0 a1=some r) (cL:RO w aN 3 1 (D.int .i64) a0.Rooms) (aI:RO w aG 93 1 (λ(l:List ah)=>D.row 95 8 (l.map ak)) a0.Tasks):CL 10 #[.agg #[sv aN,sv aG],vi a1] w (Ret No w (λs:Hd=>.tuple #[sv s,.bool r.2]) (λs=>[ac (sv s) 38 1 (λ(l:List ab)=>D.row 70 5 (l.map ae)) r.1])):=by
 unfold dc at h
 refine ao func10 z z ?_
 have s:=Sep.start w
 refine .g (.c (.box s z z ?_))
 intro g1 W s
 refine .q z (.qn z (.g (.s (ld t26 s z z z z z) z (bv h λy1 hy1 h=>.c (.cV s func34 (oS hy1 (s.keep cL) (s.keep aI)) z z ?_)))))
 intro v1 W s
 refine .q z (.q z (.q z (.q z (.qn z (.seq (.g (.q z (.q z (.nil ?_)))))))))
 refine .cs z h ?_ ?_ <;> intro h
 ·refine .g (.q z (.qn z (.ret ?_)))
  have s:=s.nilv 38 1 (λ(l:List ab)=>D.row 70 5 (l.map ae))
  cases h
  exact aa (vs:=[_,_]) aF (rt z (rt z rn)) z (s.tk [0])
 refine .skip (.g (.q z (.q z (bv h λy2 hy2 h=>.c (.cV s func35 (qC hy2 s.lv) z z ?_)))))
 intro v2 W s
 refine .q z (.q z (.q z (.q z (.qn z (.seq (.g (.q z (.q z (.nil ?_)))))))))
 refine .cs z h ?_ ?_ <;> intro h
 ·refine .g (.q z (.qn z (.ret ?_)))
  have s:=s.nilv 38 1 (λ(l:List ab)=>D.row 70 5 (l.map ae))
  cases h
  exact aa (vs:=[_,_]) aF (rt z (rt z rn)) z (s.tk [0])
 refine .skip (.seq (.g (.q z (.s (aJ s.lv u32 z z) z (.qn z (.block (bv h λy3 hy3 h=>?_)))))))
 refine .via (.iter (λs1 E' W'=>al E' [(6,(sv v2)),(25,(sv v2)),(26,vi (y2.1.length:Int)),(27,vi s1.1)]/\Sep No w W' [ac (sv v2) 38 1 (λ(l:List ab)=>D.row 70 5 (l.map ae)) s1.2,ac (sv v1) 38 1 (λ(l:List ab)=>D.row 70 5 (l.map ae)) y1.1,.box g1 26 [sv aN,sv aG]]) (λy4 x E' W'=>(match y4 with | .inl o1=>x=.ret/\sw w o1 E' W' | .inr o2=>x=.exit 0/\al E' [(6,(sv v2))]/\Sep No w W' [ac (sv v2) 38 1 (λ(l:List ab)=>D.row 70 5 (l.map ae)) o2,ac (sv v1) 38 1 (λ(l:List ab)=>D.row 70 5 (l.map ae)) y1.1,.box g1 26 [sv aN,sv aG]])) hy3 ⟨sb rfl,s.tk [0,0,0]⟩ ?_) ?_
 ·intro s1 y5 E W h hI
  obtain ⟨hE,s⟩:=hI
  refine CW.sub hE ?_
  unfold k8 at h
  refine .g (.qn z (.seq ?_))
  refine .cs z h ?_ ?_ <;> intro h
  ·refine .skip (.seq (.block (.g (.q z (bv h λx1 hx1 h=>.s (ixv s.lv hx1 u32 t38 z z z) z ?_)))))
   obtain ⟨k1,s⟩:=Sep.ov s hx1
   obtain ⟨v3,k1,rfl,s⟩:=s.ow
   obtain ⟨rfl,s⟩:=s.oN
   refine .s (lde (s.p1.hcellsv) t38 z z z z z) z (.q z (.qn z (.g (.q z (.q z (.q z (bv h λy6 hy6 h=>.c (.cV s func36 (su hy6 s.lv) z z ?_))))))))
   intro v4 W s
   refine .q z (.q z (.q z (.s (ixh s.p2 hx1 u32 t38 z z z) z (.c (.sthv s.p2 t38 z z z ?_)))))
   intro W s
   refine .qn z (.g (.q z (.q z (.nil ?_))))
   refine .cs z h ?_ ?_ <;> intro h
   ·refine .g (.q z (.qn z (.ret ?_)))
    have s:=s.nilv 38 1 (λ(l:List ab)=>D.row 70 5 (l.map ae))
    cases h
    exact ⟨by simp,z,aa (vs:=[_,_]) aF (rt z (rt z rn)) z (s.tk [0])⟩
   refine .skip (.region (.q z (.q z (.nil ?_))))
   have s:=Sep.gat (ds:=[.row 70 5 (y6.1.map ae)]) (cs:=[sv v4]) (L1:=[ac (sv v4) 70 5 ae y6.1]) (.row (.nil)) (s.to [1,0,0,0,0])
   have s:Sep _ _ _ [ac (sv v2) 38 1 (λ(l:List ab)=>D.row 70 5 (l.map ae)) (s1.2.set (Int.toNat s1.1) y6.1),ac (sv v3) 70 5 ae x1,ac (sv v1) 38 1 (λ(l:List ab)=>D.row 70 5 (l.map ae)) y1.1,.box g1 26 [sv aN,sv aG]]:=s.bv
   cases h
   exact ⟨z,sb z,s.tk [0,1,1]⟩
  refine .exit ?_
  cases h
  exact ⟨by simp,z,sb z,s.tk [0,0,0]⟩
 intro x E W hJ
 rcases y3 with o3 | o4
 ·have h:=dG h
  obtain ⟨rfl,hF⟩:=hJ
  refine ⟨_,λ_ _ h=>h,?_⟩
  cases h
  exact hF
 have h:=dH h
 obtain ⟨rfl,hE,s⟩:=hJ
 refine ⟨_,hE.sub,?_⟩
 cases h
 exact .g (.q z (.q z (.qn z (.ret (aa (vs:=[_,_]) v2 (rt z (rt z rn)) z (s.tk [0]))))))
theorem bu {a0:bz} {a1:List Instr} {bT:Hd} {g_0:Nat} {v_1:Hd} {S:Nat->Prop} {w:World} {r:(List Instr)} (h:bi a0 a1=some r) (q_1:RV w (Old S w) (sv v_1) 74 5 ai a1) (hO:bw w [ac (sv bT) 74 5 ai a0.list,.box g_0 104 [vi a0.colors,sv bT]] S) (hlt:∀ b,S b->b<w.heap.size):CL 78 #[Pt g_0,sv v_1] w (Ret S w (λs:Hd=>.tuple #[]) (λs=>[.box g_0 104 [vi a0.colors,sv s],ac (sv s) 74 5 ai r])):=by
 unfold bi at h
 refine ao func78 z z ?_
 have s:=Sep.sm hO hlt
 refine .region (.q z (.q z (.q z (.s (fa f104_1 z z z) z (.s (ld t35 s.p1 z z z z z) z (.q z (bv h λr1 hr1 h=>.c (.av hr1 s (s.keep q_1) (λ_=>z) u35 t74 z z z ?_))))))))
 intro v1 W s
 refine .q z (.s (fa f104_1 z z z) z (.c (.st t35 s.p1 z z z ?_)))
 intro W s
 obtain rfl:=o9 h
 exact .nil (aa (vs:=[]) v1 (rn) z (s.tk [0,0]))
theorem ft {a0:bz} {a1:Int} {a2:Int->Option (List Instr)} {bT:Hd} {g_0:Nat} {f_2:FuncId} {c_2:Array Value} {S:Nat->Prop} {w:World} {r:(List Instr)} (h:ca a0 a1 a2=some r) (n_2:C5 Tryz.prog f_2) (k_2:∀ {W:World} {b0:Int} {r:List Instr},fu (Old S w) w W->Gl W->a2 b0=some r->CL f_2 (([vi b0]:List Value)++c_2.toList).toArray W (Ret No W (λs:Hd=>(sv s)) (λs=>[ac (sv s) 74 5 ai r]))) (hO:bw w [ac (sv bT) 74 5 ai a0.list,.box g_0 104 [vi a0.colors,sv bT]] S) (hlt:∀ b,S b->b<w.heap.size) (hG:Gl w) (hM:∀ g,g<NGl->¬ S g):CL 70 #[Pt g_0,vi a1,.func (.func f_2) #[] c_2] w (Ret S w (λs:Hd=>.tuple #[]) (λs=>[.box g_0 104 [vi a0.colors,sv s],ac (sv s) 74 5 ai r])):=by
 unfold ca at h
 refine ao func70 z z ?_
 have s:=Sep.sm hO hlt
 refine .seq (.g (.q z (.q z (.q z (.s (fa f104_0 z z z) z (.s (ld t3 s.p1 z z z z z) z (.qn z (.cond z (λb=>?_) (λb=>?_)))))))))
 ·have h:=aC b h
  refine .g (.q z (.q z (.q z (bv h λx1 hx1 h=>.s (ixt hx1 z u149 t3 z z z) z (.s (ldt (hG.at s hM).2.2.1 hx1 t3 z z z z z) z (bv h λy1 hy1 h=>.c (.callv (vs:=[vi x1]) s n_2 (k_2 s.agree (hG.at s hM) hy1) z z z ?_)))))))
  intro v1 W s
  refine bv h λy2 hy2 h=>?_
  have s:=s.p2.p2
  refine .c (.cS (L0:=[ac (sv bT) 74 5 ai a0.list,.box g_0 104 [vi a0.colors,sv bT]]) s func78 (λS h1 h2 h3=>(bu hy2 (h3.rdv (k:=0) z) h2 (zz h1))) z z ?_)
  rintro v2 W s
  obtain rfl:=o9 h
  exact .nil (.ret (aa (vs:=[]) v2 (rn) z (s.tk [0,0])))
 have h:=aD b h
 refine .skip (.g (.q z (.q z (bv h λy3 hy3 h=>.c (.callv (vs:=[vi 7]) s n_2 (k_2 s.agree (hG.at s hM) hy3) z z z ?_)))))
 intro v3 W s
 refine bv h λy4 hy4 h=>?_
 have s:=s.p2.p2
 refine .c (.cS (L0:=[ac (sv bT) 74 5 ai a0.list,.box g_0 104 [vi a0.colors,sv bT]]) s func78 (λS h1 h2 h3=>(bu hy4 (h3.rdv (k:=0) z) h2 (zz h1))) z z ?_)
 rintro v4 W s
 refine .nil (.region (.q z (.q z (.q z (.q z (.s (fa f104_0 z z z) z (.s (ld t3 s z z z z z) z (.q z (.q z (.s (bs T.s74 z z) z (.c (.liv [(Instr.mk 16 0 2 7 (w64 (4*(w64 (a1-a0.colors)))))] ai u35 t74 s z z z z ?_ z (λ_=>z)))))))))))))
 intro v5 W s
 refine bv h λy5 hy5 h=>?_
 have s:=s.p1.p2
 refine .c (.cS (L0:=[ac (sv v4) 74 5 ai y4,.box g_0 104 [vi a0.colors,sv v4]]) s func78 (λS h1 h2 h3=>(bu hy5 (h3.rdv (k:=0) z) h2 (zz h1))) z z ?_)
 rintro v6 W s
 obtain rfl:=o9 h
 exact .nil (aa (vs:=[]) v6 (rn) z (s.tk [0,0]))
theorem cM {a0:bz} {a1:Int} {a2:Int} {bT:Hd} {g_0:Nat} {S:Nat->Prop} {w:World} {r:Int×(List Instr)} (h:bK a0 a1 a2=some r) (hO:bw w [ac (sv bT) 74 5 ai a0.list,.box g_0 104 [vi a0.colors,sv bT]] S) (hlt:∀ b,S b->b<w.heap.size) (hG:Gl w) (hM:∀ g,g<NGl->¬ S g):CL 73 #[Pt g_0,vi a1,vi a2] w (Ret S w (λs:Hd=>.int .i64 r.1) (λs=>[.box g_0 104 [vi a0.colors,sv s],ac (sv s) 74 5 ai r.2])):=by
 unfold bK at h
 refine ao func73 z z ?_
 have s:=Sep.sm hO hlt
 refine .g (.qn z (.seq (.g (.q z (.q z (.q z (.s (fa f104_0 z z z) z (.s (ld t3 s.p1 z z z z z) z (.qn z (.cond z (λb=>?_) (λb=>?_)))))))))))
 ·have h:=aC b h
  refine .g (.q z (bv h λx1 hx1 h=>.s (ixt hx1 z u149 t3 z z z) z (.s (ldt (hG.at s hM).2.2.1 hx1 t3 z z z z z) z (.qn z (.ret ?_)))))
  cases h
  exact aa bT (rt z rn) z (s.tk [1,0])
 have h:=aD b h
 refine .skip (.g (.q z (.q z (.q z (.q z (.q z (.s (fa f104_0 z z z) z (.s (ld t3 s.p1 z z z z z) z (.q z (.q z (.s (bs T.s74 z z) z (.c (.liv [(Instr.mk 14 a2 2 0 (w64 (4*(w64 (a1-a0.colors)))))] ai u35 t74 s z z z z ?_ z (λ_=>z))))))))))))))
 intro v1 W s
 refine bv h λy1 hy1 h=>?_
 have s:=s.p2.p2
 refine .c (.cS (L0:=[ac (sv bT) 74 5 ai a0.list,.box g_0 104 [vi a0.colors,sv bT]]) s func78 (λS h1 h2 h3=>(bu hy1 (h3.rdv (k:=0) z) h2 (zz h1))) z z ?_)
 rintro v2 W s
 cases h
 exact .nil (.g (.q z (.qn z (.ret (aa v2 (rt z rn) z (s.tk [0,0]))))))
theorem eG {a0:Int} {a1:Int} {a2:Int} {w:World} {r:Instr} (h:dl a0 a1 a2=some r):CL 75 #[vi a0,vi a1,vi a2] w (RU w (.agg #[vi r.Op,vi r.Rd,vi r.Rs,vi r.Rt,vi r.Imm])):=by
 unfold dl at h
 refine ao func75 z z ?_
 have s:=Sep.start w
 refine .g (.c (.alloc t74 s ?_))
 intro g1 W s
 refine .nil (.g (.q z (.q z (.q z (.s (bs T.s74 z z) z (.c (.st t74 s z z z ?_)))))))
 intro W s
 cases h
 exact .nil (.ret (aa () (rc s t74 z rn z z) z (s.to [])))
theorem mM {a0:bz} {a1:Int} {bT:Hd} {g_0:Nat} {S:Nat->Prop} {w:World} {r:(List Instr)} (h:dN a0 a1=some r) (hO:bw w [ac (sv bT) 74 5 ai a0.list,.box g_0 104 [vi a0.colors,sv bT]] S) (hlt:∀ b,S b->b<w.heap.size):CL 77 #[Pt g_0,vi a1] w (Ret S w (λs:Hd=>.tuple #[]) (λs=>[.box g_0 104 [vi a0.colors,sv s],ac (sv s) 74 5 ai r])):=by
 unfold dN at h
 refine ao func77 z z ?_
 have s:=Sep.sm hO hlt
 refine .region (.q z (.q z (.q z (.q z (.s (fa f104_1 z z z) z (.s (ld t35 s.p1 z z z z z) z (.s (aJ s.lv u35 z z) z (.q z (.q z (.s (bs T.s74 z z) z (.c (.liv [(Instr.mk 20 0 0 0 (w64 (a1-(w64 (4*(a0.list.length:Int))))))] ai u35 t74 s z z z z ?_ z (λ_=>z)))))))))))))
 intro v1 W s
 refine bv h λy1 hy1 h=>?_
 have s:=s.p2.p2
 refine .c (.cS (L0:=[ac (sv bT) 74 5 ai a0.list,.box g_0 104 [vi a0.colors,sv bT]]) s func78 (λS h1 h2 h3=>(bu hy1 (h3.rdv (k:=0) z) h2 (zz h1))) z z ?_)
 rintro v2 W s
 obtain rfl:=o9 h
 exact .nil (aa (vs:=[]) v2 (rn) z (s.tk [0,0]))
theorem dK {a0:bz} {a1:Int} {bT:Hd} {g_0:Nat} {S:Nat->Prop} {w:World} {r:(List Instr)} (h:bX a0 a1=some r) (hO:bw w [ac (sv bT) 74 5 ai a0.list,.box g_0 104 [vi a0.colors,sv bT]] S) (hlt:∀ b,S b->b<w.heap.size):CL 79 #[Pt g_0,vi a1] w (Ret S w (λs:Hd=>.tuple #[]) (λs=>[.box g_0 104 [vi a0.colors,sv s],ac (sv s) 74 5 ai r])):=by
 unfold bX at h
 refine ao func79 z z ?_
 have s:=Sep.sm hO hlt
 refine .region (.q z (.q z (bv h λy1 hy1 h=>.c (.cO s func75 (eG hy1) z z ?_))))
 intro W s
 refine .s (bs T.s74 z z) z (.c (.liv [y1,(Instr.mk 15 1 0 0 0)] ai u35 t74 s z z z z ?_ z (λ_=>z)))
 intro v1 W s
 refine bv h λy2 hy2 h=>?_
 have s:=s.p2.p2
 refine .c (.cS (L0:=[ac (sv bT) 74 5 ai a0.list,.box g_0 104 [vi a0.colors,sv bT]]) s func78 (λS h1 h2 h3=>(bu hy2 (h3.rdv (k:=0) z) h2 (zz h1))) z z ?_)
 rintro v2 W s
 obtain rfl:=o9 h
 exact .nil (aa (vs:=[]) v2 (rn) z (s.tk [0,0]))
theorem rG {a0:Int} {a1:Int} {w:World} {r:Int} (h:iC a0 a1=some r):CL 129 #[vi a0,vi a1] w (RU w (.int .i64 r)):=by
 unfold iC at h
 refine ao func129 z z ?_
 have s:=Sep.start w
 refine .g (.qn z (.seq (.g (.q z (.q z (.q z (.cu 3 10 ((decide (a1<1))||(decide (a1>32))) s ?_ ?_)))))))
 ·refine .both (decide (a1<1)) (λb=>?_) (λb=>?_)
  ·exact .xx b z (.xx b z (.s (pkt b z z z) z (.nil (ck 3 s z (gY b)))))
  have hg1:=b
  exact .g hg1 (.q z (.g hg1 (.q z (.s (pkf hg1 z z z) z (.nil (ck 3 s z (gr hg1)))))))
 intro W s
 refine .q z (.cu 3 14 (((decide (a1<1))||(decide (a1>32)))||(decide (a0<0))) s ?_ ?_)
 ·refine .both ((decide (a1<1))||(decide (a1>32))) (λb=>?_) (λb=>?_)
  ·exact .xx b z (.xx b z (.s (pkt b z z z) z (.nil (ck 3 s z (gY b)))))
  have hg2:=b
  exact .g hg2 (.q z (.g hg2 (.q z (.s (pkf hg2 z z z) z (.nil (ck 3 s z (gr hg2)))))))
 intro W s
 refine .q z (bv h λb1 hb1 h=>.cu 5 20 (b1) s ?_ ?_)
 ·refine .both (((decide (a1<1))||(decide (a1>32)))||(decide (a0<0))) (λb=>?_) (λb=>?_)
  ·refine .xx b z (.xx b z (.xx b z (.xx b z ?_)))
   cases aC b hb1
   exact .s (pkt b z z z) z (.nil (ck 5 s))
  have hg3:=b
  have h:=aD b hb1
  refine .g hg3 (.q z (.g hg3 (.q z (bv h λd1 hd1 h=>.g hg3 (.s (fr hd1 z z z) z (.g hg3 (.q z (.s (pkf hg3 z z z) z ?_))))))))
  cases h
  exact .nil (ck 5 s)
 intro W s
 refine .nil ?_
 refine .cs z h ?_ ?_ <;> intro h
 ·cases h
  exact .g (.qn z (.ret (aa () (rt z rn) z (s.to []))))
 refine .skip (.seq (.g (.q z (.q z (.q z (bv h λd2 hd2 h=>.s (fr hd2 z z z) z (.q z (.nil ?_))))))))
 refine .cs z h ?_ ?_ <;> intro h
 ·refine .g (.q z (.q z (bv h λd3 hd3 h=>.s (fr hd3 z z z) z (.q z (.qn z (.ret ?_))))))
  cases h
  exact aa () (rt z rn) z (s.to [])
 obtain rfl:=o9 h
 exact .skip (.g (.q z (.qn z (.ret (aa () (rt z rn) z (s.to []))))))
theorem rH {a0:Int} {w:World} {r:Bool} (h:kI a0=some r):CL 179 #[vi a0] w (RU w (.bool r)):=by
 unfold kI at h
 refine ao func179 z z ?_
 have s:=Sep.start w
 refine .g (.qn z (.g (.q z (.q z (.q z (.cu 3 8 ((decide (a0>=0))&&(decide (a0<4294967296))) s ?_ ?_))))))
 ·refine .both (decide (a0>=0)) (λb=>?_) (λb=>?_)
  ·have hg1:=b
   exact .g hg1 (.q z (.g hg1 (.q z (.s (pkt hg1 z z z) z (.nil (ck 3 s z (bp hg1)))))))
  exact .xx b z (.xx b z (.s (pkf b z z z) z (.nil (ck 3 s z (bq b)))))
 intro W s
 cases h
 exact .qn z (.ret (aa () (rt z rn) z (s.to [])))
theorem sA {a0:Int} {a1:Int} {a2:Int} {w:World} {r:Int} (h:ln a0 a1 a2=some r):CL 130 #[vi a0,vi a1,vi a2] w (RU w (.int .i64 r)):=by
 unfold ln at h
 refine ao func130 z z ?_
 have s:=Sep.start w
 refine .g (.qn z (.seq (.g (.q z (bv h λy1 hy1 h=>.c (.cO s func179 (rH hy1) z z ?_))))))
 intro W s
 refine .q z (.q z (.cu 3 13 ((!y1)||(decide (a1<0))) s ?_ ?_))
 ·refine .both (!y1) (λb=>?_) (λb=>?_)
  ·exact .xx b z (.xx b z (.s (pkt b z z z) z (.nil (ck 3 s z (gY b)))))
  have hg1:=b
  exact .g hg1 (.q z (.g hg1 (.q z (.s (pkf hg1 z z z) z (.nil (ck 3 s z (gr hg1)))))))
 intro W s
 refine .q z (.cu 3 17 (((!y1)||(decide (a1<0)))||(decide (a1>31))) s ?_ ?_)
 ·refine .both ((!y1)||(decide (a1<0))) (λb=>?_) (λb=>?_)
  ·exact .xx b z (.xx b z (.s (pkt b z z z) z (.nil (ck 3 s z (gY b)))))
  have hg2:=b
  exact .g hg2 (.q z (.g hg2 (.q z (.s (pkf hg2 z z z) z (.nil (ck 3 s z (gr hg2)))))))
 intro W s
 refine .q z (.cu 3 21 ((((!y1)||(decide (a1<0)))||(decide (a1>31)))||(decide (a2<1))) s ?_ ?_)
 ·refine .both (((!y1)||(decide (a1<0)))||(decide (a1>31))) (λb=>?_) (λb=>?_)
  ·exact .xx b z (.xx b z (.s (pkt b z z z) z (.nil (ck 3 s z (gY b)))))
  have hg3:=b
  exact .g hg3 (.q z (.g hg3 (.q z (.s (pkf hg3 z z z) z (.nil (ck 3 s z (gr hg3)))))))
 intro W s
 refine .q z (.cu 5 27 (((((!y1)||(decide (a1<0)))||(decide (a1>31)))||(decide (a2<1)))||(decide (a2>(w64 (32-a1))))) s ?_ ?_)
 ·refine .both ((((!y1)||(decide (a1<0)))||(decide (a1>31)))||(decide (a2<1))) (λb=>?_) (λb=>?_)
  ·exact .xx b z (.xx b z (.xx b z (.xx b z (.s (pkt b z z z) z (.nil (ck 5 s z (gY b)))))))
  have hg4:=b
  exact .g hg4 (.q z (.g hg4 (.q z (.g hg4 (.q z (.g hg4 (.q z (.s (pkf hg4 z z z) z (.nil (ck 5 s z (gr hg4)))))))))))
 intro W s
 refine .nil ?_
 refine .cs z h ?_ ?_ <;> intro h
 ·cases h
  exact .g (.qn z (.ret (aa () (rt z rn) z (s.to []))))
 refine .skip (.seq (.rk 8 s [] T.mix ?_))
 intro W s
 have t:=s.to []
 refine .tp' 0 z z t (.tp' 1 z z t (bv h λd1 hd1 h=>.ts' 2 z (λW t=>fr hd1 z z z) t z (.tp' 3 z z t (bv h λd2 hd2 h=>.ts' 4 z (λW t=>fr hd2 z z z) t z (.tp' 5 z z t (.tp' 6 z z t (.tp' 7 z z t (.done (.ret ?_)))))))))
 cases h
 exact aa () (rt z rn) z (s.to [])
theorem oz {a0:Int} {w:World} {r:Int} (h:iM a0=some r):CL 131 #[vi a0] w (RU w (.int .i64 r)):=by
 unfold iM at h
 refine ao func131 z z ?_
 have s:=Sep.start w
 refine .g (.qn z (.seq (.g (.q z (bv h λy1 hy1 h=>.c (.cO s func173 (nV hy1) z z ?_))))))
 intro W s
 refine .q z (.nil ?_)
 refine .cs z h ?_ ?_ <;> intro h
 ·cases h
  exact .g (.qn z (.ret (aa () (rt z rn) z (s.to []))))
 cases h
 exact .skip (.g (.q z (.s (cv u3 u194 z z) z (.s (cv u194 u3 z z) z (.qn z (.ret (aa () (rt z rn) z (s.to []))))))))
theorem qE {a0:Int} {a1:Int} {w:World} {r:(List Instr)} (h:gK a0 a1=some r):CL 72 #[vi a0,vi a1] w (Ret No w (λs:Hd=>(sv s)) (λs=>[ac (sv s) 74 5 ai r])):=by
 unfold gK at h
 refine ao func72 z z ?_
 have s:=Sep.start w
 refine .g (.qn z (.seq (.g (.q z (.q z (.q z (.cu 3 12 ((decide (a1>=(-2048)))&&(decide (a1<=2047))) s ?_ ?_)))))))
 ·refine .both (decide (a1>=(-2048))) (λb=>?_) (λb=>?_)
  ·have hg1:=b
   exact .g hg1 (.q z (.g hg1 (.q z (.s (pkt hg1 z z z) z (.nil (ck 3 s z (bp hg1)))))))
  exact .xx b z (.xx b z (.s (pkf b z z z) z (.nil (ck 3 s z (bq b)))))
 intro W s
 refine .nil ?_
 refine .cs z h ?_ ?_ <;> intro h
 ·refine .g (.q z (.q z (bv h λy1 hy1 h=>.c (.cO s func75 (eG hy1) z z ?_))))
  intro W s
  refine .c (.liv [y1] ai u35 t74 s z z z z ?_ z (λ_=>z))
  intro v1 W s
  cases h
  exact .qn z (.ret (aa v1 (rt z rn) z (s.tk [0])))
 refine .skip (.g (.q z (bv h λy2 hy2 h=>.c (.cO s func131 (oz hy2) z z ?_))))
 intro W s
 refine bv h λy3 hy3 h=>.c (.cO s func130 (sA hy3) z z ?_)
 intro W s
 refine bv h λy4 hy4 h=>.c (.cO s func129 (rG hy4) z z ?_)
 intro W s
 refine .qn z (.g (.q z (.q z (.q z (bv h λy5 hy5 h=>.c (.cO s func92 (j2 hy5) z z ?_))))))
 intro W s
 refine bv h λy6 hy6 h=>.c (.cO s func131 (oz hy6) z z ?_)
 intro W s
 refine bv h λy7 hy7 h=>.c (.cO s func130 (sA hy7) z z ?_)
 intro W s
 refine .qn z (.g (.q z (.q z (.s (bs T.s74 z z) z (.q z (.q z (.q z (bv h λy8 hy8 h=>.c (.cO s func75 (eG hy8) z z ?_)))))))))
 intro W s
 refine .c (.liv [(Instr.mk 19 a0 0 0 y7),y8] ai u35 t74 s z z z z ?_ z (λ_=>z))
 intro v2 W s
 cases h
 exact .qn z (.ret (aa v2 (rt z rn) z (s.tk [0])))
theorem pV {a0:Int} {a1:ab} {g_1:Nat} {w:World} {r:(List Instr)} (h:iW a0 a1=some r) (b_1:BR w (Old No w) g_1 70 [vi a1.Op,vi a1.Dst,vi a1.A,vi a1.B,vi a1.N]):CL 71 #[vi a0,Pt g_1] w (Ret No w (λs:Hd=>(sv s)) (λs=>[ac (sv s) 74 5 ai r])):=by
 unfold iW at h
 refine ao func71 z z ?_
 have s:=Sep.start w
 refine .g (.qn z (.g (.q z (.s (fa f70_4 z z z) z (.s (ldb t3 (s.keepB b_1) z z z z z) z (bv h λy1 hy1 h=>.c (.cV s func72 (qE hy1) z z ?_)))))))
 intro v1 W s
 obtain rfl:=o9 h
 exact .qn z (.ret (aa v1 (rt z rn) z (s.tk [0])))
theorem pW {a0:Int} {a1:Int} {g_1:Nat} {w:World} {r:(List Instr)} (h:iX a0 a1=some r) (b_1:BR w (Old No w) g_1 3 [vi a1]):CL 74 #[vi a0,Pt g_1] w (Ret No w (λs:Hd=>(sv s)) (λs=>[ac (sv s) 74 5 ai r])):=by
 unfold iX at h
 refine ao func74 z z ?_
 have s:=Sep.start w
 refine .g (.qn z (.g (.q z (.s (ldb t3 (s.keepB b_1) z z z z z) z (bv h λy1 hy1 h=>.c (.cO s func75 (eG hy1) z z ?_))))))
 intro W s
 refine .c (.liv [y1] ai u35 t74 s z z z z ?_ z (λ_=>z))
 intro v1 W s
 cases h
 exact .qn z (.ret (aa v1 (rt z rn) z (s.tk [0])))
theorem pX {a0:Int} {a1:ab} {a2:Int} {a3:Int} {g_1:Nat} {g_2:Nat} {g_3:Nat} {w:World} {r:(List Instr)} (h:iY a0 a1 a2 a3=some r) (b_1:BR w (Old No w) g_1 70 [vi a1.Op,vi a1.Dst,vi a1.A,vi a1.B,vi a1.N]) (b_2:BR w (Old No w) g_2 3 [vi a2]) (b_3:BR w (Old No w) g_3 3 [vi a3]) (hG:Gl w):CL 76 #[vi a0,Pt g_1,Pt g_2,Pt g_3] w (Ret No w (λs:Hd=>(sv s)) (λs=>[ac (sv s) 74 5 ai r])):=by
 unfold iY at h
 refine ao func76 z z ?_
 have s:=Sep.start w
 refine .g (.qn z (.seq (.rk 11 s [] T.mix ?_)))
 intro W s
 have t:=s.to []
 refine .ts' 0 z (λW t=>fa f70_4 z z z) t z (.ts' 1 z (λW t=>ldb t3 (t.keepB b_1) z z z z z) t z (.tp' 2 z z t (bv h λx1 hx1 h=>.ts' 3 z (λW t=>ixt hx1 z u110 t3 z z z) t z (.ts' 4 z (λW t=>ldt (hG.at t (λ_ _ h=>h)).1 hx1 t3 z z z z z) t z (.tp' 5 z z t (.ts' 6 z (λW t=>ldb t3 (t.keepB b_2) z z z z z) t z (.ts' 7 z (λW t=>ldb t3 (t.keepB b_3) z z z z z) t z (.ts' 8 z (λW t=>bs T.s74 z z) t z (.by1 9 z (.liv [(Instr.mk x1 a0 a2 a3 0)] ai u35 t74 s z z z z ?_ z (λ_=>z)))))))))))
 intro v1 W s
 refine s.an [] λt=>.tp' 10 z z t (.done (.seq (.g (.s (fa f70_4 z z z) z (.s (ldb t3 (s.keepB b_1) z z z z z) z (.q z (.nil ?_)))))))
 refine .cs z h ?_ ?_ <;> intro h
 ·refine .region (.q z (.q z (.q z (.s (bs T.s74 z z) z (.c (.liv [(Instr.mk 13 a0 a0 0 1)] ai u35 t74 s z z z z ?_ z (λ_=>z)))))))
  intro v2 W s
  refine bv h λr1 hr1 h=>?_
  have hT0:=s.p1
  refine .c (.av hr1 hT0 hT0.p1.lv (λ_=>z) u35 t74 z z z ?_)
  intro v3 W s
  obtain rfl:=o9 h
  exact .qn z (.g (.q z (.qn z (.ret (aa v3 (rt z rn) z (s.tk [0]))))))
 cases h
 exact .skip (.g (.q z (.qn z (.ret (aa v1 (rt z rn) z (s.tk [0]))))))
theorem pY {a0:Int} {w:World} {r:(List Instr)} (h:iZ a0=some r):CL 80 #[vi a0] w (Ret No w (λs:Hd=>(sv s)) (λs=>[ac (sv s) 74 5 ai r])):=by
 unfold iZ at h
 refine ao func80 z z ?_
 have s:=Sep.start w
 refine .g (.qn z (.g (.q z (bv h λy1 hy1 h=>.c (.cO s func75 (eG hy1) z z ?_)))))
 intro W s
 refine .c (.liv [y1] ai u35 t74 s z z z z ?_ z (λ_=>z))
 intro v1 W s
 cases h
 exact .qn z (.ret (aa v1 (rt z rn) z (s.tk [0])))
theorem nG {a0:ab} {a1:Int} {a2:Int} {w:World} {r:(List Instr)} (h:fy a0 a1 a2=some r) (hG:Gl w):CL 39 #[.agg #[vi a0.Op,vi a0.Dst,vi a0.A,vi a0.B,vi a0.N],vi a1,vi a2] w (Ret No w (λs:Hd=>(sv s)) (λs=>[ac (sv s) 74 5 ai r])):=by
 unfold fy at h
 refine ao func39 z z ?_
 have s:=Sep.start w
 refine .g (.c (.box s z z ?_))
 intro g1 W s
 refine .qn z (.g (.q z (.s (bs T.s104 z z) z (.c (.box s z z ?_)))))
 intro g2 W s
 refine .qn z (bv h λy1 hy1 h=>?_)
 refine .seq (CW.via (R':=λx E' W'=>x=.normal/\∃ (v1:Hd),al E' [(7,Pt g2)]/\Sep No w W' [.box g2 104 [vi a1,sv v1],.box g1 70 [vi a0.Op,vi a0.Dst,vi a0.A,vi a0.B,vi a0.N],ac (sv v1) 74 5 ai y1]) ?_ ?_)
 ·have h:=hy1
  refine .g (.s (fa f70_0 z z z) z (.s (ld t3 s.p1 z z z z z) z (.nil (.block (.g (.q z (.qn z (.cond z (λb=>?_) (λb=>?_)))))))))
  ·have h:=aC b h
   refine .region (.q z (.s (fa f70_1 z z z) z (.s (ld t3 s.p1 z z z z z) z (.s (mf z z) z ?_))))
   have s:=s.nilv 74 5 ai
   refine bv h λy2 hy2 h=>?_
   have s:=s.p1.p1
   refine .c (.cS (L0:=[ac (sv aF) 74 5 ai [],.box g2 104 [vi a1,sv aF]]) s func70 (λS h1 h2 h3=>(ft hy2 ⟨_,func71,z,by kernel_rfl⟩ (λhA hg h=>pV h ((h3.boxS (k:=0) z).agree hA)) h2 (zz h1) (hG.at s (λ_ _ h=>h)) (hG.noS (λ_ _ h=>h) h1))) z z ?_)
   rintro v2 W s
   refine .nil ?_
   obtain rfl:=o9 h
   exact ⟨z,v2,sb z,s.tk [0,1,0]⟩
  have h:=aD b h
  refine .g (.q z (.qn z (.cond z (λb=>?_) (λb=>?_))))
  ·have h:=aC b h
   refine .g (.q z (.s (fa f70_2 z z z) z (.s (ld t3 s.p1 z z z z z) z ?_)))
   have s:=s.nilv 74 5 ai
   refine bv h λy3 hy3 h=>?_
   have s:=s.p1.p1
   refine .c (.cS (L0:=[ac (sv aF) 74 5 ai [],.box g2 104 [vi a1,sv aF]]) s func73 (λS h1 h2 h3=>(cM hy3 h2 (zz h1) (hG.at s (λ_ _ h=>h)) (hG.noS (λ_ _ h=>h) h1))) z z ?_)
   rintro v3 W s
   refine .c (.alloc t3 s ?_)
   intro g3 W s
   refine .c (.st t3 s z z z ?_)
   intro W s
   refine .nil (.region (.q z (.s (fa f70_1 z z z) z (.s (ld t3 s.p3 z z z z z) z (.s (mf z z) z (bv h λy4 hy4 h=>?_))))))
   have s:=s.p1.p2
   refine .c (.cS (L0:=[ac (sv v3) 74 5 ai y3.2,.box g2 104 [vi a1,sv v3]]) s func70 (λS h1 h2 h3=>(ft hy4 ⟨_,func74,z,by kernel_rfl⟩ (λhA hg h=>pW h ((h3.boxS (k:=0) z).agree hA)) h2 (zz h1) (hG.at s (λ_ _ h=>h)) (hG.noS (λ_ _ h=>h) h1))) z z ?_)
   rintro v4 W s
   refine .nil ?_
   obtain rfl:=o9 h
   exact ⟨z,v4,sb z,s.tk [0,2,0]⟩
  have h:=aD b h
  refine .g (.q z (.qn z (.cond z (λb=>?_) (λb=>?_))))
  ·have h:=aC b h
   refine .g (.q z (.s (fa f70_2 z z z) z (.s (ld t3 s.p1 z z z z z) z ?_)))
   have s:=s.nilv 74 5 ai
   refine bv h λy5 hy5 h=>?_
   have s:=s.p1.p1
   refine .c (.cS (L0:=[ac (sv aF) 74 5 ai [],.box g2 104 [vi a1,sv aF]]) s func73 (λS h1 h2 h3=>(cM hy5 h2 (zz h1) (hG.at s (λ_ _ h=>h)) (hG.noS (λ_ _ h=>h) h1))) z z ?_)
   rintro v5 W s
   refine .c (.alloc t3 s ?_)
   intro g4 W s
   refine .c (.st t3 s z z z ?_)
   intro W s
   refine .nil (.g (.q z (.s (fa f70_3 z z z) z (.s (ld t3 s.p3 z z z z z) z (bv h λy6 hy6 h=>?_)))))
   have s:=s.p1.p2
   refine .c (.cS (L0:=[ac (sv v5) 74 5 ai y5.2,.box g2 104 [vi a1,sv v5]]) s func73 (λS h1 h2 h3=>(cM hy6 h2 (zz h1) (hG.at s (λ_ _ h=>h)) (hG.noS (λ_ _ h=>h) h1))) z z ?_)
   rintro v6 W s
   refine .c (.alloc t3 s ?_)
   intro g5 W s
   refine .c (.st t3 s z z z ?_)
   intro W s
   refine .nil (.region (.q z (.s (fa f70_1 z z z) z (.s (ld t3 s.p4 z z z z z) z (.s (mf z z) z (bv h λy7 hy7 h=>?_))))))
   have s:=s.p1.p2
   refine .c (.cS (L0:=[ac (sv v6) 74 5 ai y6.2,.box g2 104 [vi a1,sv v6]]) s func70 (λS h1 h2 h3=>(ft hy7 ⟨_,func76,z,by kernel_rfl⟩ (λhA hg h=>pX h ((h3.boxS (k:=2) z).agree hA) ((h3.boxS (k:=1) z).agree hA) ((h3.boxS (k:=0) z).agree hA) hg) h2 (zz h1) (hG.at s (λ_ _ h=>h)) (hG.noS (λ_ _ h=>h) h1))) z z ?_)
   rintro v7 W s
   refine .nil ?_
   obtain rfl:=o9 h
   exact ⟨z,v7,sb z,s.tk [0,3,0]⟩
  have h:=aD b h
  refine .g (.q z (.qn z (.cond z (λb=>?_) (λb=>?_))))
  ·have h:=aC b h
   refine .region (.q z (.q z ?_))
   have s:=s.nilv 74 5 ai
   refine bv h λy8 hy8 h=>?_
   have s:=s.p1.p1
   refine .c (.cS (L0:=[ac (sv aF) 74 5 ai [],.box g2 104 [vi a1,sv aF]]) s func77 (λS h1 h2 h3=>(mM hy8 h2 (zz h1))) z z ?_)
   rintro v8 W s
   refine .nil ?_
   obtain rfl:=o9 h
   exact ⟨z,v8,sb z,s.tk [0,1,0]⟩
  have h:=aD b h
  refine .g (.q z (.qn z (.cond z (λb=>?_) (λb=>?_))))
  ·have h:=aC b h
   refine .g (.q z (.q z (.s (fa f70_2 z z z) z (.s (ld t3 s.p1 z z z z z) z ?_))))
   have s:=s.nilv 74 5 ai
   refine bv h λy9 hy9 h=>?_
   have s:=s.p1.p1
   refine .c (.cS (L0:=[ac (sv aF) 74 5 ai [],.box g2 104 [vi a1,sv aF]]) s func73 (λS h1 h2 h3=>(cM hy9 h2 (zz h1) (hG.at s (λ_ _ h=>h)) (hG.noS (λ_ _ h=>h) h1))) z z ?_)
   rintro v9 W s
   refine .s (bs T.s74 z z) z (.c (.liv [(Instr.mk 18 0 y9.1 0 8)] ai u35 t74 s z z z z ?_ z (λ_=>z)))
   intro v10 W s
   refine bv h λy10 hy10 h=>?_
   have s:=s.p1.p2
   refine .c (.cS (L0:=[ac (sv v9) 74 5 ai y9.2,.box g2 104 [vi a1,sv v9]]) s func78 (λS h1 h2 h3=>(bu hy10 (h3.rdv (k:=0) z) h2 (zz h1))) z z ?_)
   rintro v11 W s
   refine .nil (.region (.q z (.q z (bv h λy11 hy11 h=>?_))))
   have s:=s.p1
   refine .c (.cS (L0:=[ac (sv v11) 74 5 ai y10,.box g2 104 [vi a1,sv v11]]) s func77 (λS h1 h2 h3=>(mM hy11 h2 (zz h1))) z z ?_)
   rintro v12 W s
   refine .nil ?_
   obtain rfl:=o9 h
   exact ⟨z,v12,sb z,s.tk [0,2,0]⟩
  have h:=aD b h
  refine .g (.q z (.qn z (.cond z (λb=>?_) (λb=>?_))))
  ·have h:=aC b h
   refine .seq (.rk 11 s [1] T.mix ?_)
   intro W s
   have t:=s.to [1]
   refine .tp' 0 z z t (.tp' 1 z z t (.ts' 2 z (λW t=>fa f70_2 z z z) t z (.ts' 3 z (λW t=>ld t3 t z z z z z) t z (.ts' 6 z (λW t=>fa f70_4 z z z) t z (.ts' 7 z (λW t=>ld t3 t z z z z z) t z ?_)))))
   have s:=s.nilv 74 5 ai
   refine bv h λy12 hy12 h=>?_
   have s:=s.p1.p1
   refine .by1 4 z (.cS (L0:=[ac (sv aF) 74 5 ai [],.box g2 104 [vi a1,sv aF]]) s func73 (λS h1 h2 h3=>(cM hy12 h2 (zz h1) (hG.at s (λ_ _ h=>h)) (hG.noS (λ_ _ h=>h) h1))) z z ?_)
   rintro v13 W s
   refine s.an [2] λt=>bv h λy13 hy13 h=>.by1 5 z (.cO s func75 (eG hy13) z z ?_)
   intro W s
   refine s.an [2] λt=>bv h λy14 hy14 h=>.by1 8 z (.cO s func75 (eG hy14) z z ?_)
   intro W s
   refine s.an [2] λt=>.by1 9 z (.liv [y13,y14] ai u35 t74 s z z z z ?_ z (λ_=>z))
   intro v14 W s
   refine s.an [3] λt=>bv h λy15 hy15 h=>?_
   have s:=s.p1.p2
   refine .by1 10 z (.cS (L0:=[ac (sv v13) 74 5 ai y12.2,.box g2 104 [vi a1,sv v13]]) s func78 (λS h1 h2 h3=>(bu hy15 (h3.rdv (k:=0) z) h2 (zz h1))) z z ?_)
   rintro v15 W s
   refine s.an [3] λt=>.done (.region (.q z (bv h λy16 hy16 h=>?_)))
   have s:=s.p1
   refine .c (.cS (L0:=[ac (sv v15) 74 5 ai y15,.box g2 104 [vi a1,sv v15]]) s func79 (λS h1 h2 h3=>(dK hy16 h2 (zz h1))) z z ?_)
   rintro v16 W s
   refine .nil ?_
   obtain rfl:=o9 h
   exact ⟨z,v16,sb z,s.tk [0,2,0]⟩
  have h:=aD b h
  refine .g (.q z (.qn z (.cond z (λb=>?_) (λb=>?_))))
  ·have h:=aC b h
   refine .g (.q z (.s (fa f70_4 z z z) z (.s (ld t3 s.p1 z z z z z) z (bv h λy17 hy17 h=>.c (.cO s func75 (eG hy17) z z ?_)))))
   intro W s
   refine .c (.liv [y17] ai u35 t74 s z z z z ?_ z (λ_=>z))
   intro v17 W s
   have s:=s.nilv 74 5 ai
   refine bv h λy18 hy18 h=>?_
   have s:=s.p2.p1
   refine .c (.cS (L0:=[ac (sv aF) 74 5 ai [],.box g2 104 [vi a1,sv aF]]) s func78 (λS h1 h2 h3=>(bu hy18 (h3.rdv (k:=0) z) h2 (zz h1))) z z ?_)
   rintro v18 W s
   refine .nil (.g (.q z (bv h λy19 hy19 h=>?_)))
   have s:=s.p1
   refine .c (.cS (L0:=[ac (sv v18) 74 5 ai y18,.box g2 104 [vi a1,sv v18]]) s func79 (λS h1 h2 h3=>(dK hy19 h2 (zz h1))) z z ?_)
   rintro v19 W s
   refine .nil (.region (.q z (.s (fa f70_1 z z z) z (.s (ld t3 s.p3 z z z z z) z (bv h λy20 hy20 h=>?_)))))
   have s:=s.p1
   refine .c (.cS (L0:=[ac (sv v19) 74 5 ai y19,.box g2 104 [vi a1,sv v19]]) s func70 (λS h1 h2 h3=>(ft hy20 ⟨_,func80,z,by kernel_rfl⟩ (λhA hg h=>pY h) h2 (zz h1) (hG.at s (λ_ _ h=>h)) (hG.noS (λ_ _ h=>h) h1))) z z ?_)
   rintro v20 W s
   refine .nil ?_
   obtain rfl:=o9 h
   exact ⟨z,v20,sb z,s.tk [0,2,0]⟩
  have h:=aD b h
  refine .g (.q z (.qn z (.cond z (λb=>?_) (λb=>?_))))
  ·have h:=aC b h
   refine .region (.q z ?_)
   have s:=s.nilv 74 5 ai
   refine bv h λy21 hy21 h=>?_
   have s:=s.p1.p1
   refine .c (.cS (L0:=[ac (sv aF) 74 5 ai [],.box g2 104 [vi a1,sv aF]]) s func79 (λS h1 h2 h3=>(dK hy21 h2 (zz h1))) z z ?_)
   rintro v21 W s
   refine .nil ?_
   obtain rfl:=o9 h
   exact ⟨z,v21,sb z,s.tk [0,1,0]⟩
  have h:=aD b h
  refine .g (.q z (.qn z (.cond z (λb=>?_) (λb=>?_))))
  ·have h:=aC b h
   refine .g (.q z (.q z (.s (fa f70_2 z z z) z (.s (ld t3 s.p1 z z z z z) z ?_))))
   have s:=s.nilv 74 5 ai
   refine bv h λy22 hy22 h=>?_
   have s:=s.p1.p1
   refine .c (.cS (L0:=[ac (sv aF) 74 5 ai [],.box g2 104 [vi a1,sv aF]]) s func73 (λS h1 h2 h3=>(cM hy22 h2 (zz h1) (hG.at s (λ_ _ h=>h)) (hG.noS (λ_ _ h=>h) h1))) z z ?_)
   rintro v22 W s
   refine bv h λy23 hy23 h=>.c (.cO s func75 (eG hy23) z z ?_)
   intro W s
   refine .c (.liv [y23] ai u35 t74 s z z z z ?_ z (λ_=>z))
   intro v23 W s
   refine bv h λy24 hy24 h=>?_
   have s:=s.p1.p2
   refine .c (.cS (L0:=[ac (sv v22) 74 5 ai y22.2,.box g2 104 [vi a1,sv v22]]) s func78 (λS h1 h2 h3=>(bu hy24 (h3.rdv (k:=0) z) h2 (zz h1))) z z ?_)
   rintro v24 W s
   refine .nil (.region (.q z (bv h λy25 hy25 h=>?_)))
   have s:=s.p1
   refine .c (.cS (L0:=[ac (sv v24) 74 5 ai y24,.box g2 104 [vi a1,sv v24]]) s func79 (λS h1 h2 h3=>(dK hy25 h2 (zz h1))) z z ?_)
   rintro v25 W s
   refine .nil ?_
   obtain rfl:=o9 h
   exact ⟨z,v25,sb z,s.tk [0,2,0]⟩
  have h:=aD b h
  refine .g (.q z (.qn z (.cond z (λb=>?_) (λb=>?_))))
  ·have h:=aC b h
   refine .region (.q z ?_)
   have s:=s.nilv 74 5 ai
   refine bv h λy26 hy26 h=>?_
   have s:=s.p1.p1
   refine .c (.cS (L0:=[ac (sv aF) 74 5 ai [],.box g2 104 [vi a1,sv aF]]) s func79 (λS h1 h2 h3=>(dK hy26 h2 (zz h1))) z z ?_)
   rintro v26 W s
   refine .nil ?_
   obtain rfl:=o9 h
   exact ⟨z,v26,sb z,s.tk [0,1,0]⟩
  have h:=aD b h
  refine .skip ?_
  have s:=s.nilv 74 5 ai
  cases h
  exact ⟨z,aF,sb z,s.tk [1,1,0]⟩
 intro x E W hJ
 obtain ⟨rfl,v27,hE,s⟩:=hJ
 refine ⟨_,hE.sub,?_⟩
 obtain rfl:=o9 h
 exact .g (.q z (.q z (.s (fa f104_1 z z z) z (.s (ld t35 s z z z z z) z (.qn z (.ret (aa v27 (rt z rn) z (s.tk [2]))))))))
theorem rI {a0:List ab} {a1:Int} {v_0:Hd} {w:World} {r:(List Int)} (h:fz a0 a1=some r) (q_0:RO w v_0 70 5 ae a0) (hG:Gl w):CL 37 #[sv v_0,vi a1] w (Ret No w (λs:{x:Hd // uZ x=List.isEmpty r}=>(sv s.1)) (λs=>[ac (sv s.1) 3 1 (D.int .i64) r])):=by
 unfold fz at h
 refine ao func37 z z ?_
 have s:=Sep.start w
 refine .g (.qn z (.seq (.g (.q z (bv h λy1 hy1 h=>.c (.cO s func67 (bZ hy1 (s.keep q_0)) z z ?_))))))
 intro W s
 refine .q z (.q z (.cu 3 15 ((!y1)||(decide (a1<1))) s ?_ ?_))
 ·refine .both (!y1) (λb=>?_) (λb=>?_)
  ·exact .xx b z (.xx b z (.s (pkt b z z z) z (.nil (ck 3 s z (gY b)))))
  have hg1:=b
  exact .g hg1 (.q z (.g hg1 (.q z (.s (pkf hg1 z z z) z (.nil (ck 3 s z (gr hg1)))))))
 intro W s
 refine .q z (.cu 3 19 (((!y1)||(decide (a1<1)))||(decide (a1>8))) s ?_ ?_)
 ·refine .both ((!y1)||(decide (a1<1))) (λb=>?_) (λb=>?_)
  ·exact .xx b z (.xx b z (.s (pkt b z z z) z (.nil (ck 3 s z (gY b)))))
  have hg2:=b
  exact .g hg2 (.q z (.g hg2 (.q z (.s (pkf hg2 z z z) z (.nil (ck 3 s z (gr hg2)))))))
 intro W s
 refine .nil ?_
 refine .cs z h ?_ ?_ <;> intro h
 ·refine .g (.qn z (.ret ?_))
  have s:=s.nilv 3 1 (D.int .i64)
  cases h
  exact aa ⟨aF,z⟩ (rt z rn) z (s.tk [0])
 refine .skip (.g (.qn z (.g (.qn z (.seq (.g (.q z (.s (aJ (s.keep q_0) u38 z z) z (.qn z (.block ?_))))))))))
 have s:=s.nilv 3 1 (D.int .i64)
 refine bv h λy2 hy2 h=>?_
 refine .via (.iter (λs1 E' W'=>∃ (v3:Hd),(uZ v3=List.isEmpty s1.1)/\al E' [(1,vi a1),(5,(sv v3)),(6,vi s1.2.1),(20,(sv v_0)),(21,vi (a0.length:Int)),(22,vi s1.2.2)]/\Sep No w W' [ac (sv v3) 3 1 (D.int .i64) s1.1]) (λy3 x E' W'=>x=.exit 0/\∃ (v4:Hd),(uZ v4=List.isEmpty y3)/\al E' [(5,(sv v4))]/\Sep No w W' [ac (sv v4) 3 1 (D.int .i64) y3]) hy2 ⟨aF,z,sb z,s.tk [0]⟩ ?_) ?_
 ·intro s1 y4 E W h hI
  obtain ⟨v2,q2,hE,s⟩:=hI
  refine CW.sub hE ?_
  unfold k9 at h
  refine .g (.qn z (.seq ?_))
  refine .cs z h ?_ ?_ <;> intro h
  ·refine .skip (.seq (.block (.g (bv h λx1 hx1 h=>.s (ixv (s.keep q_0) hx1 u38 t70 z z z) z (.s (lde (RV.flat (s.keep q_0) hx1 z) t70 z z z z z) z (.c (.alloc t70 s ?_)))))))
   intro g1 W s
   refine .c (.st t70 s z z z ?_)
   intro W s
   refine .nil (.g (.q z (.q z (.c (.liv [s1.2.1] (D.int .i64) u23 t3 s z z z z ?_ z (λ_=>z))))))
   intro v5 W s
   refine bv h λr1 hr1 h=>?_
   have hT0:=s.p2
   refine .c (.av hr1 hT0 hT0.p1.lv (λ_=>z) u23 t3 z z z ?_)
   intro v6 W s
   have hz1:=Sep.nz s (Cu hr1 (by simp))
   refine .qn z (.region (.q z (.s (ld t70 s.p2 z z z z z) z (.q z (bv h λy5 hy5 h=>.c (.cV s func39 (nG hy5 (hG.at s (λ_ _ h=>h))) z z ?_))))))
   intro v7 W s
   refine .s (aJ s.lv u35 z z) z (.q z (.qn z (.region (.q z (.q z (.nil ?_))))))
   cases h
   exact ⟨z,v6,hz1,sb z,s.tk [1]⟩
  refine .exit ?_
  cases h
  exact ⟨by simp,z,v2,q2,sb z,s.tk [0]⟩
 intro x E W hJ
 obtain ⟨rfl,v8,q5,hE,s⟩:=hJ
 refine ⟨_,hE.sub,?_⟩
 obtain rfl:=o9 h
 exact .g (.q z (.qn z (.ret (aa ⟨v8,q5⟩ (rt z rn) z (s.tk [0])))))
end

end Go.Proofs.YtfpngipcclmliaaGreatDoor.N
