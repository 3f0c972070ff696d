/- Printed by a program of mine: that the program's functions compute it. -/
import Derived.Test.YtmjebmhcbnkojaaGreatK6
set_option linter.unusedVariables false
set_option linter.unusedSimpArgs false
set_option maxRecDepth 100000
set_option maxHeartbeats 4000000
namespace Go.Proofs.YtmjebmhcbnkojaaGreat.N
open Go.Proofs.YtmjebmhcbnkojaaGreat.X
open T Tryz
noncomputable section
theorem tJ {k:Nat} {iE:Expr->Int->Option ((List ab))} (nr:kK iE):kK (eE k iE):=by
 intro a0 a1 bw w r h aw
 unfold eE at h
 refine au func139 z z ?_
 have s:=Sep.start w
 refine .g (.c (.box s z z ?_))
 intro g1 W s
 refine .qn z (.seq (.g (.s (fa f77_0 z z z) z (.s (ld t3 s z z z z z) z (.q z (.nil ?_))))))
 refine .cs z h ?_ ?_ <;> intro h
 ·refine .g (.q z (.s (fa f77_1 z z z) z (.s (ld t3 s z z z z z) z (.s (bs T.s62 z z) z (.c (.liv [(ab.mk 1 a1 0 0 a0.N)] ah u33 t62 s z z z z ?_ z (λ_=>z)))))))
  intro v1 W s
  cases h
  exact .qn z (.ret (aa v1 (rt z rn) z (s.tk [0])))
 refine .skip (.seq (.g (.s (fa f77_0 z z z) z (.s (ld t3 s z z z z z) z (.q z (.nil ?_))))))
 refine .cs z h ?_ ?_ <;> intro h
 ·refine .g (.q z (.s (fa f77_1 z z z) z (.s (ld t3 s z z z z z) z (.s (bs T.s62 z z) z (.c (.liv [(ab.mk 2 a1 a0.N 0 0)] ah u33 t62 s z z z z ?_ z (λ_=>z)))))))
  intro v2 W s
  cases h
  exact .qn z (.ret (aa v2 (rt z rn) z (s.tk [0])))
 refine .skip (.seq (.rk 15 s [0] T.mix ?_))
 intro W s
 have t:=s.to [0]
 refine .ts' 0 z (λW t=>fa f77_2 z z z) t z (.ts' 1 z (λW t=>ld t75 t z z z z z) t z (bv h λx1 hx1 h=>?_))
 obtain ⟨k1,hd,hck1⟩:=RV.el2 aw hx1
 have hd1:=jk (cq _) hd
 obtain ⟨k1,rfl,hd2⟩:=bK aw z hd1
 obtain ⟨k1,rfl,hd3⟩:=bK aw z hd2
 obtain ⟨v3,k1,rfl,q1,hd4⟩:=cw aw hd3
 obtain rfl:=kT aw hd4
 refine .ts' 2 z (λW t=>ixv (s.keep aw) hx1 u75 t77 z z z) t z (.ts' 3 z (λW t=>lde (hck1 _ t.agree) t77 z z z z z) t z (.tp' 4 z z t (.ts' 6 z (λW t=>fa f77_2 z z z) t z (.ts' 7 z (λW t=>ld t75 t z z z z z) t z (bv h λx2 hx2 h=>?_)))))
 obtain ⟨k2,hd,hck2⟩:=RV.el2 aw hx2
 have hd1:=jk (cq _) hd
 obtain ⟨k2,rfl,hd2⟩:=bK aw z hd1
 obtain ⟨k2,rfl,hd3⟩:=bK aw z hd2
 obtain ⟨v4,k2,rfl,q2,hd4⟩:=cw aw hd3
 obtain rfl:=kT aw hd4
 refine .ts' 8 z (λW t=>ixv (s.keep aw) hx2 u75 t77 z z z) t z (.ts' 9 z (λW t=>lde (hck2 _ t.agree) t77 z z z z z) t z (.tp' 10 z z t (.tp' 11 z z t (bv h λy1 hy1 h=>.by1 5 z (.cV s func139 (nr hy1 (s.keep (q1 _ aw))) z z ?_)))))
 intro v5 W s
 refine s.an [1] λt=>bv h λy2 hy2 h=>.by1 12 z (.cV s func139 (nr hy2 (s.keep (q2 _ aw))) z z ?_)
 intro v6 W s
 refine s.an [2] λt=>bv h λr1 hr1 h=>?_
 have hT0:=s.p1
 refine .by1 13 z (.av hr1 hT0 hT0.p1.lv (λ_=>z) u33 t62 z z z ?_)
 intro v7 W s
 refine s.an [2] λt=>.tp' 14 z z t (.done (.g (.q z (.q z (.q z (.q z (.q z (.s (fa f77_0 z z z) z (.s (ld t3 s.p2 z z z z z) z (.s (bs T.s62 z z) z (.c (.liv [(ab.mk 3 a1 a1 (w64 (a1+1)) a0.Op)] ah u33 t62 s z z z z ?_ z (λ_=>z)))))))))))))
 intro v8 W s
 refine bv h λr2 hr2 h=>?_
 have hT0:=s.p1
 refine .c (.av hr2 hT0 hT0.p1.lv (λ_=>z) u33 t62 z z z ?_)
 intro v9 W s
 obtain rfl:=o9 h
 exact .qn z (.ret (aa v9 (rt z rn) z (s.tk [0])))
theorem oM (k:Nat):kK (cl k):=by
  induction k with
  | zero=>exact by intro a0 a1 bw w r h aw; exact no h
  | succ k ih=>exact tJ (k:=k) ih
theorem lU {k:Nat}:kK (cl k):=(oM k)
def eM (F:List ae->Int->Option ((List ab))):Prop:=∀ {a0:List ae} {a1:Int} {v_0:Hd} {w:World} {r:(List ab)} (h:F a0 a1=some r) (q_0:RO w v_0 80 8 aj a0) , CL 87 #[sv v_0,vi a1] w (Ret No w (λs:Hd=>(sv s)) (λs=>[ac (sv s) 62 5 ah r]))
def gp (F:ae->Int->Option ((List ab))):Prop:=∀ {a0:ae} {a1:Int} {ax:Hd} {a7:Hd} {a8:Hd} {w:World} {r:(List ab)} (h:F a0 a1=some r) (aq:RO w ax 77 3 aC a0.Expr.Args) (a9:RO w a7 80 8 aj a0.Body) (aQ:RO w a8 80 8 aj a0.Else) , CL 118 #[.agg #[vi a0.Kind,vi a0.Var,vi a0.Box,vi a0.Expr.Op,vi a0.Expr.N,sv ax,sv a7,sv a8],vi a1] w (Ret No w (λs:Hd=>(sv s)) (λs=>[ac (sv s) 62 5 ah r]))
def ji (F:ae->Int->Option ((List ab))):Prop:=∀ {a0:ae} {a1:Int} {ax:Hd} {a7:Hd} {a8:Hd} {w:World} {r:(List ab)} (h:F a0 a1=some r) (aq:RO w ax 77 3 aC a0.Expr.Args) (a9:RO w a7 80 8 aj a0.Body) (aQ:RO w a8 80 8 aj a0.Else) , CL 140 #[.agg #[vi a0.Kind,vi a0.Var,vi a0.Box,vi a0.Expr.Op,vi a0.Expr.N,sv ax,sv a7,sv a8],vi a1] w (Ret No w (λs:Hd=>(sv s)) (λs=>[ac (sv s) 62 5 ah r]))
def eX (F:ae->Int->Option ((List ab))):Prop:=∀ {a0:ae} {a1:Int} {ax:Hd} {a7:Hd} {a8:Hd} {w:World} {r:(List ab)} (h:F a0 a1=some r) (aq:RO w ax 77 3 aC a0.Expr.Args) (a9:RO w a7 80 8 aj a0.Body) (aQ:RO w a8 80 8 aj a0.Else) , CL 141 #[.agg #[vi a0.Kind,vi a0.Var,vi a0.Box,vi a0.Expr.Op,vi a0.Expr.N,sv ax,sv a7,sv a8],vi a1] w (Ret No w (λs:Hd=>(sv s)) (λs=>[ac (sv s) 62 5 ah r]))
theorem tK {k:Nat} {bf:List ae->Int->Option ((List ab))} {be:ae->Int->Option ((List ab))} {bA:ae->Int->Option ((List ab))} {bg:ae->Int->Option ((List ab))} (eY:eM bf) (jV:gp be) (ly:ji bA) (jj:eX bg):eM (eF k bf be bA bg):=by
 intro a0 a1 v_0 w r h q_0
 unfold eF at h
 refine au func87 z z ?_
 have s:=Sep.start w
 refine .g (.qn z (.g (.c (.liv [] ah u33 t62 s z z z z ?_ z (λ_=>z)))))
 intro v1 W s
 refine .qn z (.seq (.g (.qn z (.block (bv h λy1 hy1 h=>?_)))))
 refine .via (.iter (λs1 E' W'=>∃ (v4:Hd),ak E' [(0,(sv v_0)),(1,vi a1),(5,(sv v4)),(6,vi s1.2)]/\Sep No w W' [ac (sv v4) 62 5 ah s1.1]) (λy2 x E' W'=>x=.exit 0/\∃ (v5:Hd),ak E' [(5,(sv v5))]/\Sep No w W' [ac (sv v5) 62 5 ah y2]) hy1 ⟨v1,sb z,s.tk [0]⟩ ?_) ?_
 ·intro s1 y3 E W h hI
  obtain ⟨v3,hE,s⟩:=hI
  refine CW.sub hE ?_
  unfold jL at h
  refine .seq (.g (.q z (.q z (.s (aE (s.keep q_0) u36 z z) z (.q z (.nil ?_))))))
  refine .cs z h ?_ ?_ <;> intro h
  ·refine .skip (.seq (.block (.region (.q z (.q z (.q z (bv h λx1 hx1 h=>?_)))))))
   obtain ⟨k1,hd,hck1⟩:=RV.el2 q_0 hx1
   have hd1:=jk (dT _) hd
   obtain ⟨k1,rfl,hd2⟩:=bK q_0 z hd1
   obtain ⟨k1,rfl,hd3⟩:=bK q_0 z hd2
   obtain ⟨k1,rfl,hd4⟩:=bK q_0 z hd3
   have hd5:=jk (cq _) hd4
   obtain ⟨k1,rfl,hd6⟩:=bK q_0 z hd5
   obtain ⟨k1,rfl,hd7⟩:=bK q_0 z hd6
   obtain ⟨v6,k1,rfl,q5,hd8⟩:=cw q_0 hd7
   obtain ⟨v7,k1,rfl,q6,hd9⟩:=cw q_0 hd8
   obtain ⟨v8,k1,rfl,q7,hd10⟩:=cw q_0 hd9
   obtain rfl:=kT q_0 hd10
   refine .s (ixv (s.keep q_0) hx1 u36 t80 z z z) z (.s (lde (hck1 _ s.agree) t80 z z z z z) z (.q z (.q z (.s (aE s.lv u33 z z) z (.q z (bv h λy4 hy4 h=>.c (.cV s func118 (jV hy4 (s.keep (q5 _ q_0)) (s.keep (q6 _ q_0)) (s.keep (q7 _ q_0))) z z ?_)))))))
   intro v9 W s
   refine bv h λr1 hr1 h=>?_
   have hT0:=s.p1
   refine .c (.av hr1 hT0 hT0.p1.lv (λ_=>z) u33 t62 z z z ?_)
   intro v10 W s
   refine .qn z (.region (.q z (.q z (.q z (.nil ?_)))))
   cases h
   exact ⟨z,v10,sb z,s.tk [0]⟩
  refine .exit ?_
  cases h
  exact ⟨by simp,z,v3,sb z,s.tk [0]⟩
 intro x E W hJ
 obtain ⟨rfl,v11,hE,s⟩:=hJ
 refine ⟨_,hE.sub,?_⟩
 obtain rfl:=o9 h
 exact .g (.q z (.qn z (.ret (aa v11 (rt z rn) z (s.tk [0])))))
theorem tM {k:Nat} {bf:List ae->Int->Option ((List ab))} {be:ae->Int->Option ((List ab))} {bA:ae->Int->Option ((List ab))} {bg:ae->Int->Option ((List ab))} (eY:eM bf) (jV:gp be) (ly:ji bA) (jj:eX bg):gp (cI k bf be bA bg):=by
 intro a0 a1 ax a7 a8 w r h aq a9 aQ
 unfold cI at h
 refine au func118 z z ?_
 have s:=Sep.start w
 refine .g (.c (.box s z z ?_))
 intro g1 W s
 refine .qn z (.g (.s (fa f80_3 z z z) z (.s (ld t77 s z z z z z) z (bv h λy1 hy1 h=>.c (.cV s func139 (lU hy1 (s.keep aq)) z z ?_)))))
 intro v1 W s
 refine .qn z (.seq (.g (.s (fa f80_0 z z z) z (.s (ld t3 s.p1 z z z z z) z (.nil (.block (.g (.q z (.q z (.nil ?_))))))))))
 refine .cs z h ?_ ?_ <;> intro h
 ·refine .g (.s (ld t80 s.p1 z z z z z) z (.q z (bv h λy2 hy2 h=>.c (.cV s func140 (ly hy2 (s.keep aq) (s.keep a9) (s.keep aQ)) z z ?_))))
  intro v2 W s
  obtain rfl:=o9 h
  exact .qn z (.ret (aa v2 (rt z rn) z (s.tk [0])))
 refine .g (.q z (.q z (.nil ?_)))
 refine .cs z h ?_ ?_ <;> intro h
 ·refine .g (.s (ld t80 s.p1 z z z z z) z (.q z (bv h λy3 hy3 h=>.c (.cV s func141 (jj hy3 (s.keep aq) (s.keep a9) (s.keep aQ)) z z ?_))))
  intro v3 W s
  obtain rfl:=o9 h
  exact .qn z (.ret (aa v3 (rt z rn) z (s.tk [0])))
 refine .g (.q z (.q z (.nil ?_)))
 refine .cs z h ?_ ?_ <;> intro h
 ·refine .g (.q z (.s (fa f80_1 z z z) z (.s (ld t3 s.p1 z z z z z) z (.s (bs T.s62 z z) z (.c (.liv [(ab.mk 2 a0.Var 4 0 0)] ah u33 t62 s z z z z ?_ z (λ_=>z)))))))
  intro v4 W s
  refine bv h λr1 hr1 h=>?_
  have hT0:=s.p1
  refine .c (.av hr1 hT0 hT0.p1.lv (λ_=>z) u33 t62 z z z ?_)
  intro v5 W s
  obtain rfl:=o9 h
  exact .qn z (.ret (aa v5 (rt z rn) z (s.tk [0])))
 refine .g (.q z (.q z (.nil ?_)))
 refine .cs z h ?_ ?_ <;> intro h
 ·refine .g (.q z (.s (fa f80_2 z z z) z (.s (ld t3 s.p1 z z z z z) z (.s (bs T.s62 z z) z (.c (.liv [(ab.mk 6 0 4 0 a0.Box)] ah u33 t62 s z z z z ?_ z (λ_=>z)))))))
  intro v6 W s
  refine bv h λr2 hr2 h=>?_
  have hT0:=s.p1
  refine .c (.av hr2 hT0 hT0.p1.lv (λ_=>z) u33 t62 z z z ?_)
  intro v7 W s
  obtain rfl:=o9 h
  exact .qn z (.ret (aa v7 (rt z rn) z (s.tk [0])))
 refine .g (.q z (.q z (.nil ?_)))
 refine .cs z h ?_ ?_ <;> intro h
 ·refine .g (.q z (.s (bs T.s62 z z) z (.c (.liv [(ab.mk 9 0 4 0 0)] ah u33 t62 s z z z z ?_ z (λ_=>z)))))
  intro v8 W s
  refine bv h λr3 hr3 h=>?_
  have hT0:=s.p1
  refine .c (.av hr3 hT0 hT0.p1.lv (λ_=>z) u33 t62 z z z ?_)
  intro v9 W s
  obtain rfl:=o9 h
  exact .qn z (.ret (aa v9 (rt z rn) z (s.tk [0])))
 refine .g (.q z (.q z (.nil ?_)))
 refine .cs z h ?_ ?_ <;> intro h
 ·refine .g (.s (fa f80_1 z z z) z (.s (ld t3 s.p1 z z z z z) z (.s (fa f80_2 z z z) z (.s (ld t3 s.p1 z z z z z) z (.s (bs T.s62 z z) z (.c (.liv [(ab.mk 7 a0.Var 0 0 a0.Box)] ah u33 t62 s z z z z ?_ z (λ_=>z))))))))
  intro v10 W s
  cases h
  exact .qn z (.ret (aa v10 (rt z rn) z (s.tk [0])))
 refine .skip (.g (.s (bs T.s62 z z) z (.c (.liv [(ab.mk 8 0 0 0 0)] ah u33 t62 s z z z z ?_ z (λ_=>z)))))
 intro v11 W s
 cases h
 exact .qn z (.ret (aa v11 (rt z rn) z (s.tk [0])))
theorem uX {k:Nat} {bf:List ae->Int->Option ((List ab))} {be:ae->Int->Option ((List ab))} {bA:ae->Int->Option ((List ab))} {bg:ae->Int->Option ((List ab))} (eY:eM bf) (jV:gp be) (ly:ji bA) (jj:eX bg):ji (gA k bf be bA bg):=by
 intro a0 a1 ax a7 a8 w r h aq a9 aQ
 unfold gA at h
 refine au func140 z z ?_
 have s:=Sep.start w
 refine .g (.c (.box s z z ?_))
 intro g1 W s
 refine .qn z (.g (.s (fa f80_3 z z z) z (.s (ld t77 s z z z z z) z (bv h λy1 hy1 h=>.c (.cV s func139 (lU hy1 (s.keep aq)) z z ?_)))))
 intro v1 W s
 refine .qn z (.g (.s (fa f80_4 z z z) z (.s (ld t36 s.p1 z z z z z) z (.q z (.q z (.s (aE s.lv u33 z z) z (.q z (.q z (bv h λy2 hy2 h=>.c (.cV s func87 (eY hy2 (s.keep a9)) z z ?_))))))))))
 intro v2 W s
 refine .qn z (.g (.q z (.q z (.s (aE s.p1.lv u33 z z) z (.q z (.q z (.q z (.s (aE s.lv u33 z z) z (.q z (.qn z (.seq (.g (.s (fa f80_5 z z z) z (.s (ld t36 s.p2 z z z z z) z (.s (aE (s.keep aQ) u36 z z) z (.q z (.nil ?_)))))))))))))))))
 refine .cs z h ?_ ?_ <;> intro h
 ·refine .g (.q z (.q z (.s (bs T.s62 z z) z (.c (.liv [(ab.mk 5 0 4 0 (w64 ((w64 ((w64 (a1+(y1.length:Int)))+1))+(y2.length:Int))))] ah u33 t62 s z z z z ?_ z (λ_=>z))))))
  intro v3 W s
  refine bv h λr1 hr1 h=>?_
  have hT0:=s.p2
  refine .c (.av hr1 hT0 hT0.p1.lv (λ_=>z) u33 t62 z z z ?_)
  intro v4 W s
  refine .qn z (.g (.q z (.q z (bv h λr2 hr2 h=>?_))))
  have hT0:=s
  refine .c (.av hr2 hT0 hT0.p2.lv (λ_=>z) u33 t62 z z z ?_)
  intro v5 W s
  obtain rfl:=o9 h
  exact .qn z (.ret (aa v5 (rt z rn) z (s.tk [0])))
 refine .skip (.g (.s (fa f80_5 z z z) z (.s (ld t36 s.p2 z z z z z) z (.q z (.q z (bv h λy3 hy3 h=>.c (.cV s func87 (eY hy3 (s.keep aQ)) z z ?_)))))))
 intro v6 W s
 refine .qn z (.g (.q z (.q z (.q z (.s (bs T.s62 z z) z (.c (.liv [(ab.mk 5 0 4 0 (w64 ((w64 ((w64 ((w64 (a1+(y1.length:Int)))+1))+(y2.length:Int)))+1)))] ah u33 t62 s z z z z ?_ z (λ_=>z))))))))
 intro v7 W s
 refine bv h λr3 hr3 h=>?_
 have hT0:=s.p3
 refine .c (.av hr3 hT0 hT0.p1.lv (λ_=>z) u33 t62 z z z ?_)
 intro v8 W s
 refine .qn z (.g (.q z (.q z (bv h λr4 hr4 h=>?_))))
 have hT0:=s
 refine .c (.av hr4 hT0 hT0.p3.lv (λ_=>z) u33 t62 z z z ?_)
 intro v9 W s
 refine .qn z (.g (.q z (.q z (.q z (.q z (.s (aE s.p2.lv u33 z z) z (.q z (.s (bs T.s62 z z) z (.c (.liv [(ab.mk 4 0 0 0 (w64 ((w64 ((w64 ((w64 ((w64 (a1+(y1.length:Int)))+1))+(y2.length:Int)))+1))+(y3.length:Int))))] ah u33 t62 s z z z z ?_ z (λ_=>z)))))))))))
 intro v10 W s
 refine bv h λr5 hr5 h=>?_
 have hT0:=s.p1
 refine .c (.av hr5 hT0 hT0.p1.lv (λ_=>z) u33 t62 z z z ?_)
 intro v11 W s
 refine .qn z (.g (.q z (.q z (bv h λr6 hr6 h=>?_))))
 have hT0:=s
 refine .c (.av hr6 hT0 hT0.p3.lv (λ_=>z) u33 t62 z z z ?_)
 intro v12 W s
 obtain rfl:=o9 h
 exact .qn z (.ret (aa v12 (rt z rn) z (s.tk [0])))
theorem sk {k:Nat} {bf:List ae->Int->Option ((List ab))} {be:ae->Int->Option ((List ab))} {bA:ae->Int->Option ((List ab))} {bg:ae->Int->Option ((List ab))} (eY:eM bf) (jV:gp be) (ly:ji bA) (jj:eX bg):eX (dD k bf be bA bg):=by
 intro a0 a1 ax a7 a8 w r h aq a9 aQ
 unfold dD at h
 refine au func141 z z ?_
 have s:=Sep.start w
 refine .g (.c (.box s z z ?_))
 intro g1 W s
 refine .qn z (.g (.s (fa f80_3 z z z) z (.s (ld t77 s z z z z z) z (bv h λy1 hy1 h=>.c (.cV s func139 (lU hy1 (s.keep aq)) z z ?_)))))
 intro v1 W s
 refine .qn z (.g (.s (fa f80_4 z z z) z (.s (ld t36 s.p1 z z z z z) z (.q z (.q z (.s (aE s.lv u33 z z) z (.q z (.q z (bv h λy2 hy2 h=>.c (.cV s func87 (eY hy2 (s.keep a9)) z z ?_))))))))))
 intro v2 W s
 refine .qn z (.g (.q z (.q z (.q z (.s (aE s.p1.lv u33 z z) z (.q z (.q z (.q z (.s (aE s.lv u33 z z) z (.q z (.q z (.s (bs T.s62 z z) z (.c (.liv [(ab.mk 5 0 4 0 (w64 ((w64 ((w64 ((w64 (a1+(y1.length:Int)))+1))+(y2.length:Int)))+1)))] ah u33 t62 s z z z z ?_ z (λ_=>z)))))))))))))))
 intro v3 W s
 refine bv h λr1 hr1 h=>?_
 have hT0:=s.p2
 refine .c (.av hr1 hT0 hT0.p1.lv (λ_=>z) u33 t62 z z z ?_)
 intro v4 W s
 refine .qn z (.g (.q z (.q z (bv h λr2 hr2 h=>?_))))
 have hT0:=s
 refine .c (.av hr2 hT0 hT0.p2.lv (λ_=>z) u33 t62 z z z ?_)
 intro v5 W s
 refine .qn z (.g (.q z (.q z (.s (bs T.s62 z z) z (.c (.liv [(ab.mk 4 0 0 0 a1)] ah u33 t62 s z z z z ?_ z (λ_=>z)))))))
 intro v6 W s
 refine bv h λr3 hr3 h=>?_
 have hT0:=s.p1
 refine .c (.av hr3 hT0 hT0.p1.lv (λ_=>z) u33 t62 z z z ?_)
 intro v7 W s
 obtain rfl:=o9 h
 exact .qn z (.ret (aa v7 (rt z rn) z (s.tk [0])))
theorem oO (k:Nat):eM (bI k)/\gp (bU k)/\ji (fD k)/\eX (cF k):=by
  induction k with
  | zero=>exact ⟨by intro a0 a1 v_0 w r h q_0; exact no h,by intro a0 a1 ax a7 a8 w r h aq a9 aQ; exact no h,by intro a0 a1 ax a7 a8 w r h aq a9 aQ; exact no h,by intro a0 a1 ax a7 a8 w r h aq a9 aQ; exact no h⟩
  | succ k ih=>exact ⟨tK (k:=k) ih.1 ih.2.1 ih.2.2.1 ih.2.2.2,tM (k:=k) ih.1 ih.2.1 ih.2.2.1 ih.2.2.2,uX (k:=k) ih.1 ih.2.1 ih.2.2.1 ih.2.2.2,sk (k:=k) ih.1 ih.2.1 ih.2.2.1 ih.2.2.2⟩
theorem sn {k:Nat}:eM (bI k):=(oO k).1
theorem oP {k:Nat} {a0:List ae} {v_0:Hd} {w:World} {r:(List ab)×Bool} (h:cz k a0=some r) (q_0:RO w v_0 80 8 aj a0):CL 54 #[sv v_0] w (Ret No w (λs:Hd=>.tuple #[sv s,.bool r.2]) (λs=>[ac (sv s) 62 5 ah r.1])):=by
 unfold cz at h
 refine au func54 z z ?_
 have s:=Sep.start w
 refine .g (.q z (.qn z (.seq (.g (.q z (bv h λy1 hy1 h=>.c (.cO s func85 (mt hy1 (s.keep q_0)) z z ?_)))))))
 intro W s
 refine .q z (.nil ?_)
 refine .cs z h ?_ ?_ <;> intro h
 ·refine .g (.c (.liv [] ah u33 t62 s z z z z ?_ z (λ_=>z)))
  intro v1 W s
  cases h
  exact .q z (.qn z (.ret (aa (vs:=[_,_]) v1 (rt z (rt z rn)) z (s.tk [0]))))
 refine .skip (.g (.q z (bv h λy2 hy2 h=>.c (.cV s func87 (sn hy2 (s.keep q_0)) z z ?_))))
 intro v2 W s
 refine .s (bs T.s62 z z) z (.c (.liv [(ab.mk 10 0 0 0 0)] ah u33 t62 s z z z z ?_ z (λ_=>z)))
 intro v3 W s
 refine bv h λr1 hr1 h=>?_
 have hT0:=s.p1
 refine .c (.av hr1 hT0 hT0.p1.lv (λ_=>z) u33 t62 z z z ?_)
 intro v4 W s
 cases h
 exact .q z (.qn z (.ret (aa (vs:=[_,_]) v4 (rt z (rt z rn)) z (s.tk [0]))))
theorem nj {k:Nat} {a0:aA} {ba:Hd} {a6:Hd} {w:World} {r:(List (List ab))×Bool} (h:cM k a0=some r) (eg:RO w ba 3 1 (D.int .i64) a0.Rooms) (aH:RO w a6 36 1 (λ(l:List ae)=>D.row 80 8 (l.map aj)) a0.Tasks):CL 26 #[.agg #[sv ba,sv a6]] w (Ret No w (λs:Hd=>.tuple #[sv s,.bool r.2]) (λs=>[ac (sv s) 33 1 (λ(l:List ab)=>D.row 62 5 (l.map ah)) r.1])):=by
 unfold cM at h
 refine au func26 z z ?_
 have s:=Sep.start w
 refine .g (.c (.box s z z ?_))
 intro g1 W s
 refine .q z (.qn z (.g (.c (.lg (L1:=[]) [] (λ(l:List ab)=>D.row 62 5 (l.map ah)) u29 t33 (s.to [0]) z z z (.nil) ?_ z (λ_=>z)))))
 intro v1 W s
 refine .qn z (.seq (.g (.s (ld t26 s.p1 z z z z z) z (bv h λy1 hy1 h=>.c (.cO s func53 (n8 hy1 (s.keep eg) (s.keep aH)) z z ?_)))))
 intro W s
 refine .q z (.nil ?_)
 refine .cs z h ?_ ?_ <;> intro h
 ·cases h
  exact .g (.q z (.q z (.qn z (.ret (aa (vs:=[_,_]) v1 (rt z (rt z rn)) z (s.tk [0]))))))
 refine .skip (.seq (.g (.qn z (.block (bv h λy2 hy2 h=>?_)))))
 refine .via (.iter (λs1 E' W'=>∃ (v4:Hd),ak E' [(1,Pt g1),(4,(sv v4)),(5,vi s1.2)]/\Sep No w W' [.box g1 26 [sv ba,sv a6],ac (sv v4) 33 1 (λ(l:List ab)=>D.row 62 5 (l.map ah)) s1.1]) (λy3 x E' W'=>x=.exit 0/\∃ (v5:Hd),ak E' [(4,(sv v5))]/\Sep No w W' [.box g1 26 [sv ba,sv a6],ac (sv v5) 33 1 (λ(l:List ab)=>D.row 62 5 (l.map ah)) y3]) hy2 ⟨v1,sb z,s.tk [1,0]⟩ ?_) ?_
 ·intro s1 y4 E W h hI
  obtain ⟨v3,hE,s⟩:=hI
  refine CW.sub hE ?_
  unfold dP at h
  refine .seq (.g (.q z (.s (fa f26_1 z z z) z (.s (ld t24 s z z z z z) z (.s (aE (s.keep aH) u24 z z) z (.q z (.nil ?_)))))))
  refine .cs z h ?_ ?_ <;> intro h
  ·refine .skip (.seq (.block (.g (.s (fa f26_1 z z z) z (.s (ld t24 s z z z z z) z (.q z (bv h λx1 hx1 h=>?_)))))))
   obtain ⟨k1,hd,hck1⟩:=RV.el2 aH hx1
   obtain ⟨v6,k1,rfl,q5,hd1⟩:=cw aH hd
   obtain rfl:=kT aH hd1
   refine .s (ixv (s.keep aH) hx1 u24 t36 z z z) z (.s (lde (hck1 _ s.agree) t36 z z z z z) z (bv h λy5 hy5 h=>.c (.cV s func54 (oP hy5 (s.keep (q5 _ aH))) z z ?_)))
   intro v7 W s
   refine .q z (.q z (.q z (.q z (.qn z (.region (.q z (.q z (.c (.lg (L1:=[ac (sv v7) 62 5 ah y5.1]) [y5.1] (λ(l:List ab)=>D.row 62 5 (l.map ah)) u29 t33 (s.to [0,0,0]) z z z (.row (.nil)) ?_ z (λ_=>z))))))))))
   intro v8 W s
   refine bv h λr1 hr1 h=>.c (.appv hr1 (s.to [2,0,0]) u29 t33 z z z ?_)
   intro v9 W s
   refine .qn z (.region (.q z (.q z (.q z (.nil ?_)))))
   cases h
   exact ⟨z,v9,sb z,s.tk [1,0]⟩
  refine .exit ?_
  cases h
  exact ⟨by simp,z,v3,sb z,s.tk [0,0]⟩
 intro x E W hJ
 obtain ⟨rfl,v10,hE,s⟩:=hJ
 refine ⟨_,hE.sub,?_⟩
 cases h
 exact .g (.q z (.q z (.qn z (.ret (aa (vs:=[_,_]) v10 (rt z (rt z rn)) z (s.tk [1]))))))
theorem mu {a0:Int} {a1:Bool} {w:World} {r:Bool} (h:iG a0 a1=some r):CL 151 #[vi a0,.bool a1] w (RU w (.bool r)):=by
 unfold iG at h
 refine au func151 z z ?_
 have s:=Sep.start w
 refine .g (.qn z (.seq (.g (.q z (.nil ?_)))))
 refine .cs z h ?_ ?_ <;> intro h
 ·refine .g (.q z (bv h λy1 hy1 h=>.c (.cO s func55 (bO hy1) z z ?_)))
  intro W s
  obtain rfl:=o9 h
  exact .qn z (.ret (aa () (rt z rn) z (s.to [])))
 cases h
 exact .skip (.g (.q z (.q z (.qn z (.ret (aa () (rt z rn) z (s.to [])))))))
theorem co {a0:ab} {a1:Bool} {a2:Bool} {a3:Bool} {w:World} {r:Bool} (h:bV a0 a1 a2 a3=some r):CL 124 #[.agg #[vi a0.Op,vi a0.Dst,vi a0.A,vi a0.B,vi a0.N],.bool a1,.bool a2,.bool a3] w (RU w (.bool r)):=by
 unfold bV at h
 refine au func124 z z ?_
 have s:=Sep.start w
 refine .g (.c (.box s z z ?_))
 intro g1 W s
 refine .qn z (.g (.s (fa f62_1 z z z) z (.s (ld t3 s z z z z z) z (.q z (bv h λy1 hy1 h=>.c (.cO s func151 (mu hy1) z z ?_))))))
 intro W s
 refine .q z (bv h λb1 hb1 h=>.cu 5 18 (b1) s ?_ ?_)
 ·refine .both (y1) (λb=>?_) (λb=>?_)
  ·have hg1:=b
   have h:=aJ b hb1
   refine .g hg1 (.s (fa f62_2 z z z) z (.g hg1 (.s (ld t3 s z z z z z) z (.g hg1 (.q z (bv h λy2 hy2 h=>.g hg1 (.c (.cO s func151 (mu hy2) z z ?_))))))))
   intro W s
   refine .s (pkt hg1 z z z) z ?_
   cases h
   exact .nil (ck 5 s)
  refine .xx b z (.xx b z (.xx b z (.xx b z ?_)))
  cases aK b hb1
  exact .s (pkf b z z z) z (.nil (ck 5 s))
 intro W s
 refine .q z (bv h λb2 hb2 h=>.cu 5 24 (b2) s ?_ ?_)
 ·refine .both (b1) (λb=>?_) (λb=>?_)
  ·have hg2:=b
   have h:=aJ b hb2
   refine .g hg2 (.s (fa f62_3 z z z) z (.g hg2 (.s (ld t3 s z z z z z) z (.g hg2 (.q z (bv h λy3 hy3 h=>.g hg2 (.c (.cO s func151 (mu hy3) z z ?_))))))))
   intro W s
   refine .s (pkt hg2 z z z) z ?_
   cases h
   exact .nil (ck 5 s)
  refine .xx b z (.xx b z (.xx b z (.xx b z ?_)))
  cases aK b hb2
  exact .s (pkf b z z z) z (.nil (ck 5 s))
 intro W s
 obtain rfl:=o9 h
 exact .qn z (.ret (aa () (rt z rn) z (s.to [])))
theorem kL {a0:Int} {w:World} {r:Bool} (h:bQ a0=some r):CL 125 #[vi a0] w (RU w (.bool r)):=by
 unfold bQ at h
 refine au func125 z z ?_
 have s:=Sep.start w
 refine .g (.qn z (.g (.q z (bv h λy1 hy1 h=>.c (.cO s func55 (bO hy1) z z ?_)))))
 intro W s
 obtain rfl:=o9 h
 exact .qn z (.ret (aa () (rt z rn) z (s.to [])))
theorem kM {a0:ab} {a1:Int} {w:World} {r:Bool} (h:eG a0 a1=some r):CL 89 #[.agg #[vi a0.Op,vi a0.Dst,vi a0.A,vi a0.B,vi a0.N],vi a1] w (RU w (.bool r)):=by
 unfold eG at h
 refine au func89 z z ?_
 have s:=Sep.start w
 refine .g (.c (.box s z z ?_))
 intro g1 W s
 refine .qn z (.seq (.g (.s (fa f62_0 z z z) z (.s (ld t3 s z z z z z) z (.nil (.block (.g (.q z (.q z (.nil ?_))))))))))
 refine .cs z h ?_ ?_ <;> intro h
 ·refine .g (.s (ld t62 s z z z z z) z (bv h λy1 hy1 h=>.c (.cO s func124 (co hy1) z z ?_)))
  intro W s
  refine .q z (bv h λb1 hb1 h=>.cu 4 15 (b1) s ?_ ?_)
  ·refine .both (y1) (λb=>?_) (λb=>?_)
   ·have hg1:=b
    have h:=aJ b hb1
    refine .g hg1 (.s (fa f62_4 z z z) z (.g hg1 (.s (ld t3 s z z z z z) z (bv h λy2 hy2 h=>.g hg1 (.c (.cO s func125 (kL hy2) z z ?_))))))
    intro W s
    refine .s (pkt hg1 z z z) z ?_
    cases h
    exact .nil (ck 4 s)
   refine .xx b z (.xx b z (.xx b z ?_))
   cases aK b hb1
   exact .s (pkf b z z z) z (.nil (ck 4 s))
  intro W s
  obtain rfl:=o9 h
  exact .qn z (.ret (aa () (rt z rn) z (s.to [])))
 refine .g (.q z (.q z (.nil ?_)))
 refine .cs z h ?_ ?_ <;> intro h
 ·refine .g (.s (ld t62 s z z z z z) z (bv h λy3 hy3 h=>.c (.cO s func124 (co hy3) z z ?_)))
  intro W s
  refine .q z (.cu 4 24 (y3&&(a0.N==0)) s ?_ ?_)
  ·refine .both (y3) (λb=>?_) (λb=>?_)
   ·have hg2:=b
    exact .g hg2 (.s (fa f62_4 z z z) z (.g hg2 (.s (ld t3 s z z z z z) z (.g hg2 (.q z (.s (pkt hg2 z z z) z (.nil (ck 4 s z (bh hg2)))))))))
   exact .xx b z (.xx b z (.xx b z (.s (pkf b z z z) z (.nil (ck 4 s z (bi b))))))
  intro W s
  cases h
  exact .qn z (.ret (aa () (rt z rn) z (s.to [])))
 refine .g (.q z (.q z (.nil ?_)))
 refine .cs z h ?_ ?_ <;> intro h
 ·refine .g (.s (ld t62 s z z z z z) z (bv h λy4 hy4 h=>.c (.cO s func124 (co hy4) z z ?_)))
  intro W s
  refine .q z (bv h λb2 hb2 h=>.cu 4 33 (b2) s ?_ ?_)
  ·refine .both (y4) (λb=>?_) (λb=>?_)
   ·have hg3:=b
    have h:=aJ b hb2
    refine .g hg3 (.s (fa f62_4 z z z) z (.g hg3 (.s (ld t3 s z z z z z) z (bv h λy5 hy5 h=>.g hg3 (.c (.cO s func126 (lS hy5) z z ?_))))))
    intro W s
    refine .s (pkt hg3 z z z) z ?_
    cases h
    exact .nil (ck 4 s)
   refine .xx b z (.xx b z (.xx b z ?_))
   cases aK b hb2
   exact .s (pkf b z z z) z (.nil (ck 4 s))
  intro W s
  obtain rfl:=o9 h
  exact .qn z (.ret (aa () (rt z rn) z (s.to [])))
 refine .g (.q z (.q z (.nil ?_)))
 refine .cs z h ?_ ?_ <;> intro h
 ·refine .g (.s (ld t62 s z z z z z) z (bv h λy6 hy6 h=>.c (.cO s func124 (co hy6) z z ?_)))
  intro W s
  refine .q z (.cu 4 42 (y6&&(decide (a0.N>=0))) s ?_ ?_)
  ·refine .both (y6) (λb=>?_) (λb=>?_)
   ·have hg4:=b
    exact .g hg4 (.s (fa f62_4 z z z) z (.g hg4 (.s (ld t3 s z z z z z) z (.g hg4 (.q z (.s (pkt hg4 z z z) z (.nil (ck 4 s z (bh hg4)))))))))
   exact .xx b z (.xx b z (.xx b z (.s (pkf b z z z) z (.nil (ck 4 s z (bi b))))))
  intro W s
  refine .q z (.cu 5 48 ((y6&&(decide (a0.N>=0)))&&(decide (a0.N<a1))) s ?_ ?_)
  ·refine .both (y6&&(decide (a0.N>=0))) (λb=>?_) (λb=>?_)
   ·have hg5:=b
    exact .g hg5 (.s (fa f62_4 z z z) z (.g hg5 (.s (ld t3 s z z z z z) z (.g hg5 (.q z (.g hg5 (.q z (.s (pkt hg5 z z z) z (.nil (ck 5 s z (bh hg5)))))))))))
   exact .xx b z (.xx b z (.xx b z (.xx b z (.s (pkf b z z z) z (.nil (ck 5 s z (bi b)))))))
  intro W s
  cases h
  exact .qn z (.ret (aa () (rt z rn) z (s.to [])))
 refine .g (.q z (.q z (.nil ?_)))
 refine .cs z h ?_ ?_ <;> intro h
 ·refine .g (.s (ld t62 s z z z z z) z (bv h λy7 hy7 h=>.c (.cO s func124 (co hy7) z z ?_)))
  intro W s
  refine .q z (.cu 4 57 (y7&&(decide (a0.N>=0))) s ?_ ?_)
  ·refine .both (y7) (λb=>?_) (λb=>?_)
   ·have hg6:=b
    exact .g hg6 (.s (fa f62_4 z z z) z (.g hg6 (.s (ld t3 s z z z z z) z (.g hg6 (.q z (.s (pkt hg6 z z z) z (.nil (ck 4 s z (bh hg6)))))))))
   exact .xx b z (.xx b z (.xx b z (.s (pkf b z z z) z (.nil (ck 4 s z (bi b))))))
  intro W s
  refine .q z (.cu 5 63 ((y7&&(decide (a0.N>=0)))&&(decide (a0.N<a1))) s ?_ ?_)
  ·refine .both (y7&&(decide (a0.N>=0))) (λb=>?_) (λb=>?_)
   ·have hg7:=b
    exact .g hg7 (.s (fa f62_4 z z z) z (.g hg7 (.s (ld t3 s z z z z z) z (.g hg7 (.q z (.g hg7 (.q z (.s (pkt hg7 z z z) z (.nil (ck 5 s z (bh hg7)))))))))))
   exact .xx b z (.xx b z (.xx b z (.xx b z (.s (pkf b z z z) z (.nil (ck 5 s z (bi b)))))))
  intro W s
  cases h
  exact .qn z (.ret (aa () (rt z rn) z (s.to [])))
 refine .g (.q z (.q z (.nil ?_)))
 refine .cs z h ?_ ?_ <;> intro h
 ·refine .g (.s (ld t62 s z z z z z) z (bv h λy8 hy8 h=>.c (.cO s func124 (co hy8) z z ?_)))
  intro W s
  refine .q z (bv h λb3 hb3 h=>.cu 4 72 (b3) s ?_ ?_)
  ·refine .both (y8) (λb=>?_) (λb=>?_)
   ·have hg8:=b
    have h:=aJ b hb3
    refine .g hg8 (.s (fa f62_4 z z z) z (.g hg8 (.s (ld t3 s z z z z z) z (bv h λy9 hy9 h=>.g hg8 (.c (.cO s func55 (bO hy9) z z ?_))))))
    intro W s
    refine .s (pkt hg8 z z z) z ?_
    cases h
    exact .nil (ck 4 s)
   refine .xx b z (.xx b z (.xx b z ?_))
   cases aK b hb3
   exact .s (pkf b z z z) z (.nil (ck 4 s))
  intro W s
  obtain rfl:=o9 h
  exact .qn z (.ret (aa () (rt z rn) z (s.to [])))
 refine .g (.q z (.q z (.nil ?_)))
 refine .cs z h ?_ ?_ <;> intro h
 ·refine .g (.s (ld t62 s z z z z z) z (bv h λy10 hy10 h=>.c (.cO s func124 (co hy10) z z ?_)))
  intro W s
  refine .q z (bv h λb4 hb4 h=>.cu 4 81 (b4) s ?_ ?_)
  ·refine .both (y10) (λb=>?_) (λb=>?_)
   ·have hg9:=b
    have h:=aJ b hb4
    refine .g hg9 (.s (fa f62_4 z z z) z (.g hg9 (.s (ld t3 s z z z z z) z (bv h λy11 hy11 h=>.g hg9 (.c (.cO s func55 (bO hy11) z z ?_))))))
    intro W s
    refine .s (pkt hg9 z z z) z ?_
    cases h
    exact .nil (ck 4 s)
   refine .xx b z (.xx b z (.xx b z ?_))
   cases aK b hb4
   exact .s (pkf b z z z) z (.nil (ck 4 s))
  intro W s
  obtain rfl:=o9 h
  exact .qn z (.ret (aa () (rt z rn) z (s.to [])))
 refine .g (.q z (.q z (.nil ?_)))
 refine .cs z h ?_ ?_ <;> intro h
 ·refine .g (.s (ld t62 s z z z z z) z (bv h λy12 hy12 h=>.c (.cO s func124 (co hy12) z z ?_)))
  intro W s
  refine .q z (.cu 4 90 (y12&&(a0.N==0)) s ?_ ?_)
  ·refine .both (y12) (λb=>?_) (λb=>?_)
   ·have hg10:=b
    exact .g hg10 (.s (fa f62_4 z z z) z (.g hg10 (.s (ld t3 s z z z z z) z (.g hg10 (.q z (.s (pkt hg10 z z z) z (.nil (ck 4 s z (bh hg10)))))))))
   exact .xx b z (.xx b z (.xx b z (.s (pkf b z z z) z (.nil (ck 4 s z (bi b))))))
  intro W s
  cases h
  exact .qn z (.ret (aa () (rt z rn) z (s.to [])))
 refine bv h λy13 hy13 h=>?_
 refine .seq (CW.via (R':=λx E' W'=>x=.normal/\ak E' [(2,Pt g1),(91,.bool y13)]/\Sep No w W' [.box g1 62 [vi a0.Op,vi a0.Dst,vi a0.A,vi a0.B,vi a0.N]]) ?_ ?_)
 ·have h:=hy13
  refine .g (.q z (.q z (.nil ?_)))
  refine .cs z h ?_ ?_ <;> intro h
  ·refine .skip ?_
   cases h
   exact ⟨z,sb z,s.tk [0]⟩
  refine .region (.q z (.q z (.nil ?_)))
  cases h
  exact ⟨z,sb z,s.tk [0]⟩
 intro x E W hJ
 obtain ⟨rfl,hE,s⟩:=hJ
 refine ⟨_,hE.sub,?_⟩
 refine .cs z h ?_ ?_ <;> intro h
 ·refine .g (.s (ld t62 s z z z z z) z (bv h λy14 hy14 h=>.c (.cO s func124 (co hy14) z z ?_)))
  intro W s
  refine .q z (.cu 4 100 (y14&&(a0.N==0)) s ?_ ?_)
  ·refine .both (y14) (λb=>?_) (λb=>?_)
   ·have hg11:=b
    exact .g hg11 (.s (fa f62_4 z z z) z (.g hg11 (.s (ld t3 s z z z z z) z (.g hg11 (.q z (.s (pkt hg11 z z z) z (.nil (ck 4 s z (bh hg11)))))))))
   exact .xx b z (.xx b z (.xx b z (.s (pkf b z z z) z (.nil (ck 4 s z (bi b))))))
  intro W s
  cases h
  exact .qn z (.ret (aa () (rt z rn) z (s.to [])))
 obtain rfl:=o9 h
 exact .skip (.g (.qn z (.ret (aa () (rt z rn) z (s.to [])))))
def rh (w:World) (r:Bool):Env->World->Prop:=Fin Tryz.prog Tryz.f57 No w (λs:Unit=>.bool r) (λs=>[]) .ret
theorem bn {a0:List ab} {v_0:Hd} {w:World} {r:Bool} (h:aO a0=some r) (q_0:RO w v_0 62 5 ah a0):CL 57 #[sv v_0] w (RU w (.bool r)):=by
 unfold aO at h
 refine au func57 z z ?_
 have s:=Sep.start w
 refine .g (.qn z (.g (.q z (.s (aE (s.keep q_0) u33 z z) z (.qn z (.seq (.g (.q z (bv h λy1 hy1 h=>.c (.cO s func55 (bO hy1) z z ?_))))))))))
 intro W s
 refine .q z (.nil ?_)
 refine .cs z h ?_ ?_ <;> intro h
 ·obtain rfl:=o9 h
  exact .g (.qn z (.ret (aa () (rt z rn) z (s.to []))))
 refine .skip (.seq (.g (.qn z (.block (bv h λy2 hy2 h=>?_)))))
 refine .via (.iter (λs1 E' W'=>ak E' [(0,(sv v_0)),(3,vi (a0.length:Int)),(4,vi s1)]/\Sep No w W' []) (λy3 x E' W'=>(match y3 with | .inl o1=>x=.ret/\rh w o1 E' W' | .inr o2=>x=.exit 0/\ak E' [(0,(sv v_0)),(3,vi (a0.length:Int))]/\Sep No w W' [])) hy2 ⟨sb rfl,s.to [] rfl⟩ ?_) ?_
 ·intro s1 y4 E W h hI
  obtain ⟨hE,s⟩:=hI
  refine CW.sub hE ?_
  unfold ky at h
  refine .seq (.g (.q z (.q z (.q z (.nil ?_)))))
  refine .cs z h ?_ ?_ <;> intro h
  ·refine .skip (.seq (.block (.g (.q z (.q z (bv h λx1 hx1 h=>.s (ixv (s.keep q_0) hx1 u33 t62 z z z) z (.s (lde (RV.flat (s.keep q_0) hx1 z) t62 z z z z z) z (.q z (bv h λy5 hy5 h=>.c (.cO s func89 (kM hy5) z z ?_))))))))))
   intro W s
   refine .q z (.nil ?_)
   refine .cs z h ?_ ?_ <;> intro h
   ·refine .g (.qn z (.ret ?_))
    cases h
    exact ⟨by simp,z,aa (vs:=[_]) () (rt z rn) z (s.to [])⟩
   refine .skip (.region (.q z (.q z (.q z (.nil ?_)))))
   cases h
   exact ⟨z,sb z,s.to []⟩
  refine .exit ?_
  cases h
  exact ⟨by simp,z,sb z,s.to []⟩
 intro x E W hJ
 rcases y2 with o3 | o4
 ·have h:=dl h
  obtain ⟨rfl,hF⟩:=hJ
  refine ⟨_,λ_ _ h=>h,?_⟩
  cases h
  exact hF
 have h:=dm h
 obtain ⟨rfl,hE,s⟩:=hJ
 refine ⟨_,hE.sub,?_⟩
 refine .g (.q z (.q z (.q z (bv h λx2 hx2 h=>.s (ixv (s.keep q_0) hx2 u33 t62 z z z) z (.s (fe f62_0 z z z) z (.s (lde (RV.flat (s.keep q_0) hx2 z) t3 z z z z z) z (.q z (.q z (bv h λb1 hb1 h=>.cu 8 37 (b1) s ?_ ?_)))))))))
 ·refine .both (x2.Op==10) (λb=>?_) (λb=>?_)
  ·refine .xx b z (.xx b z (.xx b z (.xx b z (.xx b z (.xx b z (.xx b z ?_))))))
   cases aJ b hb1
   exact .s (pkt b z z z) z (.nil (ck 8 s))
  have hg1:=b
  have h:=aK b hb1
  refine .g hg1 (.q z (.g hg1 (.q z (.g hg1 (.q z (bv h λx3 hx3 h=>.g hg1 (.s (ixv (s.keep q_0) hx3 u33 t62 z z z) z (.g hg1 (.s (fe f62_0 z z z) z (.g hg1 (.s (lde (RV.flat (s.keep q_0) hx3 z) t3 z z z z z) z (.g hg1 (.q z (.s (pkf hg1 z z z) z ?_))))))))))))))
  cases h
  exact .nil (ck 8 s)
 intro W s
 obtain rfl:=o9 h
 exact .qn z (.ret (aa () (rt z rn) z (s.to [])))
theorem jW {a0:List ab} {a1:Int} {v_0:Hd} {w:World} {r:(List Int)} (h:dh a0 a1=some r) (q_0:RO w v_0 62 5 ah a0):CL 153 #[sv v_0,vi a1] w (Ret No w (λs:Hd=>(sv s)) (λs=>[ac (sv s) 3 1 (D.int .i64) r])):=by
 unfold dh at h
 refine au func153 z z ?_
 have s:=Sep.start w
 refine .g (.qn z (.g (.q z (.q z (bv h λx1 hx1 h=>.s (ixv (s.keep q_0) hx1 u33 t62 z z z) z (.s (lde (RV.flat (s.keep q_0) hx1 z) t62 z z z z z) z (.c (.alloc t62 s ?_))))))))
 intro g1 W s
 refine .c (.st t62 s z z z ?_)
 intro W s
 refine .nil (.seq (.block (.g (.s (fa f62_0 z z z) z (.s (ld t3 s z z z z z) z (.q z (.q z (.nil ?_))))))))
 refine .cs z h ?_ ?_ <;> intro h
 ·refine .g (.c (.liv [] (D.int .i64) u23 t3 s z z z z ?_ z (λ_=>z)))
  intro v1 W s
  cases h
  exact .qn z (.ret (aa v1 (rt z rn) z (s.tk [0])))
 refine .g (.s (fa f62_0 z z z) z (.s (ld t3 s z z z z z) z (.q z (.q z (.nil ?_)))))
 refine .cs z h ?_ ?_ <;> intro h
 ·refine .g (.s (fa f62_4 z z z) z (.s (ld t3 s z z z z z) z (.c (.liv [x1.N] (D.int .i64) u23 t3 s z z z z ?_ z (λ_=>z)))))
  intro v2 W s
  cases h
  exact .qn z (.ret (aa v2 (rt z rn) z (s.tk [0])))
 refine .g (.s (fa f62_0 z z z) z (.s (ld t3 s z z z z z) z (.q z (.q z (.cu 6 32 ((x1.Op==5)&&(decide (x1.N<(w64 (a1+1))))) s ?_ ?_)))))
 ·refine .both (x1.Op==5) (λb=>?_) (λb=>?_)
  ·have hg1:=b
   exact .g hg1 (.s (fa f62_4 z z z) z (.g hg1 (.s (ld t3 s z z z z z) z (.g hg1 (.q z (.g hg1 (.q z (.g hg1 (.q z (.s (pkt hg1 z z z) z (.nil (ck 6 s z (bh hg1)))))))))))))
  exact .xx b z (.xx b z (.xx b z (.xx b z (.xx b z (.s (pkf b z z z) z (.nil (ck 6 s z (bi b))))))))
 intro W s
 refine .q z (.nil ?_)
 refine .cs z h ?_ ?_ <;> intro h
 ·refine .g (.s (fa f62_4 z z z) z (.s (ld t3 s z z z z z) z (.q z (.q z (.c (.liv [x1.N,w64 (a1+1)] (D.int .i64) u23 t3 s z z z z ?_ z (λ_=>z)))))))
  intro v3 W s
  cases h
  exact .qn z (.ret (aa v3 (rt z rn) z (s.tk [0])))
 refine .g (.s (fa f62_0 z z z) z (.s (ld t3 s z z z z z) z (.q z (.q z (.cu 6 48 ((x1.Op==5)&&(decide (x1.N>(w64 (a1+1))))) s ?_ ?_)))))
 ·refine .both (x1.Op==5) (λb=>?_) (λb=>?_)
  ·have hg2:=b
   exact .g hg2 (.s (fa f62_4 z z z) z (.g hg2 (.s (ld t3 s z z z z z) z (.g hg2 (.q z (.g hg2 (.q z (.g hg2 (.q z (.s (pkt hg2 z z z) z (.nil (ck 6 s z (bh hg2)))))))))))))
  exact .xx b z (.xx b z (.xx b z (.xx b z (.xx b z (.s (pkf b z z z) z (.nil (ck 6 s z (bi b))))))))
 intro W s
 refine .q z (.nil ?_)
 refine .cs z h ?_ ?_ <;> intro h
 ·refine .g (.q z (.q z (.s (fa f62_4 z z z) z (.s (ld t3 s z z z z z) z (.c (.liv [w64 (a1+1),x1.N] (D.int .i64) u23 t3 s z z z z ?_ z (λ_=>z)))))))
  intro v4 W s
  cases h
  exact .qn z (.ret (aa v4 (rt z rn) z (s.tk [0])))
 refine .skip (.g (.q z (.q z (.c (.liv [w64 (a1+1)] (D.int .i64) u23 t3 s z z z z ?_ z (λ_=>z))))))
 intro v5 W s
 cases h
 exact .qn z (.ret (aa v5 (rt z rn) z (s.tk [0])))
theorem ri {a0:List ab} {a1:List ai} {a2:Int} {v_0:Hd} {v_1:Hd} {w:World} {r:(List Int)} (h:fE a0 a1 a2=some r) (q_0:RO w v_0 62 5 ah a0) (q_1:RO w v_1 90 2 aX a1):CL 184 #[sv v_0,sv v_1,vi a2] w (Ret No w (λs:Hd=>(sv s)) (λs=>[ac (sv s) 3 1 (D.int .i64) r])):=by
 unfold fE at h
 refine au func184 z z ?_
 have s:=Sep.start w
 refine .g (.qn z (.g (.q z (.q z (bv h λx1 hx1 h=>.s (ixv (s.keep q_0) hx1 u33 t62 z z z) z (.s (lde (RV.flat (s.keep q_0) hx1 z) t62 z z z z z) z (.c (.alloc t62 s ?_))))))))
 intro g1 W s
 refine .c (.st t62 s z z z ?_)
 intro W s
 refine .nil (.seq (.g (.s (fa f62_0 z z z) z (.s (ld t3 s z z z z z) z (.q z (.q z (bv h λb1 hb1 h=>.cu 8 23 (b1) s ?_ ?_)))))))
 ·refine .both (x1.Op !=5) (λb=>?_) (λb=>?_)
  ·refine .xx b z (.xx b z (.xx b z (.xx b z (.xx b z (.xx b z (.xx b z ?_))))))
   cases aJ b hb1
   exact .s (pkt b z z z) z (.nil (ck 8 s))
  have hg1:=b
  have h:=aK b hb1
  refine .g hg1 (.q z (.g hg1 (.s (fa f62_2 z z z) z (.g hg1 (.s (ld t3 s z z z z z) z (bv h λx2 hx2 h=>.g hg1 (.s (ixv (s.keep q_1) hx2 u166 t90 z z z) z (.g hg1 (.s (fe f90_0 z z z) z (.g hg1 (.s (lde (RV.flat (s.keep q_1) hx2 z) t3 z z z z z) z (.g hg1 (.q z (.s (pkf hg1 z z z) z ?_))))))))))))))
  cases h
  exact .nil (ck 8 s)
 intro W s
 refine .nil ?_
 refine .cs z h ?_ ?_ <;> intro h
 ·refine .g (.q z (.q z (bv h λy1 hy1 h=>.c (.cV s func153 (jW hy1 (s.keep q_0)) z z ?_))))
  intro v1 W s
  obtain rfl:=o9 h
  exact .qn z (.ret (aa v1 (rt z rn) z (s.tk [0])))
 refine .skip (.seq (.g (.q z (.s (fa f62_2 z z z) z (.s (ld t3 s z z z z z) z (bv h λx3 hx3 h=>.s (ixv (s.keep q_1) hx3 u166 t90 z z z) z (.s (fe f90_1 z z z) z (.s (lde (RV.flat (s.keep q_1) hx3 z) t3 z z z z z) z (.q z (.nil ?_))))))))))
 refine .cs z h ?_ ?_ <;> intro h
 ·refine .g (.s (fa f62_4 z z z) z (.s (ld t3 s z z z z z) z (.c (.liv [x1.N] (D.int .i64) u23 t3 s z z z z ?_ z (λ_=>z)))))
  intro v2 W s
  cases h
  exact .qn z (.ret (aa v2 (rt z rn) z (s.tk [0])))
 refine .skip (.g (.q z (.q z (.c (.liv [w64 (a2+1)] (D.int .i64) u23 t3 s z z z z ?_ z (λ_=>z))))))
 intro v3 W s
 cases h
 exact .qn z (.ret (aa v3 (rt z rn) z (s.tk [0])))
theorem n9 {a0:Bool} {w:World} {r:Int} (h:j8 a0=some r):CL 195 #[.bool a0] w (RU w (.int .i64 r)):=by
 unfold j8 at h
 refine au func195 z z ?_
 have s:=Sep.start w
 refine .g (.qn z (.seq (.g (.q z (.nil ?_)))))
 refine .cs z h ?_ ?_ <;> intro h
 ·cases h
  exact .g (.qn z (.ret (aa () (rt z rn) z (s.to []))))
 cases h
 exact .skip (.g (.qn z (.ret (aa () (rt z rn) z (s.to [])))))
theorem kN {a0:Int} {w:World} {r:Int} (h:eU a0=some r):CL 197 #[vi a0] w (RU w (.int .i64 r)):=by
 unfold eU at h
 refine au func197 z z ?_
 have s:=Sep.start w
 refine .g (.qn z (.g (.q z (.q z (.qn z (.seq (.g (.q z (.q z (.nil ?_))))))))))
 refine .cs z h ?_ ?_ <;> intro h
 ·cases h
  exact .g (.q z (.q z (.qn z (.ret (aa () (rt z rn) z (s.to []))))))
 refine .skip (.seq (.g (.q z (.q z (.nil ?_)))))
 refine .cs z h ?_ ?_ <;> intro h
 ·cases h
  exact .g (.q z (.q z (.qn z (.ret (aa () (rt z rn) z (s.to []))))))
 cases h
 exact .skip (.g (.q z (.qn z (.ret (aa () (rt z rn) z (s.to []))))))
theorem nu {a0:Int} {a1:Int} {a2:Bool} {w:World} {r:Int} (h:gB a0 a1 a2=some r):CL 196 #[vi a0,vi a1,.bool a2] w (RU w (.int .i64 r)):=by
 unfold gB at h
 refine au func196 z z ?_
 have s:=Sep.start w
 refine .g (.qn z (.seq (.g (.q z (.nil ?_)))))
 refine .cs z h ?_ ?_ <;> intro h
 ·refine .g (.q z (.q z (.q z (bv h λd1 hd1 h=>.s (iU hd1 z z z) z (.qn z (.ret ?_))))))
  obtain rfl:=o9 h
  exact aa () (rt z rn) z (s.to [])
 refine .skip (.g (.q z (.q z (.q z (bv h λd2 hd2 h=>.s (iU hd2 z z z) z (bv h λy1 hy1 h=>.c (.cO s func197 (kN hy1) z z ?_)))))))
 intro W s
 obtain rfl:=o9 h
 exact .qn z (.ret (aa () (rt z rn) z (s.to [])))
theorem rj {a0:Int} {a1:Int} {w:World} {r:Int} (h:jD a0 a1=some r):CL 198 #[vi a0,vi a1] w (RU w (.int .i64 r)):=by
 unfold jD at h
 refine au func198 z z ?_
 have s:=Sep.start w
 refine .g (.qn z (.seq (.g (.q z (.q z (.nil ?_))))))
 refine .cs z h ?_ ?_ <;> intro h
 ·cases h
  exact .g (.qn z (.ret (aa () (rt z rn) z (s.to []))))
 refine .skip (.g (.q z (.q z (bv h λd1 hd1 h=>.s (dq hd1 z z z) z (bv h λy1 hy1 h=>.c (.cO s func197 (kN hy1) z z ?_))))))
 intro W s
 obtain rfl:=o9 h
 exact .qn z (.ret (aa () (rt z rn) z (s.to [])))
theorem rl {a0:Int} {a1:Int} {w:World} {r:Int} (h:jE a0 a1=some r):CL 199 #[vi a0,vi a1] w (RU w (.int .i64 r)):=by
 unfold jE at h
 refine au func199 z z ?_
 have s:=Sep.start w
 refine .g (.qn z (.seq (.g (.q z (.q z (.nil ?_))))))
 refine .cs z h ?_ ?_ <;> intro h
 ·obtain rfl:=o9 h
  exact .g (.q z (.qn z (.ret (aa () (rt z rn) z (s.to [])))))
 refine .skip (.g (.q z (.q z (bv h λd1 hd1 h=>.s (dr hd1 z z z) z (.qn z (.ret ?_))))))
 obtain rfl:=o9 h
 exact aa () (rt z rn) z (s.to [])
theorem tY {a0:Int} {a1:Int} {a2:Int} {w:World} {r:Int×Bool} (h:iH a0 a1 a2=some r):CL 193 #[vi a0,vi a1,vi a2] w (RU w (.tuple #[vi r.1,.bool r.2])):=by
 unfold iH at h
 refine au func193 z z ?_
 have s:=Sep.start w
 refine .g (.q z (.qn z (.seq (.g (.q z (bv h λy1 hy1 h=>.c (.cO s func126 (lS hy1) z z ?_)))))))
 intro W s
 refine .q z (.q z (bv h λb1 hb1 h=>.cu 4 15 (b1) s ?_ ?_))
 ·refine .both (!y1) (λb=>?_) (λb=>?_)
  ·refine .xx b z (.xx b z (.xx b z ?_))
   cases aJ b hb1
   exact .s (pkt b z z z) z (.nil (ck 4 s))
  have hg1:=b
  have h:=aK b hb1
  refine .g hg1 (.q z (bv h λy2 hy2 h=>.g hg1 (.c (.cO s func125 (kL hy2) z z ?_))))
  intro W s
  refine .g hg1 (.q z (.s (pkf hg1 z z z) z ?_))
  cases h
  exact .nil (ck 4 s)
 intro W s
 refine .q z (bv h λb2 hb2 h=>.cu 4 20 (b2) s ?_ ?_)
 ·refine .both (b1) (λb=>?_) (λb=>?_)
  ·refine .xx b z (.xx b z (.xx b z ?_))
   cases aJ b hb2
   exact .s (pkt b z z z) z (.nil (ck 4 s))
  have hg2:=b
  have h:=aK b hb2
  refine .g hg2 (.q z (bv h λy3 hy3 h=>.g hg2 (.c (.cO s func125 (kL hy3) z z ?_))))
  intro W s
  refine .g hg2 (.q z (.s (pkf hg2 z z z) z ?_))
  cases h
  exact .nil (ck 4 s)
 intro W s
 refine .nil ?_
 refine .cs z h ?_ ?_ <;> intro h
 ·cases h
  exact .g (.q z (.qn z (.ret (aa (vs:=[_,_]) () (rt z (rt z rn)) z (s.to [])))))
 refine .skip (.seq (.g (.qn z (.block (.g (.q z (.q z (.nil ?_))))))))
 refine .cs z h ?_ ?_ <;> intro h
 ·cases h
  exact .g (.q z (.q z (.q z (.q z (.qn z (.ret (aa (vs:=[_,_]) () (rt z (rt z rn)) z (s.to []))))))))
 refine .g (.q z (.q z (.nil ?_)))
 refine .cs z h ?_ ?_ <;> intro h
 ·cases h
  exact .g (.q z (.q z (.q z (.q z (.qn z (.ret (aa (vs:=[_,_]) () (rt z (rt z rn)) z (s.to []))))))))
 refine .g (.q z (.q z (.nil ?_)))
 refine .cs z h ?_ ?_ <;> intro h
 ·cases h
  exact .g (.q z (.q z (.q z (.q z (.qn z (.ret (aa (vs:=[_,_]) () (rt z (rt z rn)) z (s.to []))))))))
 refine .g (.q z (.q z (.nil ?_)))
 refine .cs z h ?_ ?_ <;> intro h
 ·refine .g (.q z (.q z (.q z (bv h λy4 hy4 h=>.c (.cO s func195 (n9 hy4) z z ?_)))))
  intro W s
  cases h
  exact .q z (.qn z (.ret (aa (vs:=[_,_]) () (rt z (rt z rn)) z (s.to []))))
 refine .g (.q z (.q z (.nil ?_)))
 refine .cs z h ?_ ?_ <;> intro h
 ·refine .g (.q z (.q z (.q z (bv h λy5 hy5 h=>.c (.cO s func195 (n9 hy5) z z ?_)))))
  intro W s
  cases h
  exact .q z (.qn z (.ret (aa (vs:=[_,_]) () (rt z (rt z rn)) z (s.to []))))
 refine .g (.q z (.q z (.nil ?_)))
 refine .cs z h ?_ ?_ <;> intro h
 ·refine .g (.q z (.q z (bv h λy6 hy6 h=>.c (.cO s func196 (nu hy6) z z ?_))))
  intro W s
  cases h
  exact .q z (.qn z (.ret (aa (vs:=[_,_]) () (rt z (rt z rn)) z (s.to []))))
 refine .g (.q z (.q z (.nil ?_)))
 refine .cs z h ?_ ?_ <;> intro h
 ·refine .g (.q z (.q z (bv h λy7 hy7 h=>.c (.cO s func196 (nu hy7) z z ?_))))
  intro W s
  cases h
  exact .q z (.qn z (.ret (aa (vs:=[_,_]) () (rt z (rt z rn)) z (s.to []))))
 refine .g (.q z (.q z (.nil ?_)))
 refine .cs z h ?_ ?_ <;> intro h
 ·refine .g (.q z (.q z (.q z (bv h λy8 hy8 h=>.c (.cO s func197 (kN hy8) z z ?_)))))
  intro W s
  cases h
  exact .q z (.qn z (.ret (aa (vs:=[_,_]) () (rt z (rt z rn)) z (s.to []))))
 refine .g (.q z (.q z (.nil ?_)))
 refine .cs z h ?_ ?_ <;> intro h
 ·refine .g (.q z (.q z (.q z (bv h λy9 hy9 h=>.c (.cO s func197 (kN hy9) z z ?_)))))
  intro W s
  cases h
  exact .q z (.qn z (.ret (aa (vs:=[_,_]) () (rt z (rt z rn)) z (s.to []))))
 refine .g (.q z (.q z (.nil ?_)))
 refine .cs z h ?_ ?_ <;> intro h
 ·refine .g (.q z (.q z (.q z (bv h λy10 hy10 h=>.c (.cO s func197 (kN hy10) z z ?_)))))
  intro W s
  cases h
  exact .q z (.qn z (.ret (aa (vs:=[_,_]) () (rt z (rt z rn)) z (s.to []))))
 refine .g (.q z (.q z (.nil ?_)))
 refine .cs z h ?_ ?_ <;> intro h
 ·refine .g (.q z (.q z (bv h λy11 hy11 h=>.c (.cO s func198 (rj hy11) z z ?_))))
  intro W s
  cases h
  exact .q z (.qn z (.ret (aa (vs:=[_,_]) () (rt z (rt z rn)) z (s.to []))))
 refine .skip (.g (.q z (.q z (bv h λy12 hy12 h=>.c (.cO s func199 (rl hy12) z z ?_)))))
 intro W s
 cases h
 exact .q z (.qn z (.ret (aa (vs:=[_,_]) () (rt z (rt z rn)) z (s.to []))))
theorem mG {a0:ab} {a1:ai} {a2:ai} {w:World} {r:ai} (h:cd a0 a1 a2=some r):CL 187 #[.agg #[vi a0.Op,vi a0.Dst,vi a0.A,vi a0.B,vi a0.N],.agg #[vi a1.Kind,vi a1.N],.agg #[vi a2.Kind,vi a2.N]] w (RU w (.agg #[vi r.Kind,vi r.N])):=by
 unfold cd at h
 refine au func187 z z ?_
 have s:=Sep.start w
 refine .g (.c (.box s z z ?_))
 intro g1 W s
 refine .c (.box s z z ?_)
 intro g2 W s
 refine .c (.box s z z ?_)
 intro g3 W s
 refine .c (.alloc t90 s ?_)
 intro g4 W s
 refine .nil (.seq (.g (.s (fa f90_0 z z z) z (.s (ld t3 s.p2 z z z z z) z (.q z (.q z (.cu 4 16 ((a1.Kind !=1)||(a2.Kind !=1)) s ?_ ?_)))))))
 ·refine .both (a1.Kind !=1) (λb=>?_) (λb=>?_)
  ·exact .xx b z (.xx b z (.xx b z (.s (pkt b z z z) z (.nil (ck 4 s z (jr b))))))
  have hg1:=b
  exact .g hg1 (.s (fa f90_0 z z z) z (.g hg1 (.s (ld t3 s.p1 z z z z z) z (.g hg1 (.q z (.s (pkf hg1 z z z) z (.nil (ck 4 s z (iR hg1)))))))))
 intro W s
 refine .nil ?_
 refine .cs z h ?_ ?_ <;> intro h
 ·refine .g (.s (bs T.s90 z z) z (.c (.st t90 s z z z ?_)))
  intro W s
  cases h
  exact .nil (.ret (aa () (rc s t90 z rn z z) z (s.to [])))
 refine .skip (.g (.s (fa f62_4 z z z) z (.s (ld t3 s.p3 z z z z z) z (.s (fa f90_1 z z z) z (.s (ld t3 s.p2 z z z z z) z (.s (fa f90_1 z z z) z (.s (ld t3 s.p1 z z z z z) z (bv h λy1 hy1 h=>.c (.cO s func193 (tY hy1) z z ?_)))))))))
 intro W s
 refine .q z (.q z (.q z (.q z (.qn z (.g (.q z (.s (bs T.s90 z z) z (.c (.st t90 s z z z ?_)))))))))
 intro W s
 cases h
 exact .nil (.ret (aa () (rc s t90 z rn z z) z (s.to [])))
theorem ro {a0:ab} {a1:List ai} {v_1:Hd} {w:World} {r:(List ai)} (h:fF a0 a1=some r) (q_1:RO w v_1 90 2 aX a1):CL 185 #[.agg #[vi a0.Op,vi a0.Dst,vi a0.A,vi a0.B,vi a0.N],sv v_1] w (Ret No w (λs:Hd=>(sv s)) (λs=>[ac (sv s) 90 2 aX r])):=by
 unfold fF at h
 refine au func185 z z ?_
 have s:=Sep.start w
 refine .g (.c (.box s z z ?_))
 intro g1 W s
 refine .qn z (.g (.c (.liv [] aX u166 t90 s z z z z ?_ z (λ_=>z))))
 intro v1 W s
 refine .q z (bv h λr1 hr1 h=>.c (.av hr1 s (s.keep q_1) (λ_=>z) u166 t90 z z z ?_))
 intro v2 W s
 refine .qn z (.seq (.g (.s (fa f62_0 z z z) z (.s (ld t3 s.p1 z z z z z) z (.nil (.block (.g (.q z (.q z (.nil ?_))))))))))
 refine .cs z h ?_ ?_ <;> intro h
 ·refine .region (.q z (.s (fa f62_1 z z z) z (.s (ld t3 s.p1 z z z z z) z (.s (fa f62_4 z z z) z (.s (ld t3 s.p1 z z z z z) z (.s (bs T.s90 z z) z (bv h λx1 hx1 h=>.s (ixv s.lv hx1 u166 t90 z z z) z (bv h λr2 hr2 h=>.c (.sev hr2 hx1 s t90 z z z z z z ?_)))))))))
  intro W s
  obtain rfl:=o9 h
  exact .nil (.g (.q z (.qn z (.ret (aa v2 (rt z rn) z (s.tk [0]))))))
 refine .g (.q z (.q z (.nil ?_)))
 refine .cs z h ?_ ?_ <;> intro h
 ·refine .rk 9 s [0,0] T.mix ?_
  intro W s
  have t:=s.to [0,0]
  refine .tp' 0 z z t (.ts' 1 z (λW t=>fa f62_1 z z z) t z (.ts' 2 z (λW t=>ld t3 t.p1 z z z z z) t z (.tp' 3 z z t (.ts' 4 z (λW t=>fa f62_2 z z z) t z (.ts' 5 z (λW t=>ld t3 t.p1 z z z z z) t z (bv h λx2 hx2 h=>.ts' 6 z (λW t=>ixv (s.keep q_1) hx2 u166 t90 z z z) t z (.ts' 7 z (λW t=>lde (RV.flat (t.keep q_1) hx2 z) t90 z z z z z) t z (bv h λx3 hx3 h=>.ts' 8 z (λW t=>ixv s.lv hx3 u166 t90 z z z) t z (bv h λr3 hr3 h=>.by1 9 z (.sev hr3 hx3 s t90 z z z z z z ?_))))))))))
  intro W s
  refine ⟨λh=>absurd z h,?_⟩
  obtain rfl:=o9 h
  exact .done (.g (.q z (.qn z (.ret (aa v2 (rt z rn) z (s.tk [0]))))))
 refine .g (.q z (.q z (.nil ?_)))
 refine .cs z h ?_ ?_ <;> intro h
 ·refine .region (.q z (.s (fa f62_1 z z z) z (.s (ld t3 s.p1 z z z z z) z (.s (bs T.s90 z z) z (bv h λx4 hx4 h=>.s (ixv s.lv hx4 u166 t90 z z z) z (bv h λr4 hr4 h=>.c (.sev hr4 hx4 s t90 z z z z z z ?_)))))))
  intro W s
  obtain rfl:=o9 h
  exact .nil (.g (.q z (.qn z (.ret (aa v2 (rt z rn) z (s.tk [0]))))))
 refine .g (.q z (.q z (.nil ?_)))
 refine .cs z h ?_ ?_ <;> intro h
 ·refine .rk 16 s [0,0] T.mix ?_
  intro W s
  have t:=s.to [0,0]
  refine .tp' 0 z z t (.ts' 1 z (λW t=>fa f62_1 z z z) t z (.ts' 2 z (λW t=>ld t3 t.p1 z z z z z) t z (.ts' 3 z (λW t=>ld t62 t.p1 z z z z z) t z (.tp' 4 z z t (.ts' 5 z (λW t=>fa f62_2 z z z) t z (.ts' 6 z (λW t=>ld t3 t.p1 z z z z z) t z (bv h λx5 hx5 h=>.ts' 7 z (λW t=>ixv (s.keep q_1) hx5 u166 t90 z z z) t z (.ts' 8 z (λW t=>lde (RV.flat (t.keep q_1) hx5 z) t90 z z z z z) t z (.tp' 9 z z t (.ts' 10 z (λW t=>fa f62_3 z z z) t z (.ts' 11 z (λW t=>ld t3 t.p1 z z z z z) t z (bv h λx6 hx6 h=>.ts' 12 z (λW t=>ixv (s.keep q_1) hx6 u166 t90 z z z) t z (.ts' 13 z (λW t=>lde (RV.flat (t.keep q_1) hx6 z) t90 z z z z z) t z (bv h λy1 hy1 h=>.by1 14 z (.cO s func187 (mG hy1) z z ?_)))))))))))))))
  intro W s
  refine s.an [0,0] λt=>bv h λx7 hx7 h=>.ts' 15 z (λW t=>ixv s.lv hx7 u166 t90 z z z) t z (bv h λr5 hr5 h=>.by1 16 z (.sev hr5 hx7 s t90 z z z z z z ?_))
  intro W s
  refine ⟨λh=>absurd z h,?_⟩
  obtain rfl:=o9 h
  exact .done (.g (.q z (.qn z (.ret (aa v2 (rt z rn) z (s.tk [0]))))))
 obtain rfl:=o9 h
 exact .skip (.g (.q z (.qn z (.ret (aa v2 (rt z rn) z (s.tk [0]))))))
theorem nv {a0:ai} {a1:ai} {w:World} {r:ai} (h:gC a0 a1=some r):CL 192 #[.agg #[vi a0.Kind,vi a0.N],.agg #[vi a1.Kind,vi a1.N]] w (RU w (.agg #[vi r.Kind,vi r.N])):=by
 unfold gC at h
 refine au func192 z z ?_
 have s:=Sep.start w
 refine .g (.c (.box s z z ?_))
 intro g1 W s
 refine .c (.box s z z ?_)
 intro g2 W s
 refine .c (.alloc t90 s ?_)
 intro g3 W s
 refine .nil (.seq (.g (.s (fa f90_0 z z z) z (.s (ld t3 s.p2 z z z z z) z (.q z (.nil ?_))))))
 refine .cs z h ?_ ?_ <;> intro h
 ·refine .g (.s (ld t90 s.p1 z z z z z) z (.c (.st t90 s z z z ?_)))
  intro W s
  obtain rfl:=o9 h
  exact .nil (.ret (aa () (rc s t90 z rn z z) z (s.to [])))
 refine .skip (.seq (.g (.s (fa f90_0 z z z) z (.s (ld t3 s.p1 z z z z z) z (.q z (.q z (.cu 4 16 ((a1.Kind==0)||((a0.Kind==a1.Kind)&&((a0.N==a1.N)&&true))) s ?_ ?_)))))))
 ·refine .both (a1.Kind==0) (λb=>?_) (λb=>?_)
  ·exact .xx b z (.xx b z (.xx b z (.s (pkt b z z z) z (.nil (ck 4 s z (jr b))))))
  have hg1:=b
  exact .g hg1 (.s (ld t90 s.p2 z z z z z) z (.g hg1 (.s (ld t90 s.p1 z z z z z) z (.g hg1 (.s (eqs T.e90 z z z z) z (.s (pkf hg1 z z z) z (.nil (ck 4 s z (iR hg1)))))))))
 intro W s
 refine .nil ?_
 refine .cs z h ?_ ?_ <;> intro h
 ·refine .g (.s (ld t90 s.p2 z z z z z) z (.c (.st t90 s z z z ?_)))
  intro W s
  obtain rfl:=o9 h
  exact .nil (.ret (aa () (rc s t90 z rn z z) z (s.to [])))
 refine .skip (.g (.s (bs T.s90 z z) z (.c (.st t90 s z z z ?_))))
 intro W s
 cases h
 exact .nil (.ret (aa () (rc s t90 z rn z z) z (s.to [])))
theorem rp {a0:List (List ai)} {a1:Int} {a2:List ai} {v_0:Hd} {v_2:Hd} {S:Nat->Prop} {w:World} {r:Bool×(List (List ai))} (h:fG a0 a1 a2=some r) (q_2:RV w (Old S w) (sv v_2) 90 2 aX a2) (hO:bu w [ac (sv v_0) 166 1 (λ(l:List ai)=>D.row 90 2 (l.map aX)) a0] S) (hlt:∀ b,S b->b<w.heap.size):CL 186 #[sv v_0,vi a1,sv v_2] w (Ret S w (λs:Unit=>.bool r.1) (λs=>[ac (sv v_0) 166 1 (λ(l:List ai)=>D.row 90 2 (l.map aX)) r.2])):=by
 unfold fG at h
 refine au func186 z z ?_
 have s:=Sep.sm hO hlt
 refine .g (.qn z (.g (.qn z (.seq (.g (.qn z (.block (bv h λy1 hy1 h=>?_))))))))
 refine .via (.iter (λs1 E' W'=>ak E' [(0,(sv v_0)),(1,vi a1),(2,(sv v_2)),(7,.bool s1.1),(8,vi s1.2.1)]/\Sep S w W' [ac (sv v_0) 166 1 (λ(l:List ai)=>D.row 90 2 (l.map aX)) s1.2.2]) (λy2 x E' W'=>x=.exit 0/\ak E' [(7,.bool y2.1)]/\Sep S w W' [ac (sv v_0) 166 1 (λ(l:List ai)=>D.row 90 2 (l.map aX)) y2.2]) hy1 ⟨sb z,s.tk [0]⟩ ?_) ?_
 ·intro s1 y3 E W h hI
  obtain ⟨hE,s⟩:=hI
  refine CW.sub hE ?_
  unfold i3 at h
  refine .seq (.g (.q z (.q z (.nil ?_))))
  refine .cs z h ?_ ?_ <;> intro h
  ·refine .skip (bv h λy4 hy4 h=>?_)
   refine .seq (CW.via (R':=λx E' W'=>x=.normal/\ak E' [(0,(sv v_0)),(1,vi a1),(2,(sv v_2)),(7,.bool y4.1),(8,vi s1.2.1)]/\Sep S w W' [ac (sv v_0) 166 1 (λ(l:List ai)=>D.row 90 2 (l.map aX)) y4.2]) ?_ ?_)
   ·have h:=hy4
    refine .block (.seq (bv h λx1 hx1 h=>?_))
    obtain ⟨k1,s⟩:=Sep.ov s hx1
    obtain ⟨v1,k1,rfl,s⟩:=s.ow
    obtain ⟨rfl,s⟩:=s.oN
    refine bv h λx4 hx4 h=>bv h λx5 hx5 h=>bv h λy6 hy6 h=>?_
    refine .via (R':=λx E' W'=>x=.normal/\∃ (g2:Nat),ak E' [(0,(sv v_0)),(1,vi a1),(2,(sv v_2)),(7,.bool s1.1),(8,vi s1.2.1),(9,Pt g2)]/\Sep S w W' [ac (sv v_0) 166 1 (λ(l:List ai)=>D.row 90 2 (l.map aX)) s1.2.2,.box g2 90 [vi y6.Kind,vi y6.N]]) ?_ ?_
    ·refine .rk 13 s [0,0] T.mix ?_
     intro W s
     have t:=s.to [0,0]
     refine .tp' 0 z z t (.tp' 1 z z t (.ts' 2 z (λW t=>ixh t.p1 hx1 u163 t166 z z z) t z (.ts' 3 z (λW t=>lde (t.p1.hcellsv) t166 z z z z z) t z (.tp' 4 z z t (.ts' 5 z (λW t=>ixv s.lv hx4 u166 t90 z z z) t z (.ts' 6 z (λW t=>lde (RV.flat t.lv hx4 z) t90 z z z z z) t z (.tp' 7 z z t (.tp' 8 z z t (.ts' 9 z (λW t=>ixv (s.keep q_2) hx5 u166 t90 z z z) t z (.ts' 10 z (λW t=>lde (RV.flat (t.keep q_2) hx5 z) t90 z z z z z) t z (.by [11,12] ⟨⟨_,z,?_⟩,⟨_,z,?_⟩,trivial⟩)))))))))))
     ·refine (.cO s func192 (nv hy6) z z ?_)
      intro W s
      refine s.an [0,0] λt=>.by1 12 z (.alloc t90 s ?_)
      intro g3 W s
      refine s.an [1,1] λt=>.by1 13 z (.st t90 s z z z ?_)
      intro W s
      refine ⟨λh=>absurd z h,?_⟩
      refine .done ?_
      have s:=Sep.gat (ds:=[.row 90 2 (x1.map aX)]) (cs:=[sv v1]) (L1:=[ac (sv v1) 90 2 aX x1]) (.row (.nil)) (s.to [1,1,0])
      have s:Sep _ _ _ [ac (sv v_0) 166 1 (λ(l:List ai)=>D.row 90 2 (l.map aX)) s1.2.2,.box g3 90 [vi y6.Kind,vi y6.N]]:=Sep.back0v hx1 s
      exact ⟨z,g3,sb z,s.tk [0,0]⟩
     refine (.alloc t90 s ?_)
     intro g4 W s
     refine s.an [1,1] λt=>.by1 11 z (.cO s func192 (nv hy6) z z ?_)
     intro W s
     refine s.an [1,1] λt=>.by1 13 z (.st t90 s z z z ?_)
     intro W s
     refine ⟨λh=>absurd z h,?_⟩
     refine .done ?_
     have s:=Sep.gat (ds:=[.row 90 2 (x1.map aX)]) (cs:=[sv v1]) (L1:=[ac (sv v1) 90 2 aX x1]) (.row (.nil)) (s.to [1,1,0])
     have s:Sep _ _ _ [ac (sv v_0) 166 1 (λ(l:List ai)=>D.row 90 2 (l.map aX)) s1.2.2,.box g4 90 [vi y6.Kind,vi y6.N]]:=Sep.back0v hx1 s
     exact ⟨z,g4,sb z,s.tk [0,0]⟩
    intro x E W hJ
    obtain ⟨rfl,g5,hE,s⟩:=hJ
    refine ⟨_,hE.sub,?_⟩
    refine .seq (bv h λx6 hx6 h=>?_)
    obtain ⟨k2,s⟩:=Sep.ov s hx6
    obtain ⟨v2,k2,rfl,s⟩:=s.ow
    obtain ⟨rfl,s⟩:=s.oN
    refine .rk 9 s [0,0,0] T.mix ?_
    intro W s
    have t:=s.to [0,0,0]
    refine .ts' 0 z (λW t=>ld t90 t.p2 z z z z z) t z (.tp' 1 z z t (.tp' 2 z z t (.ts' 3 z (λW t=>ixh t.p1 hx6 u163 t166 z z z) t z (.ts' 4 z (λW t=>lde (t.p1.hcellsv) t166 z z z z z) t z (.tp' 5 z z t (bv h λx8 hx8 h=>.ts' 6 z (λW t=>ixv s.lv hx8 u166 t90 z z z) t z (.ts' 7 z (λW t=>lde (RV.flat t.lv hx8 z) t90 z z z z z) t z (.ts' 8 z (λW t=>nes T.e90 z z z z) t z (.done ?_)))))))))
    refine .cs z h ?_ ?_ <;> intro h
    ·refine .seq (.rk 7 s [0,0,0] T.mix ?_)
     intro W s
     have t:=s.to [0,0,0]
     refine .tp' 0 z z t (.tp' 1 z z t (.ts' 2 z (λW t=>ixh t.p1 hx6 u163 t166 z z z) t z (.ts' 3 z (λW t=>lde (t.p1.hcellsv) t166 z z z z z) t z (.tp' 4 z z t (.ts' 5 z (λW t=>ld t90 t.p2 z z z z z) t z (bv h λx9 hx9 h=>.ts' 6 z (λW t=>ixv s.lv hx9 u166 t90 z z z) t z (bv h λr1 hr1 h=>.by1 7 z (.sev hr1 hx9 s t90 z z z z z z ?_))))))))
     intro W s
     refine ⟨λh=>absurd z h,?_⟩
     refine .done (.region (.q z (.nil ?_)))
     have s:=Sep.gat (ds:=[.row 90 2 (r1.map aX)]) (cs:=[sv v2]) (L1:=[ac (sv v2) 90 2 aX r1]) (.row (.nil)) (s.to [0,0,0])
     have s:Sep _ _ _ [ac (sv v_0) 166 1 (λ(l:List ai)=>D.row 90 2 (l.map aX)) (s1.2.2.set (Int.toNat a1) r1),.box g5 90 [vi y6.Kind,vi y6.N]]:=s.bv
     cases h
     exact ⟨z,sb z,s.tk [0]⟩
    refine .skip ?_
    have s:=Sep.gat (ds:=[.row 90 2 (x6.map aX)]) (cs:=[sv v2]) (L1:=[ac (sv v2) 90 2 aX x6]) (.row (.nil)) (s.to [0,0,0])
    have s:Sep _ _ _ [ac (sv v_0) 166 1 (λ(l:List ai)=>D.row 90 2 (l.map aX)) s1.2.2,.box g5 90 [vi y6.Kind,vi y6.N]]:=Sep.back0v hx6 s
    cases h
    exact ⟨z,sb z,s.tk [0]⟩
   intro x E W hJ
   obtain ⟨rfl,hE,s⟩:=hJ
   refine ⟨_,hE.sub,?_⟩
   refine .region (.q z (.q z (.q z (.nil ?_))))
   cases h
   exact ⟨z,sb z,s.tk [0]⟩
  refine .exit ?_
  cases h
  exact ⟨by simp,z,sb z,s.tk [0]⟩
 intro x E W hJ
 obtain ⟨rfl,hE,s⟩:=hJ
 refine ⟨_,hE.sub,?_⟩
 cases h
 exact .g (.q z (.qn z (.ret (aa () (rt z rn) z (s.tk [0])))))
theorem rq {a0:List ab} {a1:List (List ai)} {v_0:Hd} {v_1:Hd} {S:Nat->Prop} {w:World} {r:Bool×(List (List ai))} (h:fH a0 a1=some r) (q_0:RV w (Old S w) (sv v_0) 62 5 ah a0) (hO:bu w [ac (sv v_1) 166 1 (λ(l:List ai)=>D.row 90 2 (l.map aX)) a1] S) (hlt:∀ b,S b->b<w.heap.size):CL 171 #[sv v_0,sv v_1] w (Ret S w (λs:Unit=>.bool r.1) (λs=>[ac (sv v_1) 166 1 (λ(l:List ai)=>D.row 90 2 (l.map aX)) r.2])):=by
 unfold fH at h
 refine au func171 z z ?_
 have s:=Sep.sm hO hlt
 refine .g (.qn z (.g (.qn z (.seq (.g (.qn z (.block (bv h λy1 hy1 h=>?_))))))))
 refine .via (.iter (λs1 E' W'=>ak E' [(0,(sv v_0)),(1,(sv v_1)),(5,.bool s1.1),(6,vi s1.2.1)]/\Sep S w W' [ac (sv v_1) 166 1 (λ(l:List ai)=>D.row 90 2 (l.map aX)) s1.2.2]) (λy2 x E' W'=>x=.exit 0/\ak E' [(5,.bool y2.1)]/\Sep S w W' [ac (sv v_1) 166 1 (λ(l:List ai)=>D.row 90 2 (l.map aX)) y2.2]) hy1 ⟨sb z,s.tk [0]⟩ ?_) ?_
 ·intro s1 y3 E W h hI
  obtain ⟨hE,s⟩:=hI
  refine CW.sub hE ?_
  unfold i5 at h
  refine .seq (.g (.q z (.q z (.s (aE (s.keep q_0) u33 z z) z (.q z (.nil ?_))))))
  refine .cs z h ?_ ?_ <;> intro h
  ·refine .skip (bv h λy4 hy4 h=>?_)
   refine .seq (CW.via (R':=λx E' W'=>x=.normal/\ak E' [(0,(sv v_0)),(1,(sv v_1)),(5,.bool y4.1),(6,vi s1.2.1)]/\Sep S w W' [ac (sv v_1) 166 1 (λ(l:List ai)=>D.row 90 2 (l.map aX)) y4.2]) ?_ ?_)
   ·have h:=hy4
    refine .block (.seq (.g (.q z (.q z (bv h λx1 hx1 h=>.s (ixv s.lv hx1 u163 t166 z z z) z ?_)))))
    obtain ⟨k1,s⟩:=Sep.ov s hx1
    obtain ⟨v1,k1,rfl,s⟩:=s.ow
    obtain ⟨rfl,s⟩:=s.oN
    refine .s (lde (s.p1.hcellsv) t166 z z z z z) z (bv h λx2 hx2 h=>.s (ixv s.lv hx2 u166 t90 z z z) z (.s (fe f90_0 z z z) z (.s (lde (RV.flat s.lv hx2 z) t3 z z z z z) z (.q z (.nil ?_)))))
    refine .cs z h ?_ ?_ <;> intro h
    ·refine .exit ?_
     have s:=Sep.gat (ds:=[.row 90 2 (x1.map aX)]) (cs:=[sv v1]) (L1:=[ac (sv v1) 90 2 aX x1]) (.row (.nil)) (s.to [0,0])
     have s:Sep _ _ _ [ac (sv v_1) 166 1 (λ(l:List ai)=>D.row 90 2 (l.map aX)) s1.2.2]:=Sep.back0v hx1 s
     cases h
     exact ⟨z,sb z,s.tk [0]⟩
    refine .skip (.g (.q z (.q z (.q z (.s (ixh s.p1 hx1 u163 t166 z z z) z (.s (lde (s.p1.hcellsv) t166 z z z z z) z (.q z (bv h λy5 hy5 h=>.c (.cV s func184 (ri hy5 (s.keep q_0) s.lv) z z ?_)))))))))
    intro v2 W s
    refine .qn z (.seq (.rk 10 s [0,0,0] T.mix ?_))
    intro W s
    have t:=s.to [0,0,0]
    refine .tp' 0 z z t (.tp' 1 z z t (bv h λx3 hx3 h=>.ts' 2 z (λW t=>ixv (s.keep q_0) hx3 u33 t62 z z z) t z (.ts' 3 z (λW t=>lde (RV.flat (t.keep q_0) hx3 z) t62 z z z z z) t z (.tp' 4 z z t (.tp' 5 z z t (.ts' 6 z (λW t=>ixh t.p2 hx1 u163 t166 z z z) t z (.ts' 7 z (λW t=>lde (t.p2.hcellsv) t166 z z z z z) t z (bv h λy6 hy6 h=>.by1 8 z (.cV s func185 (ro hy6 s.p1.lv) z z ?_)))))))))
    intro v3 W s
    refine s.an [1,1,1] λt=>.tp' 9 z z t (.done (.g (.qn z (.block ?_))))
    have s:=Sep.gat (ds:=[.row 90 2 (x1.map aX)]) (cs:=[sv v1]) (L1:=[ac (sv v1) 90 2 aX x1]) (.row (.nil)) (s.to [2,2,0,0])
    have s:Sep _ _ _ [ac (sv v_1) 166 1 (λ(l:List ai)=>D.row 90 2 (l.map aX)) s1.2.2,ac (sv v3) 90 2 aX y6,ac (sv v2) 3 1 (D.int .i64) y5]:=Sep.back0v hx1 s
    refine bv h λy7 hy7 h=>?_
    refine .via (.iter (λs2 E' W'=>ak E' [(0,(sv v_0)),(1,(sv v_1)),(5,.bool s2.1),(6,vi s1.2.1),(7,(sv v2)),(8,(sv v3)),(9,vi s2.2.1)]/\Sep S w W' [ac (sv v_1) 166 1 (λ(l:List ai)=>D.row 90 2 (l.map aX)) s2.2.2,ac (sv v3) 90 2 aX y6,ac (sv v2) 3 1 (D.int .i64) y5]) (λy8 x E' W'=>x=.exit 2/\ak E' [(0,(sv v_0)),(1,(sv v_1)),(5,.bool y8.1),(6,vi s1.2.1)]/\Sep S w W' [ac (sv v_1) 166 1 (λ(l:List ai)=>D.row 90 2 (l.map aX)) y8.2,ac (sv v3) 90 2 aX y6,ac (sv v2) 3 1 (D.int .i64) y5]) hy7 ⟨sb z,s.tk [0,0,0]⟩ ?_) ?_
    ·intro s2 y9 E W h hI
     obtain ⟨hE,s⟩:=hI
     refine CW.sub hE ?_
     unfold i4 at h
     refine .seq (.g (.q z (.q z (.s (aE s.p2.lv u23 z z) z (.qn z (.cond z (λb=>?_) (λb=>?_)))))))
     ·have h:=aJ b h
      refine .skip (bv h λy10 hy10 h=>?_)
      refine .seq (CW.via (R':=λx E' W'=>x=.normal/\ak E' [(0,(sv v_0)),(1,(sv v_1)),(5,.bool y10.1),(6,vi s1.2.1),(7,(sv v2)),(8,(sv v3)),(9,vi s2.2.1)]/\Sep S w W' [ac (sv v_1) 166 1 (λ(l:List ai)=>D.row 90 2 (l.map aX)) y10.2,ac (sv v3) 90 2 aX y6,ac (sv v2) 3 1 (D.int .i64) y5]) ?_ ?_)
      ·have h:=hy10
       refine .block (.g (.q z (.q z (.q z (bv h λx4 hx4 h=>.s (ixv s.p2.lv hx4 u23 t3 z z z) z (.s (lde (RV.flat s.p2.lv hx4 z) t3 z z z z z) z (.q z (bv h λy11 hy11 h=>.c (.cS (L0:=[ac (sv v_1) 166 1 (λ(l:List ai)=>D.row 90 2 (l.map aX)) s2.2.2]) s func186 (λS h1 h2 h3=>(rp hy11 (h3.rdv (k:=0) z) h2 (zz h1))) z z ?_)))))))))
       rintro ⟨⟩ W s
       refine .nil ?_
       refine .cs z h ?_ ?_ <;> intro h
       ·refine .region (.q z (.nil ?_))
        cases h
        exact ⟨z,sb z,s.tk [0,0,0]⟩
       refine .skip ?_
       cases h
       exact ⟨z,sb z,s.tk [0,0,0]⟩
      intro x E W hJ
      obtain ⟨rfl,hE,s⟩:=hJ
      refine ⟨_,hE.sub,?_⟩
      refine .region (.q z (.q z (.q z (.nil ?_))))
      cases h
      exact ⟨z,sb z,s.tk [0,0,0]⟩
     have h:=aK b h
     refine .exit ?_
     cases h
     exact ⟨by simp,z,sb z,s.tk [0,0,0]⟩
    intro x E W hJ
    obtain ⟨rfl,hE,s⟩:=hJ
    refine ⟨_,hE.sub,?_⟩
    cases h
    exact ⟨z,sb z,s.tk [0]⟩
   intro x E W hJ
   obtain ⟨rfl,hE,s⟩:=hJ
   refine ⟨_,hE.sub,?_⟩
   refine .region (.q z (.q z (.q z (.nil ?_))))
   cases h
   exact ⟨z,sb z,s.tk [0]⟩
  refine .exit ?_
  cases h
  exact ⟨by simp,z,sb z,s.tk [0]⟩
 intro x E W hJ
 obtain ⟨rfl,hE,s⟩:=hJ
 refine ⟨_,hE.sub,?_⟩
 cases h
 exact .g (.q z (.qn z (.ret (aa () (rt z rn) z (s.tk [0])))))
theorem so {a0:List ab} {v_0:Hd} {w:World} {r:(List (List ai))} (h:fr a0=some r) (q_0:RO w v_0 62 5 ah a0):CL 142 #[sv v_0] w (Ret No w (λs:Hd=>(sv s)) (λs=>[ac (sv s) 166 1 (λ(l:List ai)=>D.row 90 2 (l.map aX)) r])):=by
 unfold fr at h
 refine au func142 z z ?_
 have s:=Sep.start w
 refine .g (.qn z (.g (.c (.lg (L1:=[]) [] (λ(l:List ai)=>D.row 90 2 (l.map aX)) u163 t166 (s.to []) z z z (.nil) ?_ z (λ_=>z)))))
 intro v1 W s
 refine .qn z (.seq (.g (.q z (bv h λy1 hy1 h=>.c (.cO s func57 (bn hy1 (s.keep q_0)) z z ?_)))))
 intro W s
 refine .qn z (.cond z (λb=>?_) (λb=>?_))
 ·have h:=aJ b h
  cases h
  exact .g (.q z (.qn z (.ret (aa v1 (rt z rn) z (s.tk [0])))))
 have h:=aK b h
 refine .skip (.seq (.g (.qn z (.block (bv h λy2 hy2 h=>?_)))))
 refine .via (.iter (λs1 E' W'=>∃ (v4:Hd),ak E' [(0,(sv v_0)),(3,(sv v4)),(4,vi s1.2)]/\Sep No w W' [ac (sv v4) 166 1 (λ(l:List ai)=>D.row 90 2 (l.map aX)) s1.1]) (λy3 x E' W'=>x=.exit 0/\∃ (v5:Hd),ak E' [(0,(sv v_0)),(3,(sv v5))]/\Sep No w W' [ac (sv v5) 166 1 (λ(l:List ai)=>D.row 90 2 (l.map aX)) y3]) hy2 ⟨v1,sb z,s.tk [0]⟩ ?_) ?_
 ·intro s1 y4 E W h hI
  obtain ⟨v3,hE,s⟩:=hI
  refine CW.sub hE ?_
  unfold jM at h
  refine .seq (.g (.q z (.q z (.s (aE (s.keep q_0) u33 z z) z (.q z (.nil ?_))))))
  refine .cs z h ?_ ?_ <;> intro h
  ·refine .skip (.seq (.block (.region (.q z (bv h λr1 hr1 h=>.c (.mkv (ai.mk 0 0) aX hr1 u166 t90 s z z z z z (λ_=>z) ?_))))))
   intro v6 W s
   refine .c (.lg (L1:=[ac (sv v6) 90 2 aX r1]) [r1] (λ(l:List ai)=>D.row 90 2 (l.map aX)) u163 t166 (s.to [0,0]) z z z (.row (.nil)) ?_ z (λ_=>z))
   intro v7 W s
   refine bv h λr2 hr2 h=>.c (.appv hr2 (s.to [1,0]) u163 t166 z z z ?_)
   intro v8 W s
   refine .qn z (.region (.q z (.q z (.q z (.nil ?_)))))
   cases h
   exact ⟨z,v8,sb z,s.tk [0]⟩
  refine .exit ?_
  cases h
  exact ⟨by simp,z,v3,sb z,s.tk [0]⟩
 intro x E W hJ
 obtain ⟨rfl,v9,hE,s⟩:=hJ
 refine ⟨_,hE.sub,?_⟩
 refine .seq (.g (.qn z (.block (bv h λy5 hy5 h=>?_))))
 refine .via (.iter (λs2 E' W'=>ak E' [(0,(sv v_0)),(3,(sv v9)),(5,vi s2.1)]/\Sep No w W' [ac (sv v9) 166 1 (λ(l:List ai)=>D.row 90 2 (l.map aX)) s2.2]) (λy6 x E' W'=>x=.exit 2/\ak E' [(0,(sv v_0)),(3,(sv v9))]/\Sep No w W' [ac (sv v9) 166 1 (λ(l:List ai)=>D.row 90 2 (l.map aX)) y6]) hy5 ⟨sb z,s.tk [0]⟩ ?_) ?_
 ·intro s2 y7 E W h hI
  obtain ⟨hE,s⟩:=hI
  refine CW.sub hE ?_
  unfold jN at h
  refine .seq (.g (.q z (.q z (.nil ?_))))
  refine .cs z h ?_ ?_ <;> intro h
  ·refine .skip (.seq (.block (.region (.q z (bv h λx1 hx1 h=>.s (ixv s.lv hx1 u163 t166 z z z) z ?_)))))
   obtain ⟨k1,s⟩:=Sep.ov s hx1
   obtain ⟨v10,k1,rfl,s⟩:=s.ow
   obtain ⟨rfl,s⟩:=s.oN
   refine .s (lde (s.p1.hcellsv) t166 z z z z z) z (.q z (.s (bs T.s90 z z) z (bv h λx2 hx2 h=>.s (ixv s.lv hx2 u166 t90 z z z) z (bv h λr3 hr3 h=>.c (.sev hr3 hx2 s t90 z z z z z z ?_)))))
   intro W s
   refine .nil (.region (.q z (.q z (.q z (.nil ?_)))))
   have s:=Sep.gat (ds:=[.row 90 2 (r3.map aX)]) (cs:=[sv v10]) (L1:=[ac (sv v10) 90 2 aX r3]) (.row (.nil)) (s.to [0,0])
   have s:Sep _ _ _ [ac (sv v9) 166 1 (λ(l:List ai)=>D.row 90 2 (l.map aX)) (s2.2.set (Int.toNat 0) r3)]:=s.bv
   cases h
   exact ⟨z,sb z,s.tk [0]⟩
  refine .exit ?_
  cases h
  exact ⟨by simp,z,sb z,s.tk [0]⟩
 intro x E W hJ
 obtain ⟨rfl,hE,s⟩:=hJ
 refine ⟨_,hE.sub,?_⟩
 refine .seq (.block (bv h λy8 hy8 h=>?_))
 refine .via (.iter (λs3 E' W'=>ak E' [(0,(sv v_0)),(3,(sv v9))]/\Sep No w W' [ac (sv v9) 166 1 (λ(l:List ai)=>D.row 90 2 (l.map aX)) s3]) (λy9 x E' W'=>x=.exit 4/\ak E' [(3,(sv v9))]/\Sep No w W' [ac (sv v9) 166 1 (λ(l:List ai)=>D.row 90 2 (l.map aX)) y9]) hy8 ⟨sb z,s.tk [0]⟩ ?_) ?_
 ·intro s3 y10 E W h hI
  obtain ⟨hE,s⟩:=hI
  refine CW.sub hE ?_
  unfold jO at h
  refine .seq (.g (.q z (.q z (bv h λy11 hy11 h=>.c (.cS (L0:=[ac (sv v9) 166 1 (λ(l:List ai)=>D.row 90 2 (l.map aX)) s3]) s func171 (λS h1 h2 h3=>(rq hy11 (s.ks q_0 h1) h2 (zz h1))) z z ?_)))))
  rintro ⟨⟩ W s
  refine .nil ?_
  refine .cs z h ?_ ?_ <;> intro h
  ·refine .skip (.block (.skip ?_))
   cases h
   exact ⟨z,sb z,s.tk [0]⟩
  refine .exit ?_
  cases h
  exact ⟨by simp,z,sb z,s.tk [0]⟩
 intro x E W hJ
 obtain ⟨rfl,hE,s⟩:=hJ
 refine ⟨_,hE.sub,?_⟩
 obtain rfl:=o9 h
 exact .g (.q z (.qn z (.ret (aa v9 (rt z rn) z (s.tk [0])))))
theorem fR {a0:ai} {a1:Int} {w:World} {r:Bool} (h:fI a0 a1=some r):CL 173 #[.agg #[vi a0.Kind,vi a0.N],vi a1] w (RU w (.bool r)):=by
 unfold fI at h
 refine au func173 z z ?_
 have s:=Sep.start w
 refine .g (.c (.box s z z ?_))
 intro g1 W s
 refine .qn z (.g (.s (fa f90_0 z z z) z (.s (ld t3 s z z z z z) z (.q z (.q z (.cu 5 13 ((a0.Kind==1)&&(a0.N==a1)) s ?_ ?_))))))
 ·refine .both (a0.Kind==1) (λb=>?_) (λb=>?_)
  ·have hg1:=b
   exact .g hg1 (.s (fa f90_1 z z z) z (.g hg1 (.s (ld t3 s z z z z z) z (.g hg1 (.q z (.g hg1 (.q z (.s (pkt hg1 z z z) z (.nil (ck 5 s z (bh hg1)))))))))))
  exact .xx b z (.xx b z (.xx b z (.xx b z (.s (pkf b z z z) z (.nil (ck 5 s z (bi b)))))))
 intro W s
 cases h
 exact .qn z (.ret (aa () (rt z rn) z (s.to [])))
def tZ (w:World) (r:Bool):Env->World->Prop:=Fin Tryz.prog Tryz.f194 No w (λs:Unit=>.bool r) (λs=>[]) .ret
theorem tN {a0:List Int} {a1:Int} {v_0:Hd} {w:World} {r:Bool} (h:lI a0 a1=some r) (q_0:RO w v_0 3 1 (D.int .i64) a0):CL 194 #[sv v_0,vi a1] w (RU w (.bool r)):=by
 unfold lI at h
 refine au func194 z z ?_
 have s:=Sep.start w
 refine .g (.qn z (.seq (.g (.qn z (.block (bv h λy1 hy1 h=>?_))))))
 refine .via (.iter (λs1 E' W'=>ak E' [(0,(sv v_0)),(1,vi a1),(5,vi s1)]/\Sep No w W' []) (λy2 x E' W'=>(match y2 with | .inl o1=>x=.ret/\tZ w o1 E' W' | .inr o2=>x=.exit 0/\ak E' []/\Sep No w W' [])) hy1 ⟨sb rfl,s.to [] rfl⟩ ?_) ?_
 ·intro s1 y3 E W h hI
  obtain ⟨hE,s⟩:=hI
  refine CW.sub hE ?_
  unfold mm at h
  refine .seq (.g (.q z (.q z (.s (aE (s.keep q_0) u23 z z) z (.q z (.nil ?_))))))
  refine .cs z h ?_ ?_ <;> intro h
  ·refine .skip (.seq (.block (.g (.q z (.q z (bv h λx1 hx1 h=>.s (ixv (s.keep q_0) hx1 u23 t3 z z z) z (.s (lde (RV.flat (s.keep q_0) hx1 z) t3 z z z z z) z (.q z (.q z (.nil ?_))))))))))
   refine .cs z h ?_ ?_ <;> intro h
   ·refine .g (.qn z (.ret ?_))
    cases h
    exact ⟨by simp,z,aa (vs:=[_]) () (rt z rn) z (s.to [])⟩
   refine .skip (.region (.q z (.q z (.q z (.nil ?_)))))
   cases h
   exact ⟨z,sb z,s.to []⟩
  refine .exit ?_
  cases h
  exact ⟨by simp,z,sb z,s.to []⟩
 intro x E W hJ
 rcases y1 with o3 | o4
 ·have h:=dl h
  obtain ⟨rfl,hF⟩:=hJ
  refine ⟨_,λ_ _ h=>h,?_⟩
  cases h
  exact hF
 have h:=dm h
 obtain ⟨rfl,hE,s⟩:=hJ
 refine ⟨_,hE.sub,?_⟩
 obtain rfl:=o9 h
 exact .g (.qn z (.ret (aa () (rt z rn) z (s.to []))))
theorem kO {a0:Int} {a1:List Int} {v_1:Hd} {w:World} {r:Bool} (h:ft a0 a1=some r) (q_1:RO w v_1 3 1 (D.int .i64) a1):CL 188 #[vi a0,sv v_1] w (RU w (.bool r)):=by
 unfold ft at h
 refine au func188 z z ?_
 have s:=Sep.start w
 refine .g (.qn z (.g (.q z (.q z (bv h λy1 hy1 h=>.c (.cO s func194 (tN hy1 (s.keep q_1)) z z ?_))))))
 intro W s
 obtain rfl:=o9 h
 exact .qn z (.ret (aa () (rt z rn) z (s.to [])))
end
noncomputable section
theorem tP {a0:ab} {a1:ai} {a2:ai} {w:World} {r:ab} (h:iI a0 a1 a2=some r):CL 172 #[.agg #[vi a0.Op,vi a0.Dst,vi a0.A,vi a0.B,vi a0.N],.agg #[vi a1.Kind,vi a1.N],.agg #[vi a2.Kind,vi a2.N]] w (RU w (.agg #[vi r.Op,vi r.Dst,vi r.A,vi r.B,vi r.N])):=by
 unfold iI at h
 refine au func172 z z ?_
 have s:=Sep.start w
 refine .g (.c (.box s z z ?_))
 intro g1 W s
 refine .c (.box s z z ?_)
 intro g2 W s
 refine .c (.box s z z ?_)
 intro g3 W s
 refine .c (.alloc t62 s ?_)
 intro g4 W s
 refine .nil (.g (.s (ld t62 s.p3 z z z z z) z (.s (ld t90 s.p2 z z z z z) z (.s (ld t90 s.p1 z z z z z) z (bv h λy1 hy1 h=>.c (.cO s func187 (mG hy1) z z ?_))))))
 intro W s
 refine .c (.alloc t90 s ?_)
 intro g5 W s
 refine .c (.st t90 s z z z ?_)
 intro W s
 refine .nil (.seq (.block (.g (.s (fa f90_0 z z z) z (.s (ld t3 s z z z z z) z (.q z (.q z (.nil ?_))))))))
 refine .cs z h ?_ ?_ <;> intro h
 ·refine .g (.s (fa f62_1 z z z) z (.s (ld t3 s.p4 z z z z z) z (.s (fa f90_1 z z z) z (.s (ld t3 s z z z z z) z (.s (bs T.s62 z z) z (.c (.st t62 s.p1 z z z ?_)))))))
  intro W s
  cases h
  exact .nil (.ret (aa () (rc s t62 z rn z z) z (s.to [])))
 refine .g (.s (ld t90 s.p2 z z z z z) z (bv h λy2 hy2 h=>.c (.cO s func173 (fR hy2) z z ?_)))
 intro W s
 refine .q z (bv h λb1 hb1 h=>.cu 5 29 (b1) s ?_ ?_)
 ·refine .both (y2) (λb=>?_) (λb=>?_)
  ·have hg1:=b
   have h:=aJ b hb1
   refine .g hg1 (.s (fa f62_4 z z z) z (.g hg1 (.s (ld t3 s.p4 z z z z z) z (.g hg1 (.c (.liv [1,2,6,7,8,9] (D.int .i64) u23 t3 s z z z z ?_ z (λ_=>z)))))))
   intro v1 W s
   refine bv h λy3 hy3 h=>.g hg1 (.c (.cO s func188 (kO hy3 s.lv) z z ?_))
   intro W s
   refine .s (pkt hg1 z z z) z ?_
   cases h
   exact .nil (ck 5 (s.to [1,1,1,1,1]))
  refine .xx b z (.xx b z (.xx b z (.xx b z ?_)))
  cases aK b hb1
  exact .s (pkf b z z z) z (.nil (ck 5 s))
 intro W s
 refine .q z (.nil ?_)
 refine .cs z h ?_ ?_ <;> intro h
 ·refine .g (.s (fa f62_1 z z z) z (.s (ld t3 s.p4 z z z z z) z (.s (fa f62_2 z z z) z (.s (ld t3 s.p4 z z z z z) z (.s (bs T.s62 z z) z (.c (.st t62 s.p1 z z z ?_)))))))
  intro W s
  cases h
  exact .nil (.ret (aa () (rc s t62 z rn z z) z (s.to [])))
 refine .g (.s (ld t90 s.p2 z z z z z) z (bv h λy4 hy4 h=>.c (.cO s func173 (fR hy4) z z ?_)))
 intro W s
 refine .q z (bv h λb2 hb2 h=>.cu 5 43 (b2) s ?_ ?_)
 ·refine .both (y4) (λb=>?_) (λb=>?_)
  ·have hg2:=b
   have h:=aJ b hb2
   refine .g hg2 (.s (fa f62_4 z z z) z (.g hg2 (.s (ld t3 s.p4 z z z z z) z (.g hg2 (.c (.liv [10,11] (D.int .i64) u23 t3 s z z z z ?_ z (λ_=>z)))))))
   intro v2 W s
   refine bv h λy5 hy5 h=>.g hg2 (.c (.cO s func188 (kO hy5 s.lv) z z ?_))
   intro W s
   refine .s (pkt hg2 z z z) z ?_
   cases h
   exact .nil (ck 5 (s.to [1,1,1,1,1]))
  refine .xx b z (.xx b z (.xx b z (.xx b z ?_)))
  cases aK b hb2
  exact .s (pkf b z z z) z (.nil (ck 5 s))
 intro W s
 refine .q z (.nil ?_)
 refine .cs z h ?_ ?_ <;> intro h
 ·refine .g (.s (fa f62_1 z z z) z (.s (ld t3 s.p4 z z z z z) z (.s (fa f62_2 z z z) z (.s (ld t3 s.p4 z z z z z) z (.s (bs T.s62 z z) z (.c (.st t62 s.p1 z z z ?_)))))))
  intro W s
  cases h
  exact .nil (.ret (aa () (rc s t62 z rn z z) z (s.to [])))
 refine .g (.s (ld t90 s.p3 z z z z z) z (bv h λy6 hy6 h=>.c (.cO s func173 (fR hy6) z z ?_)))
 intro W s
 refine .q z (bv h λb3 hb3 h=>.cu 5 57 (b3) s ?_ ?_)
 ·refine .both (y6) (λb=>?_) (λb=>?_)
  ·have hg3:=b
   have h:=aJ b hb3
   refine .g hg3 (.s (fa f62_4 z z z) z (.g hg3 (.s (ld t3 s.p4 z z z z z) z (.g hg3 (.c (.liv [1,2,8] (D.int .i64) u23 t3 s z z z z ?_ z (λ_=>z)))))))
   intro v3 W s
   refine bv h λy7 hy7 h=>.g hg3 (.c (.cO s func188 (kO hy7 s.lv) z z ?_))
   intro W s
   refine .s (pkt hg3 z z z) z ?_
   cases h
   exact .nil (ck 5 (s.to [1,1,1,1,1]))
  refine .xx b z (.xx b z (.xx b z (.xx b z ?_)))
  cases aK b hb3
  exact .s (pkf b z z z) z (.nil (ck 5 s))
 intro W s
 refine .q z (.nil ?_)
 refine .cs z h ?_ ?_ <;> intro h
 ·refine .g (.s (fa f62_1 z z z) z (.s (ld t3 s.p4 z z z z z) z (.s (fa f62_3 z z z) z (.s (ld t3 s.p4 z z z z z) z (.s (bs T.s62 z z) z (.c (.st t62 s.p1 z z z ?_)))))))
  intro W s
  cases h
  exact .nil (.ret (aa () (rc s t62 z rn z z) z (s.to [])))
 refine .g (.s (ld t90 s.p3 z z z z z) z (bv h λy8 hy8 h=>.c (.cO s func173 (fR hy8) z z ?_)))
 intro W s
 refine .q z (.cu 4 70 (y8&&(a0.N==10)) s ?_ ?_)
 ·refine .both (y8) (λb=>?_) (λb=>?_)
  ·have hg4:=b
   exact .g hg4 (.s (fa f62_4 z z z) z (.g hg4 (.s (ld t3 s.p4 z z z z z) z (.g hg4 (.q z (.s (pkt hg4 z z z) z (.nil (ck 4 s z (bh hg4)))))))))
  exact .xx b z (.xx b z (.xx b z (.s (pkf b z z z) z (.nil (ck 4 s z (bi b))))))
 intro W s
 refine .q z (.nil ?_)
 refine .cs z h ?_ ?_ <;> intro h
 ·refine .g (.s (fa f62_1 z z z) z (.s (ld t3 s.p4 z z z z z) z (.s (fa f62_3 z z z) z (.s (ld t3 s.p4 z z z z z) z (.s (bs T.s62 z z) z (.c (.st t62 s.p1 z z z ?_)))))))
  intro W s
  cases h
  exact .nil (.ret (aa () (rc s t62 z rn z z) z (s.to [])))
 refine .g (.s (ld t90 s.p3 z z z z z) z (bv h λy9 hy9 h=>.c (.cO s func173 (fR hy9) z z ?_)))
 intro W s
 refine .q z (bv h λb4 hb4 h=>.cu 3 82 (b4) s ?_ ?_)
 ·refine .both (y9) (λb=>?_) (λb=>?_)
  ·refine .xx b z (.xx b z ?_)
   cases aJ b hb4
   exact .s (pkt b z z z) z (.nil (ck 3 s))
  have hg5:=b
  have h:=aK b hb4
  refine .g hg5 (.s (ld t90 s.p2 z z z z z) z (bv h λy10 hy10 h=>.g hg5 (.c (.cO s func173 (fR hy10) z z ?_))))
  intro W s
  refine .s (pkf hg5 z z z) z ?_
  cases h
  exact .nil (ck 3 s)
 intro W s
 refine .q z (bv h λb5 hb5 h=>.cu 5 88 (b5) s ?_ ?_)
 ·refine .both (b4) (λb=>?_) (λb=>?_)
  ·have hg6:=b
   have h:=aJ b hb5
   refine .g hg6 (.s (fa f62_4 z z z) z (.g hg6 (.s (ld t3 s.p4 z z z z z) z (.g hg6 (.c (.liv [3,10] (D.int .i64) u23 t3 s z z z z ?_ z (λ_=>z)))))))
   intro v4 W s
   refine bv h λy11 hy11 h=>.g hg6 (.c (.cO s func188 (kO hy11 s.lv) z z ?_))
   intro W s
   refine .s (pkt hg6 z z z) z ?_
   cases h
   exact .nil (ck 5 (s.to [1,1,1,1,1]))
  refine .xx b z (.xx b z (.xx b z (.xx b z ?_)))
  cases aK b hb5
  exact .s (pkf b z z z) z (.nil (ck 5 s))
 intro W s
 refine .q z (.nil ?_)
 refine .cs z h ?_ ?_ <;> intro h
 ·refine .g (.s (fa f62_1 z z z) z (.s (ld t3 s.p4 z z z z z) z (.s (bs T.s62 z z) z (.c (.st t62 s.p1 z z z ?_)))))
  intro W s
  cases h
  exact .nil (.ret (aa () (rc s t62 z rn z z) z (s.to [])))
 refine .skip (.g (.s (ld t62 s.p4 z z z z z) z (.c (.st t62 s.p1 z z z ?_))))
 intro W s
 obtain rfl:=o9 h
 exact .nil (.ret (aa () (rc s t62 z rn z z) z (s.to [])))
theorem sp {a0:ab} {a1:List ai} {a2:Int} {v_1:Hd} {w:World} {r:ab} (h:dQ a0 a1 a2=some r) (q_1:RO w v_1 90 2 aX a1):CL 143 #[.agg #[vi a0.Op,vi a0.Dst,vi a0.A,vi a0.B,vi a0.N],sv v_1,vi a2] w (RU w (.agg #[vi r.Op,vi r.Dst,vi r.A,vi r.B,vi r.N])):=by
 unfold dQ at h
 refine au func143 z z ?_
 have s:=Sep.start w
 refine .g (.c (.box s z z ?_))
 intro g1 W s
 refine .c (.alloc t62 s ?_)
 intro g2 W s
 refine .nil (.seq (.g (.q z (bv h λx1 hx1 h=>.s (ixv (s.keep q_1) hx1 u166 t90 z z z) z (.s (fe f90_0 z z z) z (.s (lde (RV.flat (s.keep q_1) hx1 z) t3 z z z z z) z (.q z (.nil ?_))))))))
 refine .cs z h ?_ ?_ <;> intro h
 ·refine .g (.s (ld t62 s.p1 z z z z z) z (.c (.st t62 s z z z ?_)))
  intro W s
  obtain rfl:=o9 h
  exact .nil (.ret (aa () (rc s t62 z rn z z) z (s.to [])))
 refine .skip (.seq (.g (.s (fa f62_0 z z z) z (.s (ld t3 s.p1 z z z z z) z (.nil (.block (.g (.q z (.q z (.nil ?_))))))))))
 refine .cs z h ?_ ?_ <;> intro h
 ·refine .g (.q z (.s (fa f62_2 z z z) z (.s (ld t3 s.p1 z z z z z) z (bv h λx2 hx2 h=>.s (ixv (s.keep q_1) hx2 u166 t90 z z z) z (.s (fe f90_0 z z z) z (.s (lde (RV.flat (s.keep q_1) hx2 z) t3 z z z z z) z (.q z (.nil ?_))))))))
  refine .cs z h ?_ ?_ <;> intro h
  ·refine .seq (.rk 9 s [0,0] T.mix ?_)
   intro W s
   have t:=s.to [0,0]
   refine .ts' 0 z (λW t=>fa f62_1 z z z) t z (.ts' 1 z (λW t=>ld t3 t.p1 z z z z z) t z (.tp' 2 z z t (.ts' 3 z (λW t=>fa f62_2 z z z) t z (.ts' 4 z (λW t=>ld t3 t.p1 z z z z z) t z (bv h λx3 hx3 h=>.ts' 5 z (λW t=>ixv (s.keep q_1) hx3 u166 t90 z z z) t z (.ts' 6 z (λW t=>fe f90_1 z z z) t z (.ts' 7 z (λW t=>lde (RV.flat (t.keep q_1) hx3 z) t3 z z z z z) t z (.ts' 8 z (λW t=>bs T.s62 z z) t z (.by1 9 z (.st t62 s z z z ?_))))))))))
   intro W s
   refine ⟨λh=>absurd z h,?_⟩
   cases h
   exact .done (.ret (aa () (rc s t62 z rn z z) z (s.to [])))
  refine .skip (.g (.s (ld t62 s.p1 z z z z z) z (.c (.st t62 s z z z ?_))))
  intro W s
  obtain rfl:=o9 h
  exact .nil (.ret (aa () (rc s t62 z rn z z) z (s.to [])))
 refine .g (.q z (.q z (.nil ?_)))
 refine .cs z h ?_ ?_ <;> intro h
 ·refine .seq (.rk 12 s [0,0] T.mix ?_)
  intro W s
  have t:=s.to [0,0]
  refine .ts' 0 z (λW t=>ld t62 t.p1 z z z z z) t z (.tp' 1 z z t (.ts' 2 z (λW t=>fa f62_2 z z z) t z (.ts' 3 z (λW t=>ld t3 t.p1 z z z z z) t z (bv h λx4 hx4 h=>.ts' 4 z (λW t=>ixv (s.keep q_1) hx4 u166 t90 z z z) t z (.ts' 5 z (λW t=>lde (RV.flat (t.keep q_1) hx4 z) t90 z z z z z) t z (.tp' 6 z z t (.ts' 7 z (λW t=>fa f62_3 z z z) t z (.ts' 8 z (λW t=>ld t3 t.p1 z z z z z) t z (bv h λx5 hx5 h=>.ts' 9 z (λW t=>ixv (s.keep q_1) hx5 u166 t90 z z z) t z (.ts' 10 z (λW t=>lde (RV.flat (t.keep q_1) hx5 z) t90 z z z z z) t z (bv h λy1 hy1 h=>.by1 11 z (.cO s func172 (tP hy1) z z ?_))))))))))))
  intro W s
  refine s.an [0,0] λt=>.by1 12 z (.st t62 s z z z ?_)
  intro W s
  refine ⟨λh=>absurd z h,?_⟩
  obtain rfl:=o9 h
  exact .done (.ret (aa () (rc s t62 z rn z z) z (s.to [])))
 refine .g (.q z (.q z (.nil ?_)))
 refine .cs z h ?_ ?_ <;> intro h
 ·refine .seq (.g (.q z (.s (fa f62_2 z z z) z (.s (ld t3 s.p1 z z z z z) z (bv h λx6 hx6 h=>.s (ixv (s.keep q_1) hx6 u166 t90 z z z) z (.s (lde (RV.flat (s.keep q_1) hx6 z) t90 z z z z z) z (bv h λy2 hy2 h=>.c (.cO s func173 (fR hy2) z z ?_))))))))
  intro W s
  refine .nil ?_
  refine .cs z h ?_ ?_ <;> intro h
  ·refine .g (.s (fa f62_4 z z z) z (.s (ld t3 s.p1 z z z z z) z (.s (bs T.s62 z z) z (.c (.st t62 s z z z ?_)))))
   intro W s
   cases h
   exact .nil (.ret (aa () (rc s t62 z rn z z) z (s.to [])))
  refine .skip (.g (.q z (.s (fa f62_2 z z z) z (.s (ld t3 s.p1 z z z z z) z (bv h λx7 hx7 h=>.s (ixv (s.keep q_1) hx7 u166 t90 z z z) z (.s (fe f90_0 z z z) z (.s (lde (RV.flat (s.keep q_1) hx7 z) t3 z z z z z) z (.q z (.nil ?_)))))))))
  refine .cs z h ?_ ?_ <;> intro h
  ·refine .g (.q z (.q z (.s (bs T.s62 z z) z (.c (.st t62 s z z z ?_)))))
   intro W s
   cases h
   exact .nil (.ret (aa () (rc s t62 z rn z z) z (s.to [])))
  refine .skip (.g (.s (ld t62 s.p1 z z z z z) z (.c (.st t62 s z z z ?_))))
  intro W s
  obtain rfl:=o9 h
  exact .nil (.ret (aa () (rc s t62 z rn z z) z (s.to [])))
 refine .skip (.g (.s (ld t62 s.p1 z z z z z) z (.c (.st t62 s z z z ?_))))
 intro W s
 obtain rfl:=o9 h
 exact .nil (.ret (aa () (rc s t62 z rn z z) z (s.to [])))
theorem rr {a0:List ab} {v_0:Hd} {w:World} {r:(List ab)×Bool} (h:fJ a0=some r) (q_0:RO w v_0 62 5 ah a0):CL 119 #[sv v_0] w (Ret No w (λs:Hd=>.tuple #[sv s,.bool r.2]) (λs=>[ac (sv s) 62 5 ah r.1])):=by
 unfold fJ at h
 refine au func119 z z ?_
 have s:=Sep.start w
 refine .g (.q z (.qn z (.g (.c (.liv [] ah u33 t62 s z z z z ?_ z (λ_=>z))))))
 intro v1 W s
 refine .qn z (.seq (.g (.q z (bv h λy1 hy1 h=>.c (.cO s func57 (bn hy1 (s.keep q_0)) z z ?_)))))
 intro W s
 refine .q z (.nil ?_)
 refine .cs z h ?_ ?_ <;> intro h
 ·cases h
  exact .g (.q z (.q z (.qn z (.ret (aa (vs:=[_,_]) v1 (rt z (rt z rn)) z (s.tk [0]))))))
 refine .skip (.g (.q z (bv h λy2 hy2 h=>.c (.cV s func142 (so hy2 (s.keep q_0)) z z ?_))))
 intro v2 W s
 refine .qn z (.seq (.g (.qn z (.block (bv h λy3 hy3 h=>?_)))))
 refine .via (.iter (λs1 E' W'=>∃ (v5:Hd),ak E' [(0,(sv v_0)),(4,(sv v5)),(5,(sv v2)),(6,vi s1.2)]/\Sep No w W' [ac (sv v2) 166 1 (λ(l:List ai)=>D.row 90 2 (l.map aX)) y2,ac (sv v5) 62 5 ah s1.1]) (λy4 x E' W'=>x=.exit 0/\∃ (v6:Hd),ak E' [(4,(sv v6))]/\Sep No w W' [ac (sv v2) 166 1 (λ(l:List ai)=>D.row 90 2 (l.map aX)) y2,ac (sv v6) 62 5 ah y4]) hy3 ⟨v1,sb z,s.tk [0,0]⟩ ?_) ?_
 ·intro s1 y5 E W h hI
  obtain ⟨v4,hE,s⟩:=hI
  refine CW.sub hE ?_
  unfold c6 at h
  refine .seq (.g (.q z (.q z (.s (aE (s.keep q_0) u33 z z) z (.q z (.nil ?_))))))
  refine .cs z h ?_ ?_ <;> intro h
  ·refine .skip (.seq (.block (bv h λx1 hx1 h=>?_)))
   obtain ⟨k1,s⟩:=Sep.ov s hx1
   obtain ⟨v7,k1,rfl,s⟩:=s.ow
   obtain ⟨rfl,s⟩:=s.oN
   refine .rk 14 s [0,0] T.mix ?_
   intro W s
   have t:=s.to [0,0]
   refine .tp' 0 z z t (.tp' 1 z z t (.tp' 2 z z t (bv h λx3 hx3 h=>.ts' 3 z (λW t=>ixv (s.keep q_0) hx3 u33 t62 z z z) t z (.ts' 4 z (λW t=>lde (RV.flat (t.keep q_0) hx3 z) t62 z z z z z) t z (.tp' 5 z z t (.tp' 6 z z t (.ts' 7 z (λW t=>ixh t.p1 hx1 u163 t166 z z z) t z (.ts' 8 z (λW t=>lde (t.p1.hcellsv) t166 z z z z z) t z (.tp' 9 z z t (bv h λy7 hy7 h=>.by1 10 z (.cO s func143 (sp hy7 s.lv) z z ?_)))))))))))
   intro W s
   refine s.an [0,0] λt=>.by1 11 z (.liv [y7] ah u33 t62 s z z z z ?_ z (λ_=>z))
   intro v10 W s
   refine s.an [1,1] λt=>bv h λr2 hr2 h=>?_
   have hT0:=s.p3
   refine .by1 12 z (.av hr2 hT0 hT0.p1.lv (λ_=>z) u33 t62 z z z ?_)
   intro v11 W s
   refine s.an [2,2] λt=>.tp' 13 z z t (.done (.region (.q z (.q z (.q z (.nil ?_))))))
   have s:=Sep.gat (ds:=[.row 90 2 (x1.map aX)]) (cs:=[sv v7]) (L1:=[ac (sv v7) 90 2 aX x1]) (.row (.nil)) (s.to [2,2,0,0])
   have s:Sep _ _ _ [ac (sv v2) 166 1 (λ(l:List ai)=>D.row 90 2 (l.map aX)) y2,ac (sv v11) 62 5 ah r2,ac (sv v10) 62 5 ah [y7]]:=Sep.back0v hx1 s
   cases h
   exact ⟨z,v11,sb z,s.tk [0,0]⟩
  refine .exit ?_
  cases h
  exact ⟨by simp,z,v4,sb z,s.tk [0,0]⟩
 intro x E W hJ
 obtain ⟨rfl,v12,hE,s⟩:=hJ
 refine ⟨_,hE.sub,?_⟩
 cases h
 exact .g (.q z (.q z (.qn z (.ret (aa (vs:=[_,_]) v12 (rt z (rt z rn)) z (s.tk [1]))))))
theorem nw {w:World} {r:(List Int)} (h:fu=some r):CL 174 #[] w (Ret No w (λs:Hd=>(sv s)) (λs=>[ac (sv s) 3 1 (D.int .i64) r])):=by
 unfold fu at h
 refine au func174 z z ?_
 have s:=Sep.start w
 refine .g (.qn z (.g (.c (.liv [] (D.int .i64) u23 t3 s z z z z ?_ z (λ_=>z)))))
 intro v1 W s
 refine .qn z (.seq (.g (.qn z (.block (bv h λy1 hy1 h=>?_)))))
 refine .via (.iter (λs1 E' W'=>∃ (v4:Hd),ak E' [(1,(sv v4)),(2,vi s1.2)]/\Sep No w W' [ac (sv v4) 3 1 (D.int .i64) s1.1]) (λy2 x E' W'=>x=.exit 0/\∃ (v5:Hd),ak E' [(1,(sv v5))]/\Sep No w W' [ac (sv v5) 3 1 (D.int .i64) y2]) hy1 ⟨v1,sb z,s.tk [0]⟩ ?_) ?_
 ·intro s1 y3 E W h hI
  obtain ⟨v3,hE,s⟩:=hI
  refine CW.sub hE ?_
  unfold jP at h
  refine .seq (.g (.q z (.q z (.nil ?_))))
  refine .cs z h ?_ ?_ <;> intro h
  ·refine .skip (.seq (.block (.region (.q z (.q z (.c (.liv [s1.2] (D.int .i64) u23 t3 s z z z z ?_ z (λ_=>z))))))))
   intro v6 W s
   refine bv h λr1 hr1 h=>?_
   have hT0:=s.p1
   refine .c (.av hr1 hT0 hT0.p1.lv (λ_=>z) u23 t3 z z z ?_)
   intro v7 W s
   refine .qn z (.region (.q z (.q z (.q z (.nil ?_)))))
   cases h
   exact ⟨z,v7,sb z,s.tk [0]⟩
  refine .exit ?_
  cases h
  exact ⟨by simp,z,v3,sb z,s.tk [0]⟩
 intro x E W hJ
 obtain ⟨rfl,v8,hE,s⟩:=hJ
 refine ⟨_,hE.sub,?_⟩
 obtain rfl:=o9 h
 exact .g (.q z (.qn z (.ret (aa v8 (rt z rn) z (s.tk [0])))))
theorem gq {a0:ab} {w:World} {r:Int} (h:ce a0=some r):CL 92 #[.agg #[vi a0.Op,vi a0.Dst,vi a0.A,vi a0.B,vi a0.N]] w (RU w (.int .i64 r)):=by
 unfold ce at h
 refine au func92 z z ?_
 have s:=Sep.start w
 refine .g (.c (.box s z z ?_))
 intro g1 W s
 refine .qn z (.seq (.g (.s (ld t62 s z z z z z) z (bv h λy1 hy1 h=>.c (.cO s func89 (kM hy1) z z ?_)))))
 intro W s
 refine .q z (.nil ?_)
 refine .cs z h ?_ ?_ <;> intro h
 ·cases h
  exact .g (.qn z (.ret (aa () (rt z rn) z (s.to []))))
 refine .skip (.seq (.g (.s (fa f62_0 z z z) z (.s (ld t3 s z z z z z) z (.nil (.block (bv h λy2 hy2 h=>?_)))))))
 refine .seq (CW.via (R':=λx E' W'=>x=.normal/\ak E' [(1,Pt g1),(8,.bool y2)]/\Sep No w W' [.box g1 62 [vi a0.Op,vi a0.Dst,vi a0.A,vi a0.B,vi a0.N]]) ?_ ?_)
 ·have h:=hy2
  refine .g (.q z (.q z (.nil ?_)))
  refine .cs z h ?_ ?_ <;> intro h
  ·refine .skip ?_
   cases h
   exact ⟨z,sb z,s.tk [0]⟩
  refine .g (.q z (.q z (.nil ?_)))
  refine .cs z h ?_ ?_ <;> intro h
  ·refine .skip ?_
   cases h
   exact ⟨z,sb z,s.tk [0]⟩
  refine .g (.q z (.q z (.nil ?_)))
  refine .cs z h ?_ ?_ <;> intro h
  ·refine .skip ?_
   cases h
   exact ⟨z,sb z,s.tk [0]⟩
  refine .region (.q z (.q z (.nil ?_)))
  cases h
  exact ⟨z,sb z,s.tk [0]⟩
 intro x E W hJ
 obtain ⟨rfl,hE,s⟩:=hJ
 refine ⟨_,hE.sub,?_⟩
 refine .cs z h ?_ ?_ <;> intro h
 ·cases h
  exact .g (.s (fa f62_1 z z z) z (.s (ld t3 s z z z z z) z (.qn z (.ret (aa () (rt z rn) z (s.to []))))))
 cases h
 exact .skip (.g (.qn z (.ret (aa () (rt z rn) z (s.to [])))))
theorem ru {a0:ab} {a1:List Int} {v_1:Hd} {w:World} {r:(List Int)} (h:fK a0 a1=some r) (q_1:RO w v_1 3 1 (D.int .i64) a1):CL 189 #[.agg #[vi a0.Op,vi a0.Dst,vi a0.A,vi a0.B,vi a0.N],sv v_1] w (Ret No w (λs:Hd=>(sv s)) (λs=>[ac (sv s) 3 1 (D.int .i64) r])):=by
 unfold fK at h
 refine au func189 z z ?_
 have s:=Sep.start w
 refine .g (.c (.box s z z ?_))
 intro g1 W s
 refine .qn z (.g (.c (.liv [] (D.int .i64) u23 t3 s z z z z ?_ z (λ_=>z))))
 intro v1 W s
 refine .q z (bv h λr1 hr1 h=>.c (.av hr1 s (s.keep q_1) (λ_=>z) u23 t3 z z z ?_))
 intro v2 W s
 refine .qn z (.g (.s (ld t62 s.p1 z z z z z) z (bv h λy1 hy1 h=>.c (.cO s func92 (gq hy1) z z ?_))))
 intro W s
 refine .qn z (.seq (.g (.q z (.q z (.nil ?_)))))
 refine .cs z h ?_ ?_ <;> intro h
 ·obtain rfl:=o9 h
  exact .g (.q z (.qn z (.ret (aa v2 (rt z rn) z (s.tk [0])))))
 refine .skip (.seq (.g (.qn z (.block (bv h λy2 hy2 h=>?_)))))
 refine .via (.iter (λs1 E' W'=>ak E' [(2,Pt g1),(5,(sv v2)),(6,vi y1),(7,vi s1.1)]/\Sep No w W' [ac (sv v2) 3 1 (D.int .i64) s1.2,.box g1 62 [vi a0.Op,vi a0.Dst,vi a0.A,vi a0.B,vi a0.N]]) (λy3 x E' W'=>x=.exit 0/\ak E' [(2,Pt g1),(5,(sv v2)),(6,vi y1)]/\Sep No w W' [ac (sv v2) 3 1 (D.int .i64) y3,.box g1 62 [vi a0.Op,vi a0.Dst,vi a0.A,vi a0.B,vi a0.N]]) hy2 ⟨sb z,s.tk [0,0]⟩ ?_) ?_
 ·intro s1 y4 E W h hI
  obtain ⟨hE,s⟩:=hI
  refine CW.sub hE ?_
  unfold i6 at h
  refine .seq (.g (.q z (.q z (.nil ?_))))
  refine .cs z h ?_ ?_ <;> intro h
  ·refine .skip (bv h λy5 hy5 h=>?_)
   refine .seq (CW.via (R':=λx E' W'=>x=.normal/\ak E' [(2,Pt g1),(5,(sv v2)),(6,vi y1),(7,vi s1.1)]/\Sep No w W' [ac (sv v2) 3 1 (D.int .i64) y5,.box g1 62 [vi a0.Op,vi a0.Dst,vi a0.A,vi a0.B,vi a0.N]]) ?_ ?_)
   ·have h:=hy5
    refine .block (.g (.q z (.q z (bv h λx1 hx1 h=>.s (ixv s.lv hx1 u23 t3 z z z) z (.s (lde (RV.flat s.lv hx1 z) t3 z z z z z) z (.q z (.q z (.nil ?_))))))))
    refine .cs z h ?_ ?_ <;> intro h
    ·refine .region (.q z (.q z (.q z (bv h λx2 hx2 h=>.s (ixv s.lv hx2 u23 t3 z z z) z (bv h λr2 hr2 h=>.c (.sev hr2 hx2 s t3 z z z z z z ?_))))))
     intro W s
     refine .nil ?_
     obtain rfl:=o9 h
     exact ⟨z,sb z,s.tk [0,0]⟩
    refine .skip ?_
    cases h
    exact ⟨z,sb z,s.tk [0,0]⟩
   intro x E W hJ
   obtain ⟨rfl,hE,s⟩:=hJ
   refine ⟨_,hE.sub,?_⟩
   refine .region (.q z (.q z (.q z (.nil ?_))))
   cases h
   exact ⟨z,sb z,s.tk [0,0]⟩
  refine .exit ?_
  cases h
  exact ⟨by simp,z,sb z,s.tk [0,0]⟩
 intro x E W hJ
 obtain ⟨rfl,hE,s⟩:=hJ
 refine ⟨_,hE.sub,?_⟩
 refine .g (.q z (.q z (.q z (bv h λx3 hx3 h=>.s (ixv s.lv hx3 u23 t3 z z z) z (bv h λr3 hr3 h=>.c (.sev hr3 hx3 s t3 z z z z z z ?_))))))
 intro W s
 refine .nil (.seq (.g (.s (fa f62_0 z z z) z (.s (ld t3 s.p1 z z z z z) z (.q z (.nil ?_))))))
 refine .cs z h ?_ ?_ <;> intro h
 ·refine .region (.q z (.q z (.s (fa f62_2 z z z) z (.s (ld t3 s.p1 z z z z z) z (bv h λx4 hx4 h=>.s (ixv s.lv hx4 u23 t3 z z z) z (bv h λr4 hr4 h=>.c (.sev hr4 hx4 s t3 z z z z z z ?_)))))))
  intro W s
  obtain rfl:=o9 h
  exact .nil (.g (.q z (.qn z (.ret (aa v2 (rt z rn) z (s.tk [0]))))))
 obtain rfl:=o9 h
 exact .skip (.g (.q z (.qn z (.ret (aa v2 (rt z rn) z (s.tk [0]))))))
theorem rv {a0:List (List Int)} {a1:Int} {a2:List Int} {v_0:Hd} {v_2:Hd} {S:Nat->Prop} {w:World} {r:Bool×(List (List Int))} (h:fL a0 a1 a2=some r) (q_2:RV w (Old S w) (sv v_2) 3 1 (D.int .i64) a2) (hO:bu w [ac (sv v_0) 23 1 (λ(l:List Int)=>D.row 3 1 (l.map (D.int .i64))) a0] S) (hlt:∀ b,S b->b<w.heap.size):CL 190 #[sv v_0,vi a1,sv v_2] w (Ret S w (λs:Unit=>.bool r.1) (λs=>[ac (sv v_0) 23 1 (λ(l:List Int)=>D.row 3 1 (l.map (D.int .i64))) r.2])):=by
 unfold fL at h
 refine au func190 z z ?_
 have s:=Sep.sm hO hlt
 refine .g (.qn z (.seq (.g (.q z (.q z (bv h λx1 hx1 h=>.s (ixv s.lv hx1 u167 t23 z z z) z ?_))))))
 obtain ⟨k1,s⟩:=Sep.ov s hx1
 obtain ⟨v1,k1,rfl,s⟩:=s.ow
 obtain ⟨rfl,s⟩:=s.oN
 refine .s (lde (s.p1.hcellsv) t23 z z z z z) z (.s (aE s.lv u23 z z) z (.q z (.nil ?_)))
 refine .cs z h ?_ ?_ <;> intro h
 ·refine .g (.q z (.q z (.c (.liv [] (D.int .i64) u23 t3 s z z z z ?_ z (λ_=>z)))))
  intro v2 W s
  refine .q z (bv h λr1 hr1 h=>.c (.av hr1 s (s.keep q_2) (λ_=>z) u23 t3 z z z ?_))
  intro v3 W s
  refine .s (ixh s.p2 hx1 u167 t23 z z z) z (.c (.sthv s.p2 t23 z z z ?_))
  intro W s
  refine .nil (.g (.qn z (.ret ?_)))
  have s:=Sep.gat (ds:=[.row 3 1 (r1.map (D.int .i64))]) (cs:=[sv v3]) (L1:=[ac (sv v3) 3 1 (D.int .i64) r1]) (.row (.nil)) (s.to [1,0,0])
  have s:Sep _ _ _ [ac (sv v_0) 23 1 (λ(l:List Int)=>D.row 3 1 (l.map (D.int .i64))) (a0.set (Int.toNat a1) r1),ac (sv v1) 3 1 (D.int .i64) x1]:=s.bv
  cases h
  exact aa () (rt z rn) z (s.tk [0])
 refine .skip (.g (.qn z (.seq (.g (.qn z (.block ?_))))))
 have s:=Sep.gat (ds:=[.row 3 1 (x1.map (D.int .i64))]) (cs:=[sv v1]) (L1:=[ac (sv v1) 3 1 (D.int .i64) x1]) (.row (.nil)) (s.to [0,0])
 have s:Sep _ _ _ [ac (sv v_0) 23 1 (λ(l:List Int)=>D.row 3 1 (l.map (D.int .i64))) a0]:=Sep.back0v hx1 s
 refine bv h λy1 hy1 h=>?_
 refine .via (.iter (λs1 E' W'=>ak E' [(0,(sv v_0)),(1,vi a1),(2,(sv v_2)),(7,.bool s1.1),(8,vi s1.2.1)]/\Sep S w W' [ac (sv v_0) 23 1 (λ(l:List Int)=>D.row 3 1 (l.map (D.int .i64))) s1.2.2]) (λy2 x E' W'=>x=.exit 0/\ak E' [(7,.bool y2.1)]/\Sep S w W' [ac (sv v_0) 23 1 (λ(l:List Int)=>D.row 3 1 (l.map (D.int .i64))) y2.2]) hy1 ⟨sb z,s.tk [0]⟩ ?_) ?_
 ·intro s1 y3 E W h hI
  obtain ⟨hE,s⟩:=hI
  refine CW.sub hE ?_
  unfold i7 at h
  refine .seq (.g (.q z (.q z (.nil ?_))))
  refine .cs z h ?_ ?_ <;> intro h
  ·refine .skip (bv h λy4 hy4 h=>?_)
   refine .seq (CW.via (R':=λx E' W'=>x=.normal/\ak E' [(0,(sv v_0)),(1,vi a1),(2,(sv v_2)),(7,.bool y4.1),(8,vi s1.2.1)]/\Sep S w W' [ac (sv v_0) 23 1 (λ(l:List Int)=>D.row 3 1 (l.map (D.int .i64))) y4.2]) ?_ ?_)
   ·have h:=hy4
    refine .block (.seq (bv h λx2 hx2 h=>?_))
    obtain ⟨k2,s⟩:=Sep.ov s hx2
    obtain ⟨v4,k2,rfl,s⟩:=s.ow
    obtain ⟨rfl,s⟩:=s.oN
    refine bv h λx6 hx6 h=>bv h λb2 hb2 h=>?_
    refine .via (R':=λx E' W'=>x=.normal/\ak E' [(0,(sv v_0)),(1,vi a1),(2,(sv v_2)),(7,.bool s1.1),(8,vi s1.2.1),(47,.bool b2)]/\Sep S w W' [ac (sv v_0) 23 1 (λ(l:List Int)=>D.row 3 1 (l.map (D.int .i64))) s1.2.2]) ?_ ?_
    ·refine .rk 23 s [0,0] T.mix ?_
     intro W s
     have t:=s.to [0,0]
     refine .tp' 0 z z t (.tp' 1 z z t (.ts' 2 z (λW t=>ixh t.p1 hx2 u167 t23 z z z) t z (.ts' 3 z (λW t=>lde (t.p1.hcellsv) t23 z z z z z) t z (.tp' 4 z z t (.ts' 5 z (λW t=>ixv s.lv hx6 u23 t3 z z z) t z (.ts' 6 z (λW t=>lde (RV.flat t.lv hx6 z) t3 z z z z z) t z (.tp' 7 z z t (.tp' 8 z z t (.tp' 9 z z t (.both (x6 !=s1.2.1) (λb=>?_) (λb=>?_)))))))))))
     ·have hg2:=b
      have h_b2:=aJ b hb2
      refine .t1g 10 z hg2 (λW t=>pr z) t (.t1g 11 z hg2 (λW t=>pr z) t (.t1g 12 z hg2 (λW t=>ixh t.p1 hx2 u167 t23 z z z) t (.t1g 13 z hg2 (λW t=>lde (t.p1.hcellsv) t23 z z z z z) t (.t1g 14 z hg2 (λW t=>pr z) t (bv h_b2 λx7 hx7 h_b2=>.t1g 15 z hg2 (λW t=>ixv s.lv hx7 u23 t3 z z z) t (.t1g 16 z hg2 (λW t=>lde (RV.flat t.lv hx7 z) t3 z z z z z) t (.t1g 17 z hg2 (λW t=>pr z) t (.t1g 18 z hg2 (λW t=>pr z) t (bv h_b2 λx8 hx8 h_b2=>.t1g 19 z hg2 (λW t=>ixv (s.keep q_2) hx8 u23 t3 z z z) t (.t1g 20 z hg2 (λW t=>lde (RV.flat (t.keep q_2) hx8 z) t3 z z z z z) t (.t1g 21 z hg2 (λW t=>pr z) t (.ts' 22 z (λW t=>pkt hg2 z z z) t z (.eqv 47 z (lu h_b2) (.done ?_))) (by kernel_rfl) z z) (by kernel_rfl) z z) (by kernel_rfl) z z) (by kernel_rfl) z z) (by kernel_rfl) z z) (by kernel_rfl) z z) (by kernel_rfl) z z) (by kernel_rfl) z z) (by kernel_rfl) z z) (by kernel_rfl) z z) (by kernel_rfl) z z) (by kernel_rfl) z z
      have s:=Sep.gat (ds:=[.row 3 1 (x2.map (D.int .i64))]) (cs:=[sv v4]) (L1:=[ac (sv v4) 3 1 (D.int .i64) x2]) (.row (.nil)) (s.to [0,0])
      have s:Sep _ _ _ [ac (sv v_0) 23 1 (λ(l:List Int)=>D.row 3 1 (l.map (D.int .i64))) s1.2.2]:=Sep.back0v hx2 s
      exact ⟨z,sb z,s.tk [0]⟩
     refine .off 10 z b t (.off 11 z b t (.off 12 z b t (.off 13 z b t (.off 14 z b t (.off 15 z b t (.off 16 z b t (.off 17 z b t (.off 18 z b t (.off 19 z b t (.off 20 z b t (.off 21 z b t (.ts' 22 z (λW t=>pkf b z z z) t z (.eqv 47 z (lu (aK b hb2)) (.done ?_))) (by kernel_rfl) z z) (by kernel_rfl) z z) (by kernel_rfl) z z) (by kernel_rfl) z z) (by kernel_rfl) z z) (by kernel_rfl) z z) (by kernel_rfl) z z) (by kernel_rfl) z z) (by kernel_rfl) z z) (by kernel_rfl) z z) (by kernel_rfl) z z) (by kernel_rfl) z z
     have s:=Sep.gat (ds:=[.row 3 1 (x2.map (D.int .i64))]) (cs:=[sv v4]) (L1:=[ac (sv v4) 3 1 (D.int .i64) x2]) (.row (.nil)) (s.to [0,0])
     have s:Sep _ _ _ [ac (sv v_0) 23 1 (λ(l:List Int)=>D.row 3 1 (l.map (D.int .i64))) s1.2.2]:=Sep.back0v hx2 s
     exact ⟨z,sb z,s.tk [0]⟩
    intro x E W hJ
    obtain ⟨rfl,hE,s⟩:=hJ
    refine ⟨_,hE.sub,?_⟩
    refine .cs z h ?_ ?_ <;> intro h
    ·refine .g (.q z (.q z (bv h λx9 hx9 h=>.s (ixv s.lv hx9 u167 t23 z z z) z ?_)))
     obtain ⟨k3,s⟩:=Sep.ov s hx9
     obtain ⟨v5,k3,rfl,s⟩:=s.ow
     obtain ⟨rfl,s⟩:=s.oN
     refine .s (lde (s.p1.hcellsv) t23 z z z z z) z (.q z (.q z (bv h λx10 hx10 h=>.s (ixv s.lv hx10 u23 t3 z z z) z (bv h λr2 hr2 h=>.c (.sev hr2 hx10 s t3 z z z z z z ?_)))))
     intro W s
     refine .nil (.region (.q z (.nil ?_)))
     have s:=Sep.gat (ds:=[.row 3 1 (r2.map (D.int .i64))]) (cs:=[sv v5]) (L1:=[ac (sv v5) 3 1 (D.int .i64) r2]) (.row (.nil)) (s.to [0,0])
     have s:Sep _ _ _ [ac (sv v_0) 23 1 (λ(l:List Int)=>D.row 3 1 (l.map (D.int .i64))) (s1.2.2.set (Int.toNat a1) r2)]:=s.bv
     cases h
     exact ⟨z,sb z,s.tk [0]⟩
    refine .skip ?_
    cases h
    exact ⟨z,sb z,s.tk [0]⟩
   intro x E W hJ
   obtain ⟨rfl,hE,s⟩:=hJ
   refine ⟨_,hE.sub,?_⟩
   refine .region (.q z (.q z (.q z (.nil ?_))))
   cases h
   exact ⟨z,sb z,s.tk [0]⟩
  refine .exit ?_
  cases h
  exact ⟨by simp,z,sb z,s.tk [0]⟩
 intro x E W hJ
 obtain ⟨rfl,hE,s⟩:=hJ
 refine ⟨_,hE.sub,?_⟩
 cases h
 exact .g (.q z (.qn z (.ret (aa () (rt z rn) z (s.tk [0])))))
theorem rx {a0:List ab} {a1:List (List Int)} {v_0:Hd} {v_1:Hd} {S:Nat->Prop} {w:World} {r:Bool×(List (List Int))} (h:fM a0 a1=some r) (q_0:RV w (Old S w) (sv v_0) 62 5 ah a0) (hO:bu w [ac (sv v_1) 23 1 (λ(l:List Int)=>D.row 3 1 (l.map (D.int .i64))) a1] S) (hlt:∀ b,S b->b<w.heap.size):CL 175 #[sv v_0,sv v_1] w (Ret S w (λs:Unit=>.bool r.1) (λs=>[ac (sv v_1) 23 1 (λ(l:List Int)=>D.row 3 1 (l.map (D.int .i64))) r.2])):=by
 unfold fM at h
 refine au func175 z z ?_
 have s:=Sep.sm hO hlt
 refine .g (.qn z (.g (.qn z (.seq (.g (.qn z (.block (bv h λy1 hy1 h=>?_))))))))
 refine .via (.iter (λs1 E' W'=>ak E' [(0,(sv v_0)),(1,(sv v_1)),(5,.bool s1.1),(6,vi s1.2.1)]/\Sep S w W' [ac (sv v_1) 23 1 (λ(l:List Int)=>D.row 3 1 (l.map (D.int .i64))) s1.2.2]) (λy2 x E' W'=>x=.exit 0/\ak E' [(5,.bool y2.1)]/\Sep S w W' [ac (sv v_1) 23 1 (λ(l:List Int)=>D.row 3 1 (l.map (D.int .i64))) y2.2]) hy1 ⟨sb z,s.tk [0]⟩ ?_) ?_
 ·intro s1 y3 E W h hI
  obtain ⟨hE,s⟩:=hI
  refine CW.sub hE ?_
  unfold ja at h
  refine .seq (.g (.q z (.q z (.s (aE (s.keep q_0) u33 z z) z (.q z (.nil ?_))))))
  refine .cs z h ?_ ?_ <;> intro h
  ·refine .skip (bv h λy4 hy4 h=>?_)
   refine .seq (CW.via (R':=λx E' W'=>x=.normal/\ak E' [(0,(sv v_0)),(1,(sv v_1)),(5,.bool y4.1),(6,vi s1.2.1)]/\Sep S w W' [ac (sv v_1) 23 1 (λ(l:List Int)=>D.row 3 1 (l.map (D.int .i64))) y4.2]) ?_ ?_)
   ·have h:=hy4
    refine .block (.seq (.g (.q z (.q z (bv h λx1 hx1 h=>.s (ixv s.lv hx1 u167 t23 z z z) z ?_)))))
    obtain ⟨k1,s⟩:=Sep.ov s hx1
    obtain ⟨v1,k1,rfl,s⟩:=s.ow
    obtain ⟨rfl,s⟩:=s.oN
    refine .s (lde (s.p1.hcellsv) t23 z z z z z) z (.s (aE s.lv u23 z z) z (.q z (.nil ?_)))
    refine .cs z h ?_ ?_ <;> intro h
    ·refine .exit ?_
     have s:=Sep.gat (ds:=[.row 3 1 (x1.map (D.int .i64))]) (cs:=[sv v1]) (L1:=[ac (sv v1) 3 1 (D.int .i64) x1]) (.row (.nil)) (s.to [0,0])
     have s:Sep _ _ _ [ac (sv v_1) 23 1 (λ(l:List Int)=>D.row 3 1 (l.map (D.int .i64))) s1.2.2]:=Sep.back0v hx1 s
     cases h
     exact ⟨z,sb z,s.tk [0]⟩
    refine .skip (.g (.q z (.q z (bv h λy5 hy5 h=>.c (.cV s func153 (jW hy5 (s.keep q_0)) z z ?_)))))
    intro v2 W s
    refine .qn z (.seq (.rk 10 s [0,0,0] T.mix ?_))
    intro W s
    have t:=s.to [0,0,0]
    refine .tp' 0 z z t (.tp' 1 z z t (bv h λx2 hx2 h=>.ts' 2 z (λW t=>ixv (s.keep q_0) hx2 u33 t62 z z z) t z (.ts' 3 z (λW t=>lde (RV.flat (t.keep q_0) hx2 z) t62 z z z z z) t z (.tp' 4 z z t (.tp' 5 z z t (.ts' 6 z (λW t=>ixh t.p2 hx1 u167 t23 z z z) t z (.ts' 7 z (λW t=>lde (t.p2.hcellsv) t23 z z z z z) t z (bv h λy6 hy6 h=>.by1 8 z (.cV s func189 (ru hy6 s.p1.lv) z z ?_)))))))))
    intro v3 W s
    refine s.an [1,1,1] λt=>.tp' 9 z z t (.done (.g (.qn z (.block ?_))))
    have s:=Sep.gat (ds:=[.row 3 1 (x1.map (D.int .i64))]) (cs:=[sv v1]) (L1:=[ac (sv v1) 3 1 (D.int .i64) x1]) (.row (.nil)) (s.to [2,2,0,0])
    have s:Sep _ _ _ [ac (sv v_1) 23 1 (λ(l:List Int)=>D.row 3 1 (l.map (D.int .i64))) s1.2.2,ac (sv v3) 3 1 (D.int .i64) y6,ac (sv v2) 3 1 (D.int .i64) y5]:=Sep.back0v hx1 s
    refine bv h λy7 hy7 h=>?_
    refine .via (.iter (λs2 E' W'=>ak E' [(0,(sv v_0)),(1,(sv v_1)),(5,.bool s2.1),(6,vi s1.2.1),(7,(sv v2)),(8,(sv v3)),(9,vi s2.2.1)]/\Sep S w W' [ac (sv v_1) 23 1 (λ(l:List Int)=>D.row 3 1 (l.map (D.int .i64))) s2.2.2,ac (sv v3) 3 1 (D.int .i64) y6,ac (sv v2) 3 1 (D.int .i64) y5]) (λy8 x E' W'=>x=.exit 2/\ak E' [(0,(sv v_0)),(1,(sv v_1)),(5,.bool y8.1),(6,vi s1.2.1)]/\Sep S w W' [ac (sv v_1) 23 1 (λ(l:List Int)=>D.row 3 1 (l.map (D.int .i64))) y8.2,ac (sv v3) 3 1 (D.int .i64) y6,ac (sv v2) 3 1 (D.int .i64) y5]) hy7 ⟨sb z,s.tk [0,0,0]⟩ ?_) ?_
    ·intro s2 y9 E W h hI
     obtain ⟨hE,s⟩:=hI
     refine CW.sub hE ?_
     unfold i9 at h
     refine .seq (.g (.q z (.q z (.s (aE s.p2.lv u23 z z) z (.qn z (.cond z (λb=>?_) (λb=>?_)))))))
     ·have h:=aJ b h
      refine .skip (bv h λy10 hy10 h=>?_)
      refine .seq (CW.via (R':=λx E' W'=>x=.normal/\ak E' [(0,(sv v_0)),(1,(sv v_1)),(5,.bool y10.1),(6,vi s1.2.1),(7,(sv v2)),(8,(sv v3)),(9,vi s2.2.1)]/\Sep S w W' [ac (sv v_1) 23 1 (λ(l:List Int)=>D.row 3 1 (l.map (D.int .i64))) y10.2,ac (sv v3) 3 1 (D.int .i64) y6,ac (sv v2) 3 1 (D.int .i64) y5]) ?_ ?_)
      ·have h:=hy10
       refine .block (.g (.q z (.q z (.q z (bv h λx3 hx3 h=>.s (ixv s.p2.lv hx3 u23 t3 z z z) z (.s (lde (RV.flat s.p2.lv hx3 z) t3 z z z z z) z (.q z (bv h λy11 hy11 h=>.c (.cS (L0:=[ac (sv v_1) 23 1 (λ(l:List Int)=>D.row 3 1 (l.map (D.int .i64))) s2.2.2]) s func190 (λS h1 h2 h3=>(rv hy11 (h3.rdv (k:=0) z) h2 (zz h1))) z z ?_)))))))))
       rintro ⟨⟩ W s
       refine .nil ?_
       refine .cs z h ?_ ?_ <;> intro h
       ·refine .region (.q z (.nil ?_))
        cases h
        exact ⟨z,sb z,s.tk [0,0,0]⟩
       refine .skip ?_
       cases h
       exact ⟨z,sb z,s.tk [0,0,0]⟩
      intro x E W hJ
      obtain ⟨rfl,hE,s⟩:=hJ
      refine ⟨_,hE.sub,?_⟩
      refine .region (.q z (.q z (.q z (.nil ?_))))
      cases h
      exact ⟨z,sb z,s.tk [0,0,0]⟩
     have h:=aK b h
     refine .exit ?_
     cases h
     exact ⟨by simp,z,sb z,s.tk [0,0,0]⟩
    intro x E W hJ
    obtain ⟨rfl,hE,s⟩:=hJ
    refine ⟨_,hE.sub,?_⟩
    cases h
    exact ⟨z,sb z,s.tk [0]⟩
   intro x E W hJ
   obtain ⟨rfl,hE,s⟩:=hJ
   refine ⟨_,hE.sub,?_⟩
   refine .region (.q z (.q z (.q z (.nil ?_))))
   cases h
   exact ⟨z,sb z,s.tk [0]⟩
  refine .exit ?_
  cases h
  exact ⟨by simp,z,sb z,s.tk [0]⟩
 intro x E W hJ
 obtain ⟨rfl,hE,s⟩:=hJ
 refine ⟨_,hE.sub,?_⟩
 cases h
 exact .g (.q z (.qn z (.ret (aa () (rt z rn) z (s.tk [0])))))
theorem ry {a0:List ab} {v_0:Hd} {w:World} {r:(List (List Int))} (h:dY a0=some r) (q_0:RO w v_0 62 5 ah a0):CL 144 #[sv v_0] w (Ret No w (λs:Hd=>(sv s)) (λs=>[ac (sv s) 23 1 (λ(l:List Int)=>D.row 3 1 (l.map (D.int .i64))) r])):=by
 unfold dY at h
 refine au func144 z z ?_
 have s:=Sep.start w
 refine .g (.qn z (.g (.c (.lg (L1:=[]) [] (λ(l:List Int)=>D.row 3 1 (l.map (D.int .i64))) u167 t23 (s.to []) z z z (.nil) ?_ z (λ_=>z)))))
 intro v1 W s
 refine .qn z (.seq (.g (.q z (bv h λy1 hy1 h=>.c (.cO s func57 (bn hy1 (s.keep q_0)) z z ?_)))))
 intro W s
 refine .qn z (.cond z (λb=>?_) (λb=>?_))
 ·have h:=aJ b h
  cases h
  exact .g (.q z (.qn z (.ret (aa v1 (rt z rn) z (s.tk [0])))))
 have h:=aK b h
 refine .skip (.seq (.g (.qn z (.block (bv h λy2 hy2 h=>?_)))))
 refine .via (.iter (λs1 E' W'=>∃ (v4:Hd),ak E' [(0,(sv v_0)),(3,(sv v4)),(4,vi s1.2)]/\Sep No w W' [ac (sv v4) 23 1 (λ(l:List Int)=>D.row 3 1 (l.map (D.int .i64))) s1.1]) (λy3 x E' W'=>x=.exit 0/\∃ (v5:Hd),ak E' [(0,(sv v_0)),(3,(sv v5))]/\Sep No w W' [ac (sv v5) 23 1 (λ(l:List Int)=>D.row 3 1 (l.map (D.int .i64))) y3]) hy2 ⟨v1,sb z,s.tk [0]⟩ ?_) ?_
 ·intro s1 y4 E W h hI
  obtain ⟨v3,hE,s⟩:=hI
  refine CW.sub hE ?_
  unfold jb at h
  refine .seq (.g (.q z (.q z (.s (aE (s.keep q_0) u33 z z) z (.q z (.nil ?_))))))
  refine .cs z h ?_ ?_ <;> intro h
  ·refine .skip (.seq (.block (.region (.q z (.c (.liv [] (D.int .i64) u23 t3 s z z z z ?_ z (λ_=>z)))))))
   intro v6 W s
   refine .c (.lg (L1:=[ac (sv v6) 3 1 (D.int .i64) []]) [[]] (λ(l:List Int)=>D.row 3 1 (l.map (D.int .i64))) u167 t23 (s.to [0,0]) z z z (.row (.nil)) ?_ z (λ_=>z))
   intro v7 W s
   refine bv h λr1 hr1 h=>.c (.appv hr1 (s.to [1,0]) u167 t23 z z z ?_)
   intro v8 W s
   refine .qn z (.region (.q z (.q z (.q z (.nil ?_)))))
   cases h
   exact ⟨z,v8,sb z,s.tk [0]⟩
  refine .exit ?_
  cases h
  exact ⟨by simp,z,v3,sb z,s.tk [0]⟩
 intro x E W hJ
 obtain ⟨rfl,v9,hE,s⟩:=hJ
 refine ⟨_,hE.sub,?_⟩
 refine .g (.q z (bv h λy5 hy5 h=>.c (.cV s func174 (nw hy5) z z ?_)))
 intro v10 W s
 refine bv h λx1 hx1 h=>.s (ixv s.p1.lv hx1 u167 t23 z z z) z ?_
 obtain ⟨k1,s⟩:=Sep.ov s.p1 hx1
 obtain ⟨v11,k1,rfl,s⟩:=s.ow
 obtain ⟨rfl,s⟩:=s.oN
 refine .c (.sthv s.p1 t23 z z z ?_)
 intro W s
 refine .nil (.seq (.block ?_))
 have s:=Sep.gat (ds:=[.row 3 1 (y5.map (D.int .i64))]) (cs:=[sv v10]) (L1:=[ac (sv v10) 3 1 (D.int .i64) y5]) (.row (.nil)) (s.to [2,0,0])
 have s:Sep _ _ _ [ac (sv v9) 23 1 (λ(l:List Int)=>D.row 3 1 (l.map (D.int .i64))) (y2.set (Int.toNat 0) y5),ac (sv v11) 3 1 (D.int .i64) x1]:=s.bv
 refine bv h λy6 hy6 h=>?_
 refine .via (.iter (λs2 E' W'=>ak E' [(0,(sv v_0)),(3,(sv v9))]/\Sep No w W' [ac (sv v9) 23 1 (λ(l:List Int)=>D.row 3 1 (l.map (D.int .i64))) s2,ac (sv v11) 3 1 (D.int .i64) x1]) (λy7 x E' W'=>x=.exit 2/\ak E' [(0,(sv v_0)),(3,(sv v9))]/\Sep No w W' [ac (sv v9) 23 1 (λ(l:List Int)=>D.row 3 1 (l.map (D.int .i64))) y7,ac (sv v11) 3 1 (D.int .i64) x1]) hy6 ⟨sb z,s.tk [0,0]⟩ ?_) ?_
 ·intro s2 y8 E W h hI
  obtain ⟨hE,s⟩:=hI
  refine CW.sub hE ?_
  unfold jc at h
  refine .seq (.g (.q z (.q z (bv h λy9 hy9 h=>.c (.cS (L0:=[ac (sv v9) 23 1 (λ(l:List Int)=>D.row 3 1 (l.map (D.int .i64))) s2]) s func175 (λS h1 h2 h3=>(rx hy9 (s.ks q_0 h1) h2 (zz h1))) z z ?_)))))
  rintro ⟨⟩ W s
  refine .nil ?_
  refine .cs z h ?_ ?_ <;> intro h
  ·refine .skip (.block (.skip ?_))
   cases h
   exact ⟨z,sb z,s.tk [0,0]⟩
  refine .exit ?_
  cases h
  exact ⟨by simp,z,sb z,s.tk [0,0]⟩
 intro x E W hJ
 obtain ⟨rfl,hE,s⟩:=hJ
 refine ⟨_,hE.sub,?_⟩
 refine .seq (.g (.qn z (.block (bv h λy10 hy10 h=>?_))))
 refine .via (.iter (λs3 E' W'=>ak E' [(0,(sv v_0)),(3,(sv v9)),(5,vi s3.1)]/\Sep No w W' [ac (sv v9) 23 1 (λ(l:List Int)=>D.row 3 1 (l.map (D.int .i64))) s3.2,ac (sv v11) 3 1 (D.int .i64) x1]) (λy11 x E' W'=>x=.exit 4/\ak E' [(3,(sv v9))]/\Sep No w W' [ac (sv v9) 23 1 (λ(l:List Int)=>D.row 3 1 (l.map (D.int .i64))) y11,ac (sv v11) 3 1 (D.int .i64) x1]) hy10 ⟨sb z,s.tk [0,0]⟩ ?_) ?_
 ·intro s3 y12 E W h hI
  obtain ⟨hE,s⟩:=hI
  refine CW.sub hE ?_
  unfold jd at h
  refine .seq (.g (.q z (.q z (.s (aE (s.keep q_0) u33 z z) z (.q z (.nil ?_))))))
  refine .cs z h ?_ ?_ <;> intro h
  ·refine .skip (bv h λy13 hy13 h=>?_)
   refine .seq (CW.via (R':=λx E' W'=>x=.normal/\ak E' [(0,(sv v_0)),(3,(sv v9)),(5,vi s3.1)]/\Sep No w W' [ac (sv v9) 23 1 (λ(l:List Int)=>D.row 3 1 (l.map (D.int .i64))) y13,ac (sv v11) 3 1 (D.int .i64) x1]) ?_ ?_)
   ·have h:=hy13
    refine .block (.g (.q z (.q z (bv h λx2 hx2 h=>.s (ixv s.lv hx2 u167 t23 z z z) z ?_))))
    obtain ⟨k2,s⟩:=Sep.ov s hx2
    obtain ⟨v12,k2,rfl,s⟩:=s.ow
    obtain ⟨rfl,s⟩:=s.oN
    refine .s (lde (s.p1.hcellsv) t23 z z z z z) z (.s (aE s.lv u23 z z) z (.q z (.nil ?_)))
    refine .cs z h ?_ ?_ <;> intro h
    ·refine .region (.q z (.q z (bv h λy14 hy14 h=>.c (.cV s func174 (nw hy14) z z ?_))))
     intro v13 W s
     refine .s (ixh s.p2 hx2 u167 t23 z z z) z (.c (.sthv s.p2 t23 z z z ?_))
     intro W s
     refine .nil ?_
     have s:=Sep.gat (ds:=[.row 3 1 (y14.map (D.int .i64))]) (cs:=[sv v13]) (L1:=[ac (sv v13) 3 1 (D.int .i64) y14]) (.row (.nil)) (s.to [1,0,0,0])
     have s:Sep _ _ _ [ac (sv v9) 23 1 (λ(l:List Int)=>D.row 3 1 (l.map (D.int .i64))) (s3.2.set (Int.toNat s3.1) y14),ac (sv v12) 3 1 (D.int .i64) x2,ac (sv v11) 3 1 (D.int .i64) x1]:=s.bv
     cases h
     exact ⟨z,sb z,s.tk [0,1]⟩
    refine .skip ?_
    have s:=Sep.gat (ds:=[.row 3 1 (x2.map (D.int .i64))]) (cs:=[sv v12]) (L1:=[ac (sv v12) 3 1 (D.int .i64) x2]) (.row (.nil)) (s.to [0,0,0])
    have s:Sep _ _ _ [ac (sv v9) 23 1 (λ(l:List Int)=>D.row 3 1 (l.map (D.int .i64))) s3.2,ac (sv v11) 3 1 (D.int .i64) x1]:=Sep.back0v hx2 s
    cases h
    exact ⟨z,sb z,s.tk [0,0]⟩
   intro x E W hJ
   obtain ⟨rfl,hE,s⟩:=hJ
   refine ⟨_,hE.sub,?_⟩
   refine .region (.q z (.q z (.q z (.nil ?_))))
   cases h
   exact ⟨z,sb z,s.tk [0,0]⟩
  refine .exit ?_
  cases h
  exact ⟨by simp,z,sb z,s.tk [0,0]⟩
 intro x E W hJ
 obtain ⟨rfl,hE,s⟩:=hJ
 refine ⟨_,hE.sub,?_⟩
 obtain rfl:=o9 h
 exact .g (.q z (.qn z (.ret (aa v9 (rt z rn) z (s.tk [0])))))
theorem sq {a0:ab} {a1:List Int} {v_1:Hd} {w:World} {r:ab} (h:gD a0 a1=some r) (q_1:RO w v_1 3 1 (D.int .i64) a1):CL 145 #[.agg #[vi a0.Op,vi a0.Dst,vi a0.A,vi a0.B,vi a0.N],sv v_1] w (RU w (.agg #[vi r.Op,vi r.Dst,vi r.A,vi r.B,vi r.N])):=by
 unfold gD at h
 refine au func145 z z ?_
 have s:=Sep.start w
 refine .g (.c (.box s z z ?_))
 intro g1 W s
 refine .c (.alloc t62 s ?_)
 intro g2 W s
 refine .nil (.seq (.g (.s (fa f62_0 z z z) z (.s (ld t3 s.p1 z z z z z) z (.nil (.block (bv h λy1 hy1 h=>?_)))))))
 refine .seq (CW.via (R':=λx E' W'=>x=.normal/\ak E' [(1,(sv v_1)),(2,Pt g1),(4,Pt g2),(6,vi a0.Op),(7,.bool y1)]/\Sep No w W' [.box g2 62 [vi 0,vi 0,vi 0,vi 0,vi 0],.box g1 62 [vi a0.Op,vi a0.Dst,vi a0.A,vi a0.B,vi a0.N]]) ?_ ?_)
 ·have h:=hy1
  refine .g (.q z (.q z (.nil ?_)))
  refine .cs z h ?_ ?_ <;> intro h
  ·refine .skip ?_
   cases h
   exact ⟨z,sb z,s.tk [0,0]⟩
  refine .g (.q z (.q z (.nil ?_)))
  refine .cs z h ?_ ?_ <;> intro h
  ·refine .skip ?_
   cases h
   exact ⟨z,sb z,s.tk [0,0]⟩
  refine .g (.q z (.q z (.nil ?_)))
  refine .cs z h ?_ ?_ <;> intro h
  ·refine .skip ?_
   cases h
   exact ⟨z,sb z,s.tk [0,0]⟩
  refine .region (.q z (.q z (.nil ?_)))
  cases h
  exact ⟨z,sb z,s.tk [0,0]⟩
 intro x E W hJ
 obtain ⟨rfl,hE,s⟩:=hJ
 refine ⟨_,hE.sub,?_⟩
 refine .cs z h ?_ ?_ <;> intro h
 ·refine .region (.q z (.s (fa f62_2 z z z) z (.s (ld t3 s.p1 z z z z z) z (bv h λx1 hx1 h=>.s (ixv (s.keep q_1) hx1 u23 t3 z z z) z (.s (lde (RV.flat (s.keep q_1) hx1 z) t3 z z z z z) z (.s (fa f62_2 z z z) z (.c (.st t3 s.p1 z z z ?_))))))))
  intro W s
  refine .nil (.g (.s (ld t62 s z z z z z) z (.c (.st t62 s.p1 z z z ?_))))
  intro W s
  cases h
  exact .nil (.ret (aa () (rc s t62 z rn z z) z (s.to [])))
 refine .g (.q z (.q z (.nil ?_)))
 refine .cs z h ?_ ?_ <;> intro h
 ·refine .g (.q z (.s (fa f62_2 z z z) z (.s (ld t3 s.p1 z z z z z) z (bv h λx2 hx2 h=>.s (ixv (s.keep q_1) hx2 u23 t3 z z z) z (.s (lde (RV.flat (s.keep q_1) hx2 z) t3 z z z z z) z (.s (fa f62_2 z z z) z (.c (.st t3 s.p1 z z z ?_))))))))
  intro W s
  refine .nil (.region (.q z (.s (fa f62_3 z z z) z (.s (ld t3 s z z z z z) z (bv h λx3 hx3 h=>.s (ixv (s.keep q_1) hx3 u23 t3 z z z) z (.s (lde (RV.flat (s.keep q_1) hx3 z) t3 z z z z z) z (.s (fa f62_3 z z z) z (.c (.st t3 s z z z ?_)))))))))
  intro W s
  refine .nil (.g (.s (ld t62 s z z z z z) z (.c (.st t62 s.p1 z z z ?_))))
  intro W s
  cases h
  exact .nil (.ret (aa () (rc s t62 z rn z z) z (s.to [])))
 refine .skip (.g (.s (ld t62 s.p1 z z z z z) z (.c (.st t62 s z z z ?_))))
 intro W s
 obtain rfl:=o9 h
 exact .nil (.ret (aa () (rc s t62 z rn z z) z (s.to [])))
theorem rz {a0:List ab} {v_0:Hd} {w:World} {r:(List ab)×Bool} (h:fN a0=some r) (q_0:RO w v_0 62 5 ah a0):CL 120 #[sv v_0] w (Ret No w (λs:Hd=>.tuple #[sv s,.bool r.2]) (λs=>[ac (sv s) 62 5 ah r.1])):=by
 unfold fN at h
 refine au func120 z z ?_
 have s:=Sep.start w
 refine .g (.q z (.qn z (.g (.c (.liv [] ah u33 t62 s z z z z ?_ z (λ_=>z))))))
 intro v1 W s
 refine .qn z (.seq (.g (.q z (bv h λy1 hy1 h=>.c (.cO s func57 (bn hy1 (s.keep q_0)) z z ?_)))))
 intro W s
 refine .q z (.nil ?_)
 refine .cs z h ?_ ?_ <;> intro h
 ·cases h
  exact .g (.q z (.q z (.qn z (.ret (aa (vs:=[_,_]) v1 (rt z (rt z rn)) z (s.tk [0]))))))
 refine .skip (.g (.q z (bv h λy2 hy2 h=>.c (.cV s func144 (ry hy2 (s.keep q_0)) z z ?_))))
 intro v2 W s
 refine .qn z (.seq (.g (.qn z (.block (bv h λy3 hy3 h=>?_)))))
 refine .via (.iter (λs1 E' W'=>∃ (v5:Hd),ak E' [(0,(sv v_0)),(4,(sv v5)),(5,(sv v2)),(6,vi s1.2)]/\Sep No w W' [ac (sv v2) 23 1 (λ(l:List Int)=>D.row 3 1 (l.map (D.int .i64))) y2,ac (sv v5) 62 5 ah s1.1]) (λy4 x E' W'=>x=.exit 0/\∃ (v6:Hd),ak E' [(4,(sv v6))]/\Sep No w W' [ac (sv v2) 23 1 (λ(l:List Int)=>D.row 3 1 (l.map (D.int .i64))) y2,ac (sv v6) 62 5 ah y4]) hy3 ⟨v1,sb z,s.tk [0,0]⟩ ?_) ?_
 ·intro s1 y5 E W h hI
  obtain ⟨v4,hE,s⟩:=hI
  refine CW.sub hE ?_
  unfold c7 at h
  refine .seq (.g (.q z (.q z (.s (aE (s.keep q_0) u33 z z) z (.q z (.nil ?_))))))
  refine .cs z h ?_ ?_ <;> intro h
  ·refine .skip (.seq (.block (bv h λx1 hx1 h=>?_)))
   obtain ⟨k1,s⟩:=Sep.ov s hx1
   obtain ⟨v7,k1,rfl,s⟩:=s.ow
   obtain ⟨rfl,s⟩:=s.oN
   refine .rk 13 s [0,0] T.mix ?_
   intro W s
   have t:=s.to [0,0]
   refine .tp' 0 z z t (.tp' 1 z z t (.tp' 2 z z t (bv h λx3 hx3 h=>.ts' 3 z (λW t=>ixv (s.keep q_0) hx3 u33 t62 z z z) t z (.ts' 4 z (λW t=>lde (RV.flat (t.keep q_0) hx3 z) t62 z z z z z) t z (.tp' 5 z z t (.tp' 6 z z t (.ts' 7 z (λW t=>ixh t.p1 hx1 u167 t23 z z z) t z (.ts' 8 z (λW t=>lde (t.p1.hcellsv) t23 z z z z z) t z (bv h λy7 hy7 h=>.by1 9 z (.cO s func145 (sq hy7 s.lv) z z ?_))))))))))
   intro W s
   refine s.an [0,0] λt=>.by1 10 z (.liv [y7] ah u33 t62 s z z z z ?_ z (λ_=>z))
   intro v10 W s
   refine s.an [1,1] λt=>bv h λr2 hr2 h=>?_
   have hT0:=s.p3
   refine .by1 11 z (.av hr2 hT0 hT0.p1.lv (λ_=>z) u33 t62 z z z ?_)
   intro v11 W s
   refine s.an [2,2] λt=>.tp' 12 z z t (.done (.region (.q z (.q z (.q z (.nil ?_))))))
   have s:=Sep.gat (ds:=[.row 3 1 (x1.map (D.int .i64))]) (cs:=[sv v7]) (L1:=[ac (sv v7) 3 1 (D.int .i64) x1]) (.row (.nil)) (s.to [2,2,0,0])
   have s:Sep _ _ _ [ac (sv v2) 23 1 (λ(l:List Int)=>D.row 3 1 (l.map (D.int .i64))) y2,ac (sv v11) 62 5 ah r2,ac (sv v10) 62 5 ah [y7]]:=Sep.back0v hx1 s
   cases h
   exact ⟨z,v11,sb z,s.tk [0,0]⟩
  refine .exit ?_
  cases h
  exact ⟨by simp,z,v4,sb z,s.tk [0,0]⟩
 intro x E W hJ
 obtain ⟨rfl,v12,hE,s⟩:=hJ
 refine ⟨_,hE.sub,?_⟩
 cases h
 exact .g (.q z (.q z (.qn z (.ret (aa (vs:=[_,_]) v12 (rt z (rt z rn)) z (s.tk [1]))))))
def rC (w:World) (r:Int):Env->World->Prop:=Fin Tryz.prog Tryz.f146 No w (λs:Unit=>.int .i64 r) (λs=>[]) .ret
theorem qs {a0:List ab} {a1:Int} {v_0:Hd} {w:World} {r:Int} (h:eH a0 a1=some r) (q_0:RO w v_0 62 5 ah a0):CL 146 #[sv v_0,vi a1] w (RU w (.int .i64 r)):=by
 unfold eH at h
 refine au func146 z z ?_
 have s:=Sep.start w
 refine .g (.qn z (.g (.q z (.qn z (.seq (.g (.qn z (.block (bv h λy1 hy1 h=>?_)))))))))
 refine .via (.iter (λs1 E' W'=>ak E' [(0,(sv v_0)),(1,vi a1),(5,vi s1.1),(6,vi s1.2)]/\Sep No w W' []) (λy2 x E' W'=>(match y2 with | .inl o1=>x=.ret/\rC w o1 E' W' | .inr o2=>x=.exit 0/\ak E' [(1,vi a1)]/\Sep No w W' [])) hy1 ⟨sb rfl,s.to [] rfl⟩ ?_) ?_
 ·intro s1 y3 E W h hI
  obtain ⟨hE,s⟩:=hI
  refine CW.sub hE ?_
  unfold kz at h
  refine .seq (.g (.q z (.q z (.s (aE (s.keep q_0) u33 z z) z (.q z (.nil ?_))))))
  refine .cs z h ?_ ?_ <;> intro h
  ·refine .skip (.seq (.block (.seq (.g (.q z (.q z (bv h λx1 hx1 h=>.s (ixv (s.keep q_0) hx1 u33 t62 z z z) z (.s (fe f62_0 z z z) z (.s (lde (RV.flat (s.keep q_0) hx1 z) t3 z z z z z) z (.q z (.nil ?_)))))))))))
   refine .cs z h ?_ ?_ <;> intro h
   ·refine .g (.q z (.qn z (.ret ?_)))
    cases h
    exact ⟨by simp,z,aa (vs:=[_]) () (rt z rn) z (s.to [])⟩
   refine .skip (.region (.q z (.q z (bv h λx2 hx2 h=>.s (ixv (s.keep q_0) hx2 u33 t62 z z z) z (.s (fe f62_4 z z z) z (.s (lde (RV.flat (s.keep q_0) hx2 z) t3 z z z z z) z (.qn z (.region (.q z (.q z (.q z (.nil ?_))))))))))))
   cases h
   exact ⟨z,sb z,s.to []⟩
  refine .exit ?_
  cases h
  exact ⟨by simp,z,sb z,s.to []⟩
 intro x E W hJ
 rcases y1 with o3 | o4
 ·have h:=dl h
  obtain ⟨rfl,hF⟩:=hJ
  refine ⟨_,λ_ _ h=>h,?_⟩
  cases h
  exact hF
 have h:=dm h
 obtain ⟨rfl,hE,s⟩:=hJ
 refine ⟨_,hE.sub,?_⟩
 obtain rfl:=o9 h
 exact .g (.q z (.qn z (.ret (aa () (rt z rn) z (s.to [])))))
theorem rE {a0:List ab} {v_0:Hd} {w:World} {r:(List ab)×Bool} (h:fO a0=some r) (q_0:RO w v_0 62 5 ah a0):CL 121 #[sv v_0] w (Ret No w (λs:Hd=>.tuple #[sv s,.bool r.2]) (λs=>[ac (sv s) 62 5 ah r.1])):=by
 unfold fO at h
 refine au func121 z z ?_
 have s:=Sep.start w
 refine .g (.q z (.qn z (.g (.c (.liv [] ah u33 t62 s z z z z ?_ z (λ_=>z))))))
 intro v1 W s
 refine .qn z (.seq (.g (.q z (bv h λy1 hy1 h=>.c (.cO s func57 (bn hy1 (s.keep q_0)) z z ?_)))))
 intro W s
 refine .q z (.nil ?_)
 refine .cs z h ?_ ?_ <;> intro h
 ·cases h
  exact .g (.q z (.q z (.qn z (.ret (aa (vs:=[_,_]) v1 (rt z (rt z rn)) z (s.tk [0]))))))
 refine .skip (.seq (.g (.qn z (.block (bv h λy2 hy2 h=>?_)))))
 refine .via (.iter (λs1 E' W'=>∃ (v4:Hd),ak E' [(0,(sv v_0)),(4,(sv v4)),(5,vi s1.2)]/\Sep No w W' [ac (sv v4) 62 5 ah s1.1]) (λy3 x E' W'=>x=.exit 0/\∃ (v5:Hd),ak E' [(4,(sv v5))]/\Sep No w W' [ac (sv v5) 62 5 ah y3]) hy2 ⟨v1,sb z,s.tk [0]⟩ ?_) ?_
 ·intro s1 y4 E W h hI
  obtain ⟨v3,hE,s⟩:=hI
  refine CW.sub hE ?_
  unfold c8 at h
  refine .seq (.g (.q z (.q z (.s (aE (s.keep q_0) u33 z z) z (.q z (.nil ?_))))))
  refine .cs z h ?_ ?_ <;> intro h
  ·refine .skip (.seq (.block (.g (.q z (.q z (bv h λx1 hx1 h=>.s (ixv (s.keep q_0) hx1 u33 t62 z z z) z (.s (lde (RV.flat (s.keep q_0) hx1 z) t62 z z z z z) z (.c (.alloc t62 s ?_)))))))))
   intro g1 W s
   refine .c (.st t62 s z z z ?_)
   intro W s
   refine .nil (bv h λy5 hy5 h=>?_)
   refine .seq (CW.via (R':=λx E' W'=>x=.normal/\ak E' [(0,(sv v_0)),(4,(sv v3)),(5,vi s1.2),(6,Pt g1)]/\Sep No w W' [.box g1 62 [vi y5.Op,vi y5.Dst,vi y5.A,vi y5.B,vi y5.N],ac (sv v3) 62 5 ah s1.1]) ?_ ?_)
   ·have h:=hy5
    refine .g (.s (fa f62_0 z z z) z (.s (ld t3 s z z z z z) z (.q z (.q z (.cu 4 29 ((x1.Op==4)||(x1.Op==5)) s ?_ ?_)))))
    ·refine .both (x1.Op==4) (λb=>?_) (λb=>?_)
     ·exact .xx b z (.xx b z (.xx b z (.s (pkt b z z z) z (.nil (ck 4 s z (jr b))))))
     have hg1:=b
     exact .g hg1 (.s (fa f62_0 z z z) z (.g hg1 (.s (ld t3 s z z z z z) z (.g hg1 (.q z (.s (pkf hg1 z z z) z (.nil (ck 4 s z (iR hg1)))))))))
    intro W s
    refine .nil ?_
    refine .cs z h ?_ ?_ <;> intro h
    ·refine .region (.q z (.s (fa f62_4 z z z) z (.s (ld t3 s z z z z z) z (bv h λy6 hy6 h=>.c (.cO s func146 (qs hy6 (s.keep q_0)) z z ?_)))))
     intro W s
     refine .s (fa f62_4 z z z) z (.c (.st t3 s z z z ?_))
     intro W s
     refine .nil ?_
     cases h
     exact ⟨z,sb z,s.tk [0,0]⟩
    refine .skip ?_
    obtain rfl:=o9 h
    exact ⟨z,sb z,s.tk [0,0]⟩
   intro x E W hJ
   obtain ⟨rfl,hE,s⟩:=hJ
   refine ⟨_,hE.sub,?_⟩
   refine .region (.q z (.s (ld t62 s z z z z z) z (.c (.liv [y5] ah u33 t62 s z z z z ?_ z (λ_=>z)))))
   intro v6 W s
   refine bv h λr1 hr1 h=>?_
   have hT0:=s.p2
   refine .c (.av hr1 hT0 hT0.p1.lv (λ_=>z) u33 t62 z z z ?_)
   intro v7 W s
   refine .qn z (.region (.q z (.q z (.q z (.nil ?_)))))
   cases h
   exact ⟨z,v7,sb z,s.tk [0]⟩
  refine .exit ?_
  cases h
  exact ⟨by simp,z,v3,sb z,s.tk [0]⟩
 intro x E W hJ
 obtain ⟨rfl,v8,hE,s⟩:=hJ
 refine ⟨_,hE.sub,?_⟩
 cases h
 exact .g (.q z (.q z (.qn z (.ret (aa (vs:=[_,_]) v8 (rt z (rt z rn)) z (s.tk [0]))))))
theorem lr {a0:List ab} {a1:List (List Bool)} {a2:Int} {v_0:Hd} {v_1:Hd} {w:World} {r:(List Bool)} (h:fP a0 a1 a2=some r) (q_0:RO w v_0 62 5 ah a0) (q_1:RO w v_1 102 1 (λ(l:List Bool)=>D.row 4 1 (l.map D.bool)) a1):CL 128 #[sv v_0,sv v_1,vi a2] w (Ret No w (λs:Hd=>(sv s)) (λs=>[ac (sv s) 4 1 D.bool r])):=by
 unfold fP at h
 refine au func128 z z ?_
 have s:=Sep.start w
 refine .g (.qn z (.g (bv h λr1 hr1 h=>.c (.mkv false D.bool hr1 u102 t4 s z z z z z (λ_=>z) ?_))))
 intro v1 W s
 refine .qn z (.g (.q z (.q z (bv h λy1 hy1 h=>.c (.cV s func153 (jW hy1 (s.keep q_0)) z z ?_)))))
 intro v2 W s
 refine .qn z (.seq (.g (.qn z (.block (bv h λy2 hy2 h=>?_)))))
 refine .via (.iter (λs1 E' W'=>ak E' [(1,(sv v_1)),(7,(sv v1)),(8,(sv v2)),(9,vi s1.1)]/\Sep No w W' [ac (sv v2) 3 1 (D.int .i64) y1,ac (sv v1) 4 1 D.bool s1.2]) (λy3 x E' W'=>x=.exit 0/\ak E' [(7,(sv v1))]/\Sep No w W' [ac (sv v2) 3 1 (D.int .i64) y1,ac (sv v1) 4 1 D.bool y3]) hy2 ⟨sb z,s.tk [0,0]⟩ ?_) ?_
 ·intro s1 y4 E W h hI
  obtain ⟨hE,s⟩:=hI
  refine CW.sub hE ?_
  unfold lj at h
  refine .seq (.g (.q z (.q z (.s (aE s.lv u23 z z) z (.q z (.nil ?_))))))
  refine .cs z h ?_ ?_ <;> intro h
  ·refine .skip (.seq (.block (.g (.qn z (.block (bv h λy5 hy5 h=>?_))))))
   refine .via (.iter (λs2 E' W'=>ak E' [(1,(sv v_1)),(7,(sv v1)),(8,(sv v2)),(9,vi s1.1),(10,vi s2.1)]/\Sep No w W' [ac (sv v2) 3 1 (D.int .i64) y1,ac (sv v1) 4 1 D.bool s2.2]) (λy6 x E' W'=>x=.exit 2/\ak E' [(1,(sv v_1)),(7,(sv v1)),(8,(sv v2)),(9,vi s1.1)]/\Sep No w W' [ac (sv v2) 3 1 (D.int .i64) y1,ac (sv v1) 4 1 D.bool y6]) hy5 ⟨sb z,s.tk [0,0]⟩ ?_) ?_
   ·intro s2 y7 E W h hI
    obtain ⟨hE,s⟩:=hI
    refine CW.sub hE ?_
    unfold lh at h
    refine .seq (.g (.q z (.q z (.nil ?_))))
    refine .cs z h ?_ ?_ <;> intro h
    ·refine .skip (.seq (.block (.region (.q z (.q z (.q z (.q z (bv h λx1 hx1 h=>.s (ixv s.p1.lv hx1 u102 t4 z z z) z (.s (lde (RV.flat s.p1.lv hx1 z) t4 z z z z z) z (.q z (bv h λb1 hb1 h=>.cu 11 42 (b1) s ?_ ?_)))))))))))
     ·refine .both (x1) (λb=>?_) (λb=>?_)
      ·refine .xx b z (.xx b z (.xx b z (.xx b z (.xx b z (.xx b z (.xx b z (.xx b z (.xx b z (.xx b z ?_)))))))))
       cases aJ b hb1
       exact .s (pkt b z z z) z (.nil (ck 11 s))
      have hg1:=b
      have h:=aK b hb1
      refine .g hg1 (.q z (.g hg1 (.q z (.g hg1 (.q z (bv h λx2 hx2 h=>.g hg1 (.s (ixv s.lv hx2 u23 t3 z z z) z (.g hg1 (.s (lde (RV.flat s.lv hx2 z) t3 z z z z z) z (bv h λx3 hx3 h=>?_))))))))))
      obtain ⟨k1,hd,hck1⟩:=RV.el2 q_1 hx3
      obtain ⟨v3,k1,rfl,q1,hd1⟩:=cw q_1 hd
      obtain rfl:=kT q_1 hd1
      refine .g hg1 (.s (ixv (s.keep q_1) hx3 u119 t102 z z z) z (.g hg1 (.s (lde (hck1 _ s.agree) t102 z z z z z) z (.g hg1 (.q z (bv h λx4 hx4 h=>.g hg1 (.s (ixv (s.keep (q1 _ q_1)) hx4 u102 t4 z z z) z (.g hg1 (.s (lde (RV.flat (s.keep (q1 _ q_1)) hx4 z) t4 z z z z z) z (.s (pkf hg1 z z z) z ?_))))))))))
      cases h
      exact .nil (ck 11 s)
     intro W s
     refine bv h λx5 hx5 h=>.s (ixv s.p1.lv hx5 u102 t4 z z z) z (bv h λr2 hr2 h=>.c (.sev hr2 hx5 s.p1 t4 z z z z z z ?_))
     intro W s
     refine .nil (.region (.q z (.q z (.q z (.nil ?_)))))
     cases h
     exact ⟨z,sb z,s.tk [1,0]⟩
    refine .exit ?_
    cases h
    exact ⟨by simp,z,sb z,s.tk [0,0]⟩
   intro x E W hJ
   obtain ⟨rfl,hE,s⟩:=hJ
   refine ⟨_,hE.sub,?_⟩
   refine .region (.q z (.q z (.q z (.nil ?_))))
   cases h
   exact ⟨z,sb z,s.tk [0,0]⟩
  refine .exit ?_
  cases h
  exact ⟨by simp,z,sb z,s.tk [0,0]⟩
 intro x E W hJ
 obtain ⟨rfl,hE,s⟩:=hJ
 refine ⟨_,hE.sub,?_⟩
 obtain rfl:=o9 h
 exact .g (.q z (.qn z (.ret (aa v1 (rt z rn) z (s.tk [1])))))
theorem rF {a0:ab} {w:World} {r:(List Int)} (h:jF a0=some r):CL 191 #[.agg #[vi a0.Op,vi a0.Dst,vi a0.A,vi a0.B,vi a0.N]] w (Ret No w (λs:Hd=>(sv s)) (λs=>[ac (sv s) 3 1 (D.int .i64) r])):=by
 unfold jF at h
 refine au func191 z z ?_
 have s:=Sep.start w
 refine .g (.c (.box s z z ?_))
 intro g1 W s
 refine .qn z (.seq (.g (.s (ld t62 s z z z z z) z (bv h λy1 hy1 h=>.c (.cO s func89 (kM hy1) z z ?_)))))
 intro W s
 refine .q z (.nil ?_)
 refine .cs z h ?_ ?_ <;> intro h
 ·refine .g (.c (.liv [] (D.int .i64) u23 t3 s z z z z ?_ z (λ_=>z)))
  intro v1 W s
  cases h
  exact .qn z (.ret (aa v1 (rt z rn) z (s.tk [0])))
 refine .skip (.seq (.g (.s (fa f62_0 z z z) z (.s (ld t3 s z z z z z) z (.nil (.block (bv h λy2 hy2 h=>?_)))))))
 refine .seq (CW.via (R':=λx E' W'=>x=.normal/\ak E' [(1,Pt g1),(8,vi a0.Op),(9,.bool y2)]/\Sep No w W' [.box g1 62 [vi a0.Op,vi a0.Dst,vi a0.A,vi a0.B,vi a0.N]]) ?_ ?_)
 ·have h:=hy2
  refine .g (.q z (.q z (.nil ?_)))
  refine .cs z h ?_ ?_ <;> intro h
  ·refine .skip ?_
   cases h
   exact ⟨z,sb z,s.tk [0]⟩
  refine .g (.q z (.q z (.nil ?_)))
  refine .cs z h ?_ ?_ <;> intro h
  ·refine .skip ?_
   cases h
   exact ⟨z,sb z,s.tk [0]⟩
  refine .g (.q z (.q z (.nil ?_)))
  refine .cs z h ?_ ?_ <;> intro h
  ·refine .skip ?_
   cases h
   exact ⟨z,sb z,s.tk [0]⟩
  refine .region (.q z (.q z (.nil ?_)))
  cases h
  exact ⟨z,sb z,s.tk [0]⟩
 intro x E W hJ
 obtain ⟨rfl,hE,s⟩:=hJ
 refine ⟨_,hE.sub,?_⟩
 refine .cs z h ?_ ?_ <;> intro h
 ·refine .g (.s (fa f62_2 z z z) z (.s (ld t3 s z z z z z) z (.c (.liv [a0.A] (D.int .i64) u23 t3 s z z z z ?_ z (λ_=>z)))))
  intro v2 W s
  cases h
  exact .qn z (.ret (aa v2 (rt z rn) z (s.tk [0])))
 refine .g (.q z (.q z (.nil ?_)))
 refine .cs z h ?_ ?_ <;> intro h
 ·refine .seq (.g (.s (fa f62_2 z z z) z (.s (ld t3 s z z z z z) z (.s (fa f62_3 z z z) z (.s (ld t3 s z z z z z) z (.q z (.nil ?_)))))))
  refine .cs z h ?_ ?_ <;> intro h
  ·refine .g (.s (fa f62_2 z z z) z (.s (ld t3 s z z z z z) z (.c (.liv [a0.A] (D.int .i64) u23 t3 s z z z z ?_ z (λ_=>z)))))
   intro v3 W s
   cases h
   exact .qn z (.ret (aa v3 (rt z rn) z (s.tk [0])))
  refine .skip (.g (.s (fa f62_2 z z z) z (.s (ld t3 s z z z z z) z (.s (fa f62_3 z z z) z (.s (ld t3 s z z z z z) z (.s (mnv z z z) z (.s (fa f62_2 z z z) z (.s (ld t3 s z z z z z) z (.s (fa f62_3 z z z) z (.s (ld t3 s z z z z z) z (.s (mxv z z z) z (.c (.liv [min a0.A a0.B,max a0.A a0.B] (D.int .i64) u23 t3 s z z z z ?_ z (λ_=>z))))))))))))))
  intro v4 W s
  cases h
  exact .qn z (.ret (aa v4 (rt z rn) z (s.tk [0])))
 refine .skip (.g (.c (.liv [] (D.int .i64) u23 t3 s z z z z ?_ z (λ_=>z))))
 intro v5 W s
 cases h
 exact .qn z (.ret (aa v5 (rt z rn) z (s.tk [0])))
theorem qt {a0:ab} {a1:List Bool} {v_1:Hd} {w:World} {r:(List Bool)} (h:iJ a0 a1=some r) (q_1:RO w v_1 4 1 D.bool a1):CL 177 #[.agg #[vi a0.Op,vi a0.Dst,vi a0.A,vi a0.B,vi a0.N],sv v_1] w (Ret No w (λs:Hd=>(sv s)) (λs=>[ac (sv s) 4 1 D.bool r])):=by
 unfold iJ at h
 refine au func177 z z ?_
 have s:=Sep.start w
 refine .g (.c (.box s z z ?_))
 intro g1 W s
 refine .qn z (.g (.c (.liv [] D.bool u102 t4 s z z z z ?_ z (λ_=>z))))
 intro v1 W s
 refine .q z (bv h λr1 hr1 h=>.c (.av hr1 s (s.keep q_1) (λ_=>z) u102 t4 z z z ?_))
 intro v2 W s
 refine .qn z (bv h λy1 hy1 h=>?_)
 refine .seq (CW.via (R':=λx E' W'=>x=.normal/\ak E' [(2,Pt g1),(5,(sv v2))]/\Sep No w W' [ac (sv v2) 4 1 D.bool y1,.box g1 62 [vi a0.Op,vi a0.Dst,vi a0.A,vi a0.B,vi a0.N]]) ?_ ?_)
 ·have h:=hy1
  refine .g (.s (ld t62 s.p1 z z z z z) z (bv h λy2 hy2 h=>.c (.cO s func92 (gq hy2) z z ?_)))
  intro W s
  refine .q z (.nil ?_)
  refine .cs z h ?_ ?_ <;> intro h
  ·refine .region (.q z (.s (ld t62 s.p1 z z z z z) z (bv h λy3 hy3 h=>.c (.cO s func92 (gq hy3) z z ?_))))
   intro W s
   refine bv h λx1 hx1 h=>.s (ixv s.lv hx1 u102 t4 z z z) z (bv h λr2 hr2 h=>.c (.sev hr2 hx1 s t4 z z z z z z ?_))
   intro W s
   refine .nil ?_
   obtain rfl:=o9 h
   exact ⟨z,sb z,s.tk [0,0]⟩
  refine .skip ?_
  obtain rfl:=o9 h
  exact ⟨z,sb z,s.tk [0,0]⟩
 intro x E W hJ
 obtain ⟨rfl,hE,s⟩:=hJ
 refine ⟨_,hE.sub,?_⟩
 refine .g (.s (ld t62 s.p1 z z z z z) z (bv h λy4 hy4 h=>.c (.cV s func191 (rF hy4) z z ?_)))
 intro v3 W s
 refine .qn z (.seq (.g (.qn z (.block (bv h λy5 hy5 h=>?_)))))
 refine .via (.iter (λs1 E' W'=>ak E' [(5,(sv v2)),(6,(sv v3)),(7,vi s1.1)]/\Sep No w W' [ac (sv v3) 3 1 (D.int .i64) y4,ac (sv v2) 4 1 D.bool s1.2,.box g1 62 [vi a0.Op,vi a0.Dst,vi a0.A,vi a0.B,vi a0.N]]) (λy6 x E' W'=>x=.exit 0/\ak E' [(5,(sv v2))]/\Sep No w W' [ac (sv v3) 3 1 (D.int .i64) y4,ac (sv v2) 4 1 D.bool y6,.box g1 62 [vi a0.Op,vi a0.Dst,vi a0.A,vi a0.B,vi a0.N]]) hy5 ⟨sb z,s.tk [0,0,0]⟩ ?_) ?_
 ·intro s1 y7 E W h hI
  obtain ⟨hE,s⟩:=hI
  refine CW.sub hE ?_
  unfold kA at h
  refine .seq (.g (.q z (.q z (.s (aE s.lv u23 z z) z (.q z (.nil ?_))))))
  refine .cs z h ?_ ?_ <;> intro h
  ·refine .skip (.seq (.block (.region (.q z (.q z (.q z (bv h λx2 hx2 h=>.s (ixv s.lv hx2 u23 t3 z z z) z (.s (lde (RV.flat s.lv hx2 z) t3 z z z z z) z (bv h λx3 hx3 h=>.s (ixv s.p1.lv hx3 u102 t4 z z z) z (bv h λr3 hr3 h=>.c (.sev hr3 hx3 s.p1 t4 z z z z z z ?_)))))))))))
   intro W s
   refine .nil (.region (.q z (.q z (.q z (.nil ?_)))))
   cases h
   exact ⟨z,sb z,s.tk [1,0,0]⟩
  refine .exit ?_
  cases h
  exact ⟨by simp,z,sb z,s.tk [0,0,0]⟩
 intro x E W hJ
 obtain ⟨rfl,hE,s⟩:=hJ
 refine ⟨_,hE.sub,?_⟩
 obtain rfl:=o9 h
 exact .g (.q z (.qn z (.ret (aa v2 (rt z rn) z (s.tk [1])))))
def tQ (w:World) (r:Bool):Env->World->Prop:=Fin Tryz.prog Tryz.f178 No w (λs:Unit=>.bool r) (λs=>[]) .ret
theorem sr {a0:List Bool} {a1:List Bool} {v_0:Hd} {v_1:Hd} {w:World} {r:Bool} (h:kB a0 a1=some r) (q_0:RO w v_0 4 1 D.bool a0) (q_1:RO w v_1 4 1 D.bool a1):CL 178 #[sv v_0,sv v_1] w (RU w (.bool r)):=by
 unfold kB at h
 refine au func178 z z ?_
 have s:=Sep.start w
 refine .g (.qn z (.seq (.g (.qn z (.block (bv h λy1 hy1 h=>?_))))))
 refine .via (.iter (λs1 E' W'=>ak E' [(0,(sv v_0)),(1,(sv v_1)),(5,vi s1)]/\Sep No w W' []) (λy2 x E' W'=>(match y2 with | .inl o1=>x=.ret/\tQ w o1 E' W' | .inr o2=>x=.exit 0/\ak E' [(0,(sv v_0)),(1,(sv v_1))]/\Sep No w W' [])) hy1 ⟨sb rfl,s.to [] rfl⟩ ?_) ?_
 ·intro s1 y3 E W h hI
  obtain ⟨hE,s⟩:=hI
  refine CW.sub hE ?_
  unfold lP at h
  refine .seq (.g (.q z (.q z (.s (aE (s.keep q_0) u102 z z) z (.q z (.nil ?_))))))
  refine .cs z h ?_ ?_ <;> intro h
  ·refine .skip (.seq (.block (.seq (.rk 9 s [] T.mix ?_))))
   intro W s
   have t:=s.to []
   refine .tp' 0 z z t (.tp' 1 z z t (bv h λx1 hx1 h=>.ts' 2 z (λW t=>ixv (s.keep q_0) hx1 u102 t4 z z z) t z (.ts' 3 z (λW t=>lde (RV.flat (t.keep q_0) hx1 z) t4 z z z z z) t z (.tp' 4 z z t (.tp' 5 z z t (bv h λx2 hx2 h=>.ts' 6 z (λW t=>ixv (s.keep q_1) hx2 u102 t4 z z z) t z (.ts' 7 z (λW t=>lde (RV.flat (t.keep q_1) hx2 z) t4 z z z z z) t z (.ts' 8 z (λW t=>neb u4 z z z) t z (.done ?_)))))))))
   refine .cs z h ?_ ?_ <;> intro h
   ·refine .g (.qn z (.ret ?_))
    cases h
    exact ⟨by simp,z,aa (vs:=[_]) () (rt z rn) z (s.to [])⟩
   refine .skip (.region (.q z (.q z (.q z (.nil ?_)))))
   cases h
   exact ⟨z,sb z,s.to []⟩
  refine .exit ?_
  cases h
  exact ⟨by simp,z,sb z,s.to []⟩
 intro x E W hJ
 rcases y1 with o3 | o4
 ·have h:=dl h
  obtain ⟨rfl,hF⟩:=hJ
  refine ⟨_,λ_ _ h=>h,?_⟩
  cases h
  exact hF
 have h:=dm h
 obtain ⟨rfl,hE,s⟩:=hJ
 refine ⟨_,hE.sub,?_⟩
 cases h
 exact .g (.q z (.s (aE (s.keep q_0) u102 z z) z (.q z (.s (aE (s.keep q_1) u102 z z) z (.q z (.qn z (.ret (aa () (rt z rn) z (s.to [])))))))))
theorem rG {a0:List ab} {a1:List (List Bool)} {v_0:Hd} {v_1:Hd} {S:Nat->Prop} {w:World} {r:Bool×(List (List Bool))} (h:di a0 a1=some r) (q_0:RV w (Old S w) (sv v_0) 62 5 ah a0) (hO:bu w [ac (sv v_1) 102 1 (λ(l:List Bool)=>D.row 4 1 (l.map D.bool)) a1] S) (hlt:∀ b,S b->b<w.heap.size):CL 152 #[sv v_0,sv v_1] w (Ret S w (λs:Unit=>.bool r.1) (λs=>[ac (sv v_1) 102 1 (λ(l:List Bool)=>D.row 4 1 (l.map D.bool)) r.2])):=by
 unfold di at h
 refine au func152 z z ?_
 have s:=Sep.sm hO hlt
 refine .g (.qn z (.g (.qn z (.seq (.g (.q z (.s (aE (s.keep q_0) u33 z z) z (.q z (.qn z (.block (bv h λy1 hy1 h=>?_)))))))))))
 refine .via (.iter (λs1 E' W'=>ak E' [(0,(sv v_0)),(1,(sv v_1)),(5,.bool s1.1),(6,vi s1.2.1)]/\Sep S w W' [ac (sv v_1) 102 1 (λ(l:List Bool)=>D.row 4 1 (l.map D.bool)) s1.2.2]) (λy2 x E' W'=>x=.exit 0/\ak E' [(5,.bool y2.1)]/\Sep S w W' [ac (sv v_1) 102 1 (λ(l:List Bool)=>D.row 4 1 (l.map D.bool)) y2.2]) hy1 ⟨sb z,s.tk [0]⟩ ?_) ?_
 ·intro s1 y3 E W h hI
  obtain ⟨hE,s⟩:=hI
  refine CW.sub hE ?_
  unfold d9 at h
  refine .seq (.g (.q z (.q z (.nil ?_))))
  refine .cs z h ?_ ?_ <;> intro h
  ·refine .skip (bv h λy4 hy4 h=>?_)
   refine .seq (CW.via (R':=λx E' W'=>x=.normal/\ak E' [(0,(sv v_0)),(1,(sv v_1)),(5,.bool y4.1),(6,vi s1.2.1)]/\Sep S w W' [ac (sv v_1) 102 1 (λ(l:List Bool)=>D.row 4 1 (l.map D.bool)) y4.2]) ?_ ?_)
   ·have h:=hy4
    refine .block (.seq (.rk 10 s [0] T.mix ?_))
    intro W s
    have t:=s.to [0]
    refine .tp' 0 z z t (.tp' 1 z z t (bv h λx1 hx1 h=>.ts' 2 z (λW t=>ixv (s.keep q_0) hx1 u33 t62 z z z) t z (.ts' 3 z (λW t=>lde (RV.flat (t.keep q_0) hx1 z) t62 z z z z z) t z (.tp' 4 z z t (.tp' 5 z z t (.tp' 6 z z t (bv h λy5 hy5 h=>.by1 7 z (.cV s func128 (lr hy5 (s.keep q_0) s.lv) z z ?_))))))))
    intro v1 W s
    refine s.an [1] λt=>bv h λy6 hy6 h=>.by1 8 z (.cV s func177 (qt hy6 s.lv) z z ?_)
    intro v2 W s
    refine s.an [2] λt=>.tp' 9 z z t (.done (.g (.q z (.q z (.q z (bv h λx2 hx2 h=>.s (ixv s.p2.lv hx2 u119 t102 z z z) z ?_))))))
    obtain ⟨k1,s⟩:=Sep.ov s.p2 hx2
    obtain ⟨v3,k1,rfl,s⟩:=s.ow
    obtain ⟨rfl,s⟩:=s.oN
    refine .s (lde (s.p1.hcellsv) t102 z z z z z) z (bv h λy7 hy7 h=>.c (.cO s func178 (sr hy7 s.p2.lv s.lv) z z ?_))
    intro W s
    refine .q z (.nil ?_)
    refine .cs z h ?_ ?_ <;> intro h
    ·refine .g (.q z (.q z (.q z (.s (ixh s.p1 hx2 u119 t102 z z z) z (.c (.sthv s.p1 t102 z z z ?_))))))
     intro W s
     refine .nil (.region (.q z (.nil ?_)))
     have s:=Sep.gat (ds:=[.row 4 1 (y6.map D.bool)]) (cs:=[sv v2]) (L1:=[ac (sv v2) 4 1 D.bool y6]) (.row (.nil)) (s.to [2,0,0,0])
     have s:Sep _ _ _ [ac (sv v_1) 102 1 (λ(l:List Bool)=>D.row 4 1 (l.map D.bool)) (s1.2.2.set (Int.toNat s1.2.1) y6),ac (sv v3) 4 1 D.bool x2,ac (sv v1) 4 1 D.bool y5]:=s.bv
     cases h
     exact ⟨z,sb z,s.tk [0]⟩
    refine .skip ?_
    have s:=Sep.gat (ds:=[.row 4 1 (x2.map D.bool)]) (cs:=[sv v3]) (L1:=[ac (sv v3) 4 1 D.bool x2]) (.row (.nil)) (s.to [0,0,0,0])
    have s:Sep _ _ _ [ac (sv v_1) 102 1 (λ(l:List Bool)=>D.row 4 1 (l.map D.bool)) s1.2.2,ac (sv v2) 4 1 D.bool y6,ac (sv v1) 4 1 D.bool y5]:=Sep.back0v hx2 s
    cases h
    exact ⟨z,sb z,s.tk [0]⟩
   intro x E W hJ
   obtain ⟨rfl,hE,s⟩:=hJ
   refine ⟨_,hE.sub,?_⟩
   refine .region (.q z (.q z (.q z (.nil ?_))))
   cases h
   exact ⟨z,sb z,s.tk [0]⟩
  refine .exit ?_
  cases h
  exact ⟨by simp,z,sb z,s.tk [0]⟩
 intro x E W hJ
 obtain ⟨rfl,hE,s⟩:=hJ
 refine ⟨_,hE.sub,?_⟩
 cases h
 exact .g (.q z (.qn z (.ret (aa () (rt z rn) z (s.tk [0])))))
theorem ob {a0:List ab} {v_0:Hd} {w:World} {r:(List (List Bool))} (h:dZ a0=some r) (q_0:RO w v_0 62 5 ah a0):CL 127 #[sv v_0] w (Ret No w (λs:Hd=>(sv s)) (λs=>[ac (sv s) 102 1 (λ(l:List Bool)=>D.row 4 1 (l.map D.bool)) r])):=by
 unfold dZ at h
 refine au func127 z z ?_
 have s:=Sep.start w
 refine .g (.qn z (.g (.c (.lg (L1:=[]) [] (λ(l:List Bool)=>D.row 4 1 (l.map D.bool)) u119 t102 (s.to []) z z z (.nil) ?_ z (λ_=>z)))))
 intro v1 W s
 refine .qn z (.seq (.g (.q z (bv h λy1 hy1 h=>.c (.cO s func57 (bn hy1 (s.keep q_0)) z z ?_)))))
 intro W s
 refine .qn z (.cond z (λb=>?_) (λb=>?_))
 ·have h:=aJ b h
  cases h
  exact .g (.q z (.qn z (.ret (aa v1 (rt z rn) z (s.tk [0])))))
 have h:=aK b h
 refine .skip (.seq (.g (.qn z (.block (bv h λy2 hy2 h=>?_)))))
 refine .via (.iter (λs1 E' W'=>∃ (v4:Hd),ak E' [(0,(sv v_0)),(3,(sv v4)),(4,vi s1.2)]/\Sep No w W' [ac (sv v4) 102 1 (λ(l:List Bool)=>D.row 4 1 (l.map D.bool)) s1.1]) (λy3 x E' W'=>x=.exit 0/\∃ (v5:Hd),ak E' [(0,(sv v_0)),(3,(sv v5))]/\Sep No w W' [ac (sv v5) 102 1 (λ(l:List Bool)=>D.row 4 1 (l.map D.bool)) y3]) hy2 ⟨v1,sb z,s.tk [0]⟩ ?_) ?_
 ·intro s1 y4 E W h hI
  obtain ⟨v3,hE,s⟩:=hI
  refine CW.sub hE ?_
  unfold iK at h
  refine .seq (.g (.q z (.q z (.s (aE (s.keep q_0) u33 z z) z (.q z (.nil ?_))))))
  refine .cs z h ?_ ?_ <;> intro h
  ·refine .skip (.seq (.block (.region (.q z (bv h λr1 hr1 h=>.c (.mkv false D.bool hr1 u102 t4 s z z z z z (λ_=>z) ?_))))))
   intro v6 W s
   refine .c (.lg (L1:=[ac (sv v6) 4 1 D.bool r1]) [r1] (λ(l:List Bool)=>D.row 4 1 (l.map D.bool)) u119 t102 (s.to [0,0]) z z z (.row (.nil)) ?_ z (λ_=>z))
   intro v7 W s
   refine bv h λr2 hr2 h=>.c (.appv hr2 (s.to [1,0]) u119 t102 z z z ?_)
   intro v8 W s
   refine .qn z (.region (.q z (.q z (.q z (.nil ?_)))))
   cases h
   exact ⟨z,v8,sb z,s.tk [0]⟩
  refine .exit ?_
  cases h
  exact ⟨by simp,z,v3,sb z,s.tk [0]⟩
 intro x E W hJ
 obtain ⟨rfl,v9,hE,s⟩:=hJ
 refine ⟨_,hE.sub,?_⟩
 refine .seq (.block (bv h λy5 hy5 h=>?_))
 refine .via (.iter (λs2 E' W'=>ak E' [(0,(sv v_0)),(3,(sv v9))]/\Sep No w W' [ac (sv v9) 102 1 (λ(l:List Bool)=>D.row 4 1 (l.map D.bool)) s2]) (λy6 x E' W'=>x=.exit 2/\ak E' [(3,(sv v9))]/\Sep No w W' [ac (sv v9) 102 1 (λ(l:List Bool)=>D.row 4 1 (l.map D.bool)) y6]) hy5 ⟨sb z,s.tk [0]⟩ ?_) ?_
 ·intro s2 y7 E W h hI
  obtain ⟨hE,s⟩:=hI
  refine CW.sub hE ?_
  unfold bL at h
  refine .seq (.g (.q z (.q z (bv h λy8 hy8 h=>.c (.cS (L0:=[ac (sv v9) 102 1 (λ(l:List Bool)=>D.row 4 1 (l.map D.bool)) s2]) s func152 (λS h1 h2 h3=>(rG hy8 (s.ks q_0 h1) h2 (zz h1))) z z ?_)))))
  rintro ⟨⟩ W s
  refine .nil ?_
  refine .cs z h ?_ ?_ <;> intro h
  ·refine .skip (.block (.skip ?_))
   cases h
   exact ⟨z,sb z,s.tk [0]⟩
  refine .exit ?_
  cases h
  exact ⟨by simp,z,sb z,s.tk [0]⟩
 intro x E W hJ
 obtain ⟨rfl,hE,s⟩:=hJ
 refine ⟨_,hE.sub,?_⟩
 obtain rfl:=o9 h
 exact .g (.q z (.qn z (.ret (aa v9 (rt z rn) z (s.tk [0])))))
theorem ss {a0:ab} {a1:List Bool} {v_1:Hd} {w:World} {r:Bool} (h:gF a0 a1=some r) (q_1:RO w v_1 4 1 D.bool a1):CL 147 #[.agg #[vi a0.Op,vi a0.Dst,vi a0.A,vi a0.B,vi a0.N],sv v_1] w (RU w (.bool r)):=by
 unfold gF at h
 refine au func147 z z ?_
 have s:=Sep.start w
 refine .g (.c (.box s z z ?_))
 intro g1 W s
 refine .qn z (.seq (.g (.s (fa f62_0 z z z) z (.s (ld t3 s z z z z z) z (.nil (.block (bv h λy1 hy1 h=>?_)))))))
 refine .seq (CW.via (R':=λx E' W'=>x=.normal/\ak E' [(1,(sv v_1)),(2,Pt g1),(7,.bool y1)]/\Sep No w W' [.box g1 62 [vi a0.Op,vi a0.Dst,vi a0.A,vi a0.B,vi a0.N]]) ?_ ?_)
 ·have h:=hy1
  refine .g (.q z (.q z (.nil ?_)))
  refine .cs z h ?_ ?_ <;> intro h
  ·refine .skip ?_
   cases h
   exact ⟨z,sb z,s.tk [0]⟩
  refine .g (.q z (.q z (.nil ?_)))
  refine .cs z h ?_ ?_ <;> intro h
  ·refine .skip ?_
   cases h
   exact ⟨z,sb z,s.tk [0]⟩
  refine .region (.q z (.q z (.nil ?_)))
  cases h
  exact ⟨z,sb z,s.tk [0]⟩
 intro x E W hJ
 obtain ⟨rfl,hE,s⟩:=hJ
 refine ⟨_,hE.sub,?_⟩
 refine .cs z h ?_ ?_ <;> intro h
 ·refine .g (.q z (.s (fa f62_1 z z z) z (.s (ld t3 s z z z z z) z (bv h λx1 hx1 h=>.s (ixv (s.keep q_1) hx1 u102 t4 z z z) z (.s (lde (RV.flat (s.keep q_1) hx1 z) t4 z z z z z) z (.q z (.qn z (.ret ?_))))))))
  cases h
  exact aa () (rt z rn) z (s.to [])
 obtain rfl:=o9 h
 exact .skip (.g (.qn z (.ret (aa () (rt z rn) z (s.to [])))))
theorem rH {a0:List ab} {v_0:Hd} {w:World} {r:(List ab)×Bool} (h:fQ a0=some r) (q_0:RO w v_0 62 5 ah a0):CL 122 #[sv v_0] w (Ret No w (λs:Hd=>.tuple #[sv s,.bool r.2]) (λs=>[ac (sv s) 62 5 ah r.1])):=by
 unfold fQ at h
 refine au func122 z z ?_
 have s:=Sep.start w
 refine .g (.q z (.qn z (.g (.c (.liv [] ah u33 t62 s z z z z ?_ z (λ_=>z))))))
 intro v1 W s
 refine .qn z (.seq (.g (.q z (bv h λy1 hy1 h=>.c (.cO s func57 (bn hy1 (s.keep q_0)) z z ?_)))))
 intro W s
 refine .q z (.nil ?_)
 refine .cs z h ?_ ?_ <;> intro h
 ·cases h
  exact .g (.q z (.q z (.qn z (.ret (aa (vs:=[_,_]) v1 (rt z (rt z rn)) z (s.tk [0]))))))
 refine .skip (.g (.q z (bv h λy2 hy2 h=>.c (.cV s func127 (ob hy2 (s.keep q_0)) z z ?_))))
 intro v2 W s
 refine .qn z (.seq (.g (.qn z (.block (bv h λy3 hy3 h=>?_)))))
 refine .via (.iter (λs1 E' W'=>∃ (v5:Hd),ak E' [(0,(sv v_0)),(4,(sv v5)),(5,(sv v2)),(6,vi s1.2)]/\Sep No w W' [ac (sv v2) 102 1 (λ(l:List Bool)=>D.row 4 1 (l.map D.bool)) y2,ac (sv v5) 62 5 ah s1.1]) (λy4 x E' W'=>x=.exit 0/\∃ (v6:Hd),ak E' [(4,(sv v6))]/\Sep No w W' [ac (sv v2) 102 1 (λ(l:List Bool)=>D.row 4 1 (l.map D.bool)) y2,ac (sv v6) 62 5 ah y4]) hy3 ⟨v1,sb z,s.tk [0,0]⟩ ?_) ?_
 ·intro s1 y5 E W h hI
  obtain ⟨v4,hE,s⟩:=hI
  refine CW.sub hE ?_
  unfold c9 at h
  refine .seq (.g (.q z (.q z (.s (aE (s.keep q_0) u33 z z) z (.q z (.nil ?_))))))
  refine .cs z h ?_ ?_ <;> intro h
  ·refine .skip (.seq (.block (.g (.q z (.q z (bv h λx1 hx1 h=>.s (ixv (s.keep q_0) hx1 u33 t62 z z z) z (.s (lde (RV.flat (s.keep q_0) hx1 z) t62 z z z z z) z (.c (.alloc t62 s ?_)))))))))
   intro g1 W s
   refine .c (.st t62 s z z z ?_)
   intro W s
   refine .nil (bv h λy6 hy6 h=>?_)
   refine .seq (CW.via (R':=λx E' W'=>x=.normal/\ak E' [(0,(sv v_0)),(4,(sv v4)),(5,(sv v2)),(6,vi s1.2),(7,Pt g1)]/\Sep No w W' [.box g1 62 [vi y6.Op,vi y6.Dst,vi y6.A,vi y6.B,vi y6.N],ac (sv v2) 102 1 (λ(l:List Bool)=>D.row 4 1 (l.map D.bool)) y2,ac (sv v4) 62 5 ah s1.1]) ?_ ?_)
   ·have h:=hy6
    refine .seq (.rk 6 s [0,0,0] T.mix ?_)
    intro W s
    have t:=s.to [0,0,0]
    refine .ts' 0 z (λW t=>ld t62 t z z z z z) t z (.tp' 1 z z t (.tp' 2 z z t (.tp' 3 z z t (bv h λy7 hy7 h=>.by1 4 z (.cV s func128 (lr hy7 (s.keep q_0) s.p1.lv) z z ?_)))))
    intro v7 W s
    refine s.an [1,1,1] λt=>bv h λy8 hy8 h=>.by1 5 z (.cO s func147 (ss hy8 s.lv) z z ?_)
    intro W s
    refine s.an [1,1,1] λt=>.done ?_
    refine .cs z h ?_ ?_ <;> intro h
    ·refine .region (.q z (.q z (.s (bs T.s62 z z) z (.c (.st t62 s.p1 z z z ?_)))))
     intro W s
     refine .nil ?_
     cases h
     exact ⟨z,sb z,s.tk [0,1,1]⟩
    refine .skip ?_
    obtain rfl:=o9 h
    exact ⟨z,sb z,s.tk [1,1,1]⟩
   intro x E W hJ
   obtain ⟨rfl,hE,s⟩:=hJ
   refine ⟨_,hE.sub,?_⟩
   refine .region (.q z (.s (ld t62 s z z z z z) z (.c (.liv [y6] ah u33 t62 s z z z z ?_ z (λ_=>z)))))
   intro v8 W s
   refine bv h λr1 hr1 h=>?_
   have hT0:=s.p3
   refine .c (.av hr1 hT0 hT0.p1.lv (λ_=>z) u33 t62 z z z ?_)
   intro v9 W s
   refine .qn z (.region (.q z (.q z (.q z (.nil ?_)))))
   cases h
   exact ⟨z,v9,sb z,s.tk [3,0]⟩
  refine .exit ?_
  cases h
  exact ⟨by simp,z,v4,sb z,s.tk [0,0]⟩
 intro x E W hJ
 obtain ⟨rfl,v10,hE,s⟩:=hJ
 refine ⟨_,hE.sub,?_⟩
 cases h
 exact .g (.q z (.q z (.qn z (.ret (aa (vs:=[_,_]) v10 (rt z (rt z rn)) z (s.tk [1]))))))
end
noncomputable section
theorem qu {a0:List ab} {a1:List Bool} {v_0:Hd} {v_1:Hd} {S:Nat->Prop} {w:World} {r:Bool×(List Bool)} (h:eI a0 a1=some r) (q_0:RV w (Old S w) (sv v_0) 62 5 ah a0) (hO:bu w [ac (sv v_1) 4 1 D.bool a1] S) (hlt:∀ b,S b->b<w.heap.size):CL 176 #[sv v_0,sv v_1] w (Ret S w (λs:Unit=>.bool r.1) (λs=>[ac (sv v_1) 4 1 D.bool r.2])):=by
 unfold eI at h
 refine au func176 z z ?_
 have s:=Sep.sm hO hlt
 refine .g (.qn z (.g (.qn z (.seq (.g (.qn z (.block (bv h λy1 hy1 h=>?_))))))))
 refine .via (.iter (λs1 E' W'=>ak E' [(0,(sv v_0)),(1,(sv v_1)),(5,.bool s1.1),(6,vi s1.2.1)]/\Sep S w W' [ac (sv v_1) 4 1 D.bool s1.2.2]) (λy2 x E' W'=>x=.exit 0/\ak E' [(5,.bool y2.1)]/\Sep S w W' [ac (sv v_1) 4 1 D.bool y2.2]) hy1 ⟨sb z,s.tk [0]⟩ ?_) ?_
 ·intro s1 y3 E W h hI
  obtain ⟨hE,s⟩:=hI
  refine CW.sub hE ?_
  unfold hZ at h
  refine .seq (.g (.q z (.q z (.s (aE (s.keep q_0) u33 z z) z (.q z (.nil ?_))))))
  refine .cs z h ?_ ?_ <;> intro h
  ·refine .skip (bv h λy4 hy4 h=>?_)
   refine .seq (CW.via (R':=λx E' W'=>x=.normal/\ak E' [(0,(sv v_0)),(1,(sv v_1)),(5,.bool y4.1),(6,vi s1.2.1)]/\Sep S w W' [ac (sv v_1) 4 1 D.bool y4.2]) ?_ ?_)
   ·have h:=hy4
    refine .block (.seq (.g (.q z (.q z (bv h λx1 hx1 h=>.s (ixv s.lv hx1 u102 t4 z z z) z (.s (lde (RV.flat s.lv hx1 z) t4 z z z z z) z (.q z (.nil ?_))))))))
    refine .cs z h ?_ ?_ <;> intro h
    ·refine .exit ?_
     cases h
     exact ⟨z,sb z,s.tk [0]⟩
    refine .skip (.g (.q z (.q z (bv h λy5 hy5 h=>.c (.cV s func153 (jW hy5 (s.keep q_0)) z z ?_)))))
    intro v1 W s
    refine .qn z (.g (.qn z (.block (bv h λy6 hy6 h=>?_))))
    refine .via (.iter (λs2 E' W'=>ak E' [(0,(sv v_0)),(1,(sv v_1)),(5,.bool s2.1),(6,vi s1.2.1),(7,(sv v1)),(8,vi s2.2.1)]/\Sep S w W' [ac (sv v1) 3 1 (D.int .i64) y5,ac (sv v_1) 4 1 D.bool s2.2.2]) (λy7 x E' W'=>x=.exit 2/\ak E' [(0,(sv v_0)),(1,(sv v_1)),(5,.bool y7.1),(6,vi s1.2.1)]/\Sep S w W' [ac (sv v1) 3 1 (D.int .i64) y5,ac (sv v_1) 4 1 D.bool y7.2]) hy6 ⟨sb z,s.tk [0,0]⟩ ?_) ?_
    ·intro s2 y8 E W h hI
     obtain ⟨hE,s⟩:=hI
     refine CW.sub hE ?_
     unfold hY at h
     refine .seq (.g (.q z (.q z (.s (aE s.lv u23 z z) z (.q z (.nil ?_))))))
     refine .cs z h ?_ ?_ <;> intro h
     ·refine .skip (bv h λy9 hy9 h=>?_)
      refine .seq (CW.via (R':=λx E' W'=>x=.normal/\ak E' [(0,(sv v_0)),(1,(sv v_1)),(5,.bool y9.1),(6,vi s1.2.1),(7,(sv v1)),(8,vi s2.2.1)]/\Sep S w W' [ac (sv v1) 3 1 (D.int .i64) y5,ac (sv v_1) 4 1 D.bool y9.2]) ?_ ?_)
      ·have h:=hy9
       refine .block (.g (.q z (.q z (.q z (bv h λx2 hx2 h=>.s (ixv s.lv hx2 u23 t3 z z z) z (.s (lde (RV.flat s.lv hx2 z) t3 z z z z z) z (bv h λx3 hx3 h=>.s (ixv s.p1.lv hx3 u102 t4 z z z) z (.s (lde (RV.flat s.p1.lv hx3 z) t4 z z z z z) z (.q z (.nil ?_))))))))))
       refine .cs z h ?_ ?_ <;> intro h
       ·refine .g (.q z (.q z (.q z (bv h λx4 hx4 h=>.s (ixv s.lv hx4 u23 t3 z z z) z (.s (lde (RV.flat s.lv hx4 z) t3 z z z z z) z (bv h λx5 hx5 h=>.s (ixv s.p1.lv hx5 u102 t4 z z z) z (bv h λr1 hr1 h=>.c (.sev hr1 hx5 s.p1 t4 z z z z z z ?_))))))))
        intro W s
        refine .nil (.region (.q z (.nil ?_)))
        cases h
        exact ⟨z,sb z,s.tk [1,0]⟩
       refine .skip ?_
       cases h
       exact ⟨z,sb z,s.tk [0,0]⟩
      intro x E W hJ
      obtain ⟨rfl,hE,s⟩:=hJ
      refine ⟨_,hE.sub,?_⟩
      refine .region (.q z (.q z (.q z (.nil ?_))))
      cases h
      exact ⟨z,sb z,s.tk [0,0]⟩
     refine .exit ?_
     cases h
     exact ⟨by simp,z,sb z,s.tk [0,0]⟩
    intro x E W hJ
    obtain ⟨rfl,hE,s⟩:=hJ
    refine ⟨_,hE.sub,?_⟩
    cases h
    exact ⟨z,sb z,s.tk [1]⟩
   intro x E W hJ
   obtain ⟨rfl,hE,s⟩:=hJ
   refine ⟨_,hE.sub,?_⟩
   refine .region (.q z (.q z (.q z (.nil ?_))))
   cases h
   exact ⟨z,sb z,s.tk [0]⟩
  refine .exit ?_
  cases h
  exact ⟨by simp,z,sb z,s.tk [0]⟩
 intro x E W hJ
 obtain ⟨rfl,hE,s⟩:=hJ
 refine ⟨_,hE.sub,?_⟩
 cases h
 exact .g (.q z (.qn z (.ret (aa () (rt z rn) z (s.tk [0])))))
theorem qv {a0:List ab} {v_0:Hd} {w:World} {r:(List Bool)} (h:cJ a0=some r) (q_0:RO w v_0 62 5 ah a0):CL 148 #[sv v_0] w (Ret No w (λs:Hd=>(sv s)) (λs=>[ac (sv s) 4 1 D.bool r])):=by
 unfold cJ at h
 refine au func148 z z ?_
 have s:=Sep.start w
 refine .g (.qn z (.seq (.g (.q z (bv h λy1 hy1 h=>.c (.cO s func57 (bn hy1 (s.keep q_0)) z z ?_))))))
 intro W s
 refine .qn z (.cond z (λb=>?_) (λb=>?_))
 ·have h:=aJ b h
  refine .g (.c (.liv [] D.bool u102 t4 s z z z z ?_ z (λ_=>z)))
  intro v1 W s
  cases h
  exact .qn z (.ret (aa v1 (rt z rn) z (s.tk [0])))
 have h:=aK b h
 refine .skip (.g (.q z (.s (aE (s.keep q_0) u33 z z) z (bv h λr1 hr1 h=>.c (.mkv false D.bool hr1 u102 t4 s z z z z z (λ_=>z) ?_)))))
 intro v2 W s
 refine .qn z (.g (.q z (bv h λx1 hx1 h=>.s (ixv s.lv hx1 u102 t4 z z z) z (bv h λr2 hr2 h=>.c (.sev hr2 hx1 s t4 z z z z z z ?_)))))
 intro W s
 refine .nil (.seq (.block (bv h λy2 hy2 h=>?_)))
 refine .via (.iter (λs1 E' W'=>ak E' [(0,(sv v_0)),(3,(sv v2))]/\Sep No w W' [ac (sv v2) 4 1 D.bool s1]) (λy3 x E' W'=>x=.exit 0/\ak E' [(3,(sv v2))]/\Sep No w W' [ac (sv v2) 4 1 D.bool y3]) hy2 ⟨sb z,s.tk [0]⟩ ?_) ?_
 ·intro s1 y4 E W h hI
  obtain ⟨hE,s⟩:=hI
  refine CW.sub hE ?_
  unfold ia at h
  refine .seq (.g (.q z (.q z (bv h λy5 hy5 h=>.c (.cS (L0:=[ac (sv v2) 4 1 D.bool s1]) s func176 (λS h1 h2 h3=>(qu hy5 (s.ks q_0 h1) h2 (zz h1))) z z ?_)))))
  rintro ⟨⟩ W s
  refine .nil ?_
  refine .cs z h ?_ ?_ <;> intro h
  ·refine .skip (.block (.skip ?_))
   cases h
   exact ⟨z,sb z,s.tk [0]⟩
  refine .exit ?_
  cases h
  exact ⟨by simp,z,sb z,s.tk [0]⟩
 intro x E W hJ
 obtain ⟨rfl,hE,s⟩:=hJ
 refine ⟨_,hE.sub,?_⟩
 obtain rfl:=o9 h
 exact .g (.q z (.qn z (.ret (aa v2 (rt z rn) z (s.tk [0])))))
theorem su {a0:ab} {a1:Int} {w:World} {r:Bool} (h:kC a0 a1=some r):CL 149 #[.agg #[vi a0.Op,vi a0.Dst,vi a0.A,vi a0.B,vi a0.N],vi a1] w (RU w (.bool r)):=by
 unfold kC at h
 refine au func149 z z ?_
 have s:=Sep.start w
 refine .g (.c (.box s z z ?_))
 intro g1 W s
 refine .qn z (.seq (.g (.s (fa f62_0 z z z) z (.s (ld t3 s z z z z z) z (.nil (.block (bv h λy1 hy1 h=>?_)))))))
 refine .seq (CW.via (R':=λx E' W'=>x=.normal/\ak E' [(1,vi a1),(2,Pt g1),(6,vi a0.Op),(7,.bool y1)]/\Sep No w W' [.box g1 62 [vi a0.Op,vi a0.Dst,vi a0.A,vi a0.B,vi a0.N]]) ?_ ?_)
 ·have h:=hy1
  refine .g (.q z (.q z (.nil ?_)))
  refine .cs z h ?_ ?_ <;> intro h
  ·refine .skip ?_
   cases h
   exact ⟨z,sb z,s.tk [0]⟩
  refine .region (.q z (.q z (.nil ?_)))
  cases h
  exact ⟨z,sb z,s.tk [0]⟩
 intro x E W hJ
 obtain ⟨rfl,hE,s⟩:=hJ
 refine ⟨_,hE.sub,?_⟩
 refine .cs z h ?_ ?_ <;> intro h
 ·cases h
  exact .g (.s (fa f62_4 z z z) z (.s (ld t3 s z z z z z) z (.q z (.q z (.q z (.qn z (.ret (aa () (rt z rn) z (s.to [])))))))))
 refine .g (.q z (.q z (.nil ?_)))
 refine .cs z h ?_ ?_ <;> intro h
 ·cases h
  exact .g (.s (fa f62_1 z z z) z (.s (ld t3 s z z z z z) z (.s (fa f62_2 z z z) z (.s (ld t3 s z z z z z) z (.q z (.qn z (.ret (aa () (rt z rn) z (s.to [])))))))))
 obtain rfl:=o9 h
 exact .skip (.g (.qn z (.ret (aa () (rt z rn) z (s.to [])))))
theorem rI {a0:List Bool} {a1:Int} {v_0:Hd} {w:World} {r:Int} (h:jG a0 a1=some r) (q_0:RO w v_0 4 1 D.bool a0):CL 150 #[sv v_0,vi a1] w (RU w (.int .i64 r)):=by
 unfold jG at h
 refine au func150 z z ?_
 have s:=Sep.start w
 refine .g (.qn z (.g (.qn z (.seq (.g (.qn z (.block (bv h λy1 hy1 h=>?_))))))))
 refine .via (.iter (λs1 E' W'=>ak E' [(0,(sv v_0)),(1,vi a1),(5,vi s1.1),(6,vi s1.2)]/\Sep No w W' []) (λy2 x E' W'=>x=.exit 0/\ak E' [(5,vi y2)]/\Sep No w W' []) hy1 ⟨sb z,s.to []⟩ ?_) ?_
 ·intro s1 y3 E W h hI
  obtain ⟨hE,s⟩:=hI
  refine CW.sub hE ?_
  unfold lk at h
  refine .seq (.g (.q z (.q z (.q z (.nil ?_)))))
  refine .cs z h ?_ ?_ <;> intro h
  ·refine .skip (bv h λy4 hy4 h=>?_)
   refine .seq (CW.via (R':=λx E' W'=>x=.normal/\ak E' [(0,(sv v_0)),(1,vi a1),(5,vi y4),(6,vi s1.2)]/\Sep No w W' []) ?_ ?_)
   ·have h:=hy4
    refine .block (.g (.q z (.q z (bv h λx1 hx1 h=>.s (ixv (s.keep q_0) hx1 u102 t4 z z z) z (.s (lde (RV.flat (s.keep q_0) hx1 z) t4 z z z z z) z (.nil ?_))))))
    refine .cs z h ?_ ?_ <;> intro h
    ·refine .region (.q z (.q z (.q z (.nil ?_))))
     cases h
     exact ⟨z,sb z,s.to []⟩
    refine .skip ?_
    cases h
    exact ⟨z,sb z,s.to []⟩
   intro x E W hJ
   obtain ⟨rfl,hE,s⟩:=hJ
   refine ⟨_,hE.sub,?_⟩
   refine .region (.q z (.q z (.q z (.nil ?_))))
   cases h
   exact ⟨z,sb z,s.to []⟩
  refine .exit ?_
  cases h
  exact ⟨by simp,z,sb z,s.to []⟩
 intro x E W hJ
 obtain ⟨rfl,hE,s⟩:=hJ
 refine ⟨_,hE.sub,?_⟩
 obtain rfl:=o9 h
 exact .g (.q z (.qn z (.ret (aa () (rt z rn) z (s.to [])))))
theorem oQ {a0:List ab} {v_0:Hd} {w:World} {r:(List ab)×Bool} (h:da a0=some r) (q_0:RO w v_0 62 5 ah a0):CL 123 #[sv v_0] w (Ret No w (λs:Hd=>.tuple #[sv s,.bool r.2]) (λs=>[ac (sv s) 62 5 ah r.1])):=by
 unfold da at h
 refine au func123 z z ?_
 have s:=Sep.start w
 refine .g (.q z (.qn z (.g (.c (.liv [] ah u33 t62 s z z z z ?_ z (λ_=>z))))))
 intro v1 W s
 refine .qn z (.seq (.g (.q z (bv h λy1 hy1 h=>.c (.cO s func57 (bn hy1 (s.keep q_0)) z z ?_)))))
 intro W s
 refine .q z (.nil ?_)
 refine .cs z h ?_ ?_ <;> intro h
 ·cases h
  exact .g (.q z (.q z (.qn z (.ret (aa (vs:=[_,_]) v1 (rt z (rt z rn)) z (s.tk [0]))))))
 refine .skip (.g (.q z (bv h λy2 hy2 h=>.c (.cV s func148 (qv hy2 (s.keep q_0)) z z ?_))))
 intro v2 W s
 refine .qn z (.seq (.g (.qn z (.block (bv h λy3 hy3 h=>?_)))))
 refine .via (.iter (λs1 E' W'=>ak E' [(0,(sv v_0)),(4,(sv v1)),(5,(sv v2)),(6,vi s1.1)]/\Sep No w W' [ac (sv v2) 4 1 D.bool s1.2,ac (sv v1) 62 5 ah []]) (λy4 x E' W'=>x=.exit 0/\ak E' [(0,(sv v_0)),(4,(sv v1)),(5,(sv v2))]/\Sep No w W' [ac (sv v2) 4 1 D.bool y4,ac (sv v1) 62 5 ah []]) hy3 ⟨sb z,s.tk [0,0]⟩ ?_) ?_
 ·intro s1 y5 E W h hI
  obtain ⟨hE,s⟩:=hI
  refine CW.sub hE ?_
  unfold dI at h
  refine .seq (.g (.q z (.q z (.s (aE (s.keep q_0) u33 z z) z (.q z (.nil ?_))))))
  refine .cs z h ?_ ?_ <;> intro h
  ·refine .skip (.seq (.block (.region (.q z (.q z (.q z (.q z (bv h λx1 hx1 h=>.s (ixv s.lv hx1 u102 t4 z z z) z (.s (lde (RV.flat s.lv hx1 z) t4 z z z z z) z (.q z (bv h λb1 hb1 h=>.cu 8 36 (b1) s ?_ ?_)))))))))))
   ·refine .both (x1) (λb=>?_) (λb=>?_)
    ·have hg1:=b
     have h:=aJ b hb1
     refine .g hg1 (.q z (.g hg1 (.q z (bv h λx2 hx2 h=>.g hg1 (.s (ixv (s.keep q_0) hx2 u33 t62 z z z) z (.g hg1 (.s (lde (RV.flat (s.keep q_0) hx2 z) t62 z z z z z) z (.g hg1 (.q z (bv h λy6 hy6 h=>.g hg1 (.c (.cO s func149 (su hy6) z z ?_))))))))))))
     intro W s
     refine .g hg1 (.q z (.s (pkt hg1 z z z) z ?_))
     cases h
     exact .nil (ck 8 s)
    refine .xx b z (.xx b z (.xx b z (.xx b z (.xx b z (.xx b z (.xx b z ?_))))))
    cases aK b hb1
    exact .s (pkf b z z z) z (.nil (ck 8 s))
   intro W s
   refine bv h λx3 hx3 h=>.s (ixv s.lv hx3 u102 t4 z z z) z (bv h λr1 hr1 h=>.c (.sev hr1 hx3 s t4 z z z z z z ?_))
   intro W s
   refine .nil (.region (.q z (.q z (.q z (.nil ?_)))))
   cases h
   exact ⟨z,sb z,s.tk [0,0]⟩
  refine .exit ?_
  cases h
  exact ⟨by simp,z,sb z,s.tk [0,0]⟩
 intro x E W hJ
 obtain ⟨rfl,hE,s⟩:=hJ
 refine ⟨_,hE.sub,?_⟩
 refine .seq (.g (.qn z (.block (bv h λy7 hy7 h=>?_))))
 refine .via (.iter (λs2 E' W'=>∃ (v5:Hd),ak E' [(0,(sv v_0)),(4,(sv v5)),(5,(sv v2)),(7,vi s2.2)]/\Sep No w W' [ac (sv v2) 4 1 D.bool y3,ac (sv v5) 62 5 ah s2.1]) (λy8 x E' W'=>x=.exit 2/\∃ (v6:Hd),ak E' [(4,(sv v6))]/\Sep No w W' [ac (sv v2) 4 1 D.bool y3,ac (sv v6) 62 5 ah y8]) hy7 ⟨v1,sb z,s.tk [0,0]⟩ ?_) ?_
 ·intro s2 y9 E W h hI
  obtain ⟨v4,hE,s⟩:=hI
  refine CW.sub hE ?_
  unfold dJ at h
  refine .seq (.g (.q z (.q z (.s (aE (s.keep q_0) u33 z z) z (.q z (.nil ?_))))))
  refine .cs z h ?_ ?_ <;> intro h
  ·refine .skip (bv h λy10 hy10 h=>?_)
   refine .seq (CW.via (R':=λx E' W'=>x=.normal/\∃ (v7:Hd),ak E' [(0,(sv v_0)),(4,(sv v7)),(5,(sv v2)),(7,vi s2.2)]/\Sep No w W' [ac (sv v2) 4 1 D.bool y3,ac (sv v7) 62 5 ah y10]) ?_ ?_)
   ·have h:=hy10
    refine .block (.g (.q z (.q z (bv h λx4 hx4 h=>.s (ixv (s.keep q_0) hx4 u33 t62 z z z) z (.s (lde (RV.flat (s.keep q_0) hx4 z) t62 z z z z z) z (.c (.alloc t62 s ?_)))))))
    intro g1 W s
    refine .c (.st t62 s z z z ?_)
    intro W s
    refine .nil (.seq (.g (.q z (.q z (bv h λx5 hx5 h=>.s (ixv s.p1.lv hx5 u102 t4 z z z) z (.s (lde (RV.flat s.p1.lv hx5 z) t4 z z z z z) z (.q z (.nil ?_))))))))
    refine .cs z h ?_ ?_ <;> intro h
    ·refine .exit ?_
     cases h
     exact ⟨z,v4,sb z,s.tk [1,1]⟩
    refine .skip (bv h λy11 hy11 h=>?_)
    refine .seq (CW.via (R':=λx E' W'=>x=.normal/\ak E' [(0,(sv v_0)),(4,(sv v4)),(5,(sv v2)),(7,vi s2.2),(8,Pt g1)]/\Sep No w W' [.box g1 62 [vi y11.Op,vi y11.Dst,vi y11.A,vi y11.B,vi y11.N],ac (sv v2) 4 1 D.bool y3,ac (sv v4) 62 5 ah s2.1]) ?_ ?_)
    ·have h:=hy11
     refine .g (.s (fa f62_0 z z z) z (.s (ld t3 s z z z z z) z (.q z (.q z (.cu 4 60 ((x4.Op==4)||(x4.Op==5)) s ?_ ?_)))))
     ·refine .both (x4.Op==4) (λb=>?_) (λb=>?_)
      ·exact .xx b z (.xx b z (.xx b z (.s (pkt b z z z) z (.nil (ck 4 s z (jr b))))))
      have hg2:=b
      exact .g hg2 (.s (fa f62_0 z z z) z (.g hg2 (.s (ld t3 s z z z z z) z (.g hg2 (.q z (.s (pkf hg2 z z z) z (.nil (ck 4 s z (iR hg2)))))))))
     intro W s
     refine .nil ?_
     refine .cs z h ?_ ?_ <;> intro h
     ·refine .region (.q z (.s (fa f62_4 z z z) z (.s (ld t3 s z z z z z) z (bv h λy12 hy12 h=>.c (.cO s func150 (rI hy12 s.p1.lv) z z ?_)))))
      intro W s
      refine .s (fa f62_4 z z z) z (.c (.st t3 s z z z ?_))
      intro W s
      refine .nil ?_
      cases h
      exact ⟨z,sb z,s.tk [0,0,0]⟩
     refine .skip ?_
     obtain rfl:=o9 h
     exact ⟨z,sb z,s.tk [0,0,0]⟩
    intro x E W hJ
    obtain ⟨rfl,hE,s⟩:=hJ
    refine ⟨_,hE.sub,?_⟩
    refine .region (.q z (.s (ld t62 s z z z z z) z (.c (.liv [y11] ah u33 t62 s z z z z ?_ z (λ_=>z)))))
    intro v8 W s
    refine bv h λr2 hr2 h=>?_
    have hT0:=s.p3
    refine .c (.av hr2 hT0 hT0.p1.lv (λ_=>z) u33 t62 z z z ?_)
    intro v9 W s
    refine .q z (.nil ?_)
    obtain rfl:=o9 h
    exact ⟨z,v9,sb z,s.tk [3,0]⟩
   intro x E W hJ
   obtain ⟨rfl,v10,hE,s⟩:=hJ
   refine ⟨_,hE.sub,?_⟩
   refine .region (.q z (.q z (.q z (.nil ?_))))
   cases h
   exact ⟨z,v10,sb z,s.tk [0,0]⟩
  refine .exit ?_
  cases h
  exact ⟨by simp,z,v4,sb z,s.tk [0,0]⟩
 intro x E W hJ
 obtain ⟨rfl,v11,hE,s⟩:=hJ
 refine ⟨_,hE.sub,?_⟩
 cases h
 exact .g (.q z (.q z (.qn z (.ret (aa (vs:=[_,_]) v11 (rt z (rt z rn)) z (s.tk [1]))))))
theorem sw {a0:List ab} {v_0:Hd} {w:World} {r:(List ab)} (h:l5 a0=some r) (q_0:RO w v_0 62 5 ah a0):CL 88 #[sv v_0] w (Ret No w (λs:Hd=>(sv s)) (λs=>[ac (sv s) 62 5 ah r])):=by
 unfold l5 at h
 refine au func88 z z ?_
 have s:=Sep.start w
 refine .g (.qn z (.g (.q z (bv h λy1 hy1 h=>.c (.cV s func119 (rr hy1 (s.keep q_0)) z z ?_)))))
 intro v1 W s
 refine .q z (.q z (.q z (.q z (.qn z (.g (.q z (bv h λy2 hy2 h=>.c (.cV s func120 (rz hy2 s.lv) z z ?_))))))))
 intro v2 W s
 refine .q z (.q z (.q z (.q z (.qn z (.g (.q z (bv h λy3 hy3 h=>.c (.cV s func121 (rE hy3 s.lv) z z ?_))))))))
 intro v3 W s
 refine .q z (.q z (.q z (.q z (.qn z (.g (.q z (bv h λy4 hy4 h=>.c (.cV s func122 (rH hy4 s.lv) z z ?_))))))))
 intro v4 W s
 refine .q z (.q z (.q z (.q z (.qn z (.g (.q z (bv h λy5 hy5 h=>.c (.cV s func123 (oQ hy5 s.lv) z z ?_))))))))
 intro v5 W s
 cases h
 exact .q z (.q z (.q z (.q z (.qn z (.g (.q z (.qn z (.ret (aa v5 (rt z rn) z (s.tk [0]))))))))))
theorem oc {a0:List ab} {a1:Int} {v_0:Hd} {w:World} {r:(List ab)×Bool} (h:bX a0 a1=some r) (q_0:RO w v_0 62 5 ah a0):CL 56 #[sv v_0,vi a1] w (Ret No w (λs:Hd=>.tuple #[sv s,.bool r.2]) (λs=>[ac (sv s) 62 5 ah r.1])):=by
 unfold bX at h
 refine au func56 z z ?_
 have s:=Sep.start w
 refine .g (.q z (.qn z (.seq (.g (.q z (bv h λy1 hy1 h=>.c (.cO s func57 (bn hy1 (s.keep q_0)) z z ?_)))))))
 intro W s
 refine .q z (.q z (bv h λb1 hb1 h=>.cu 4 15 (b1) s ?_ ?_))
 ·refine .both (!y1) (λb=>?_) (λb=>?_)
  ·refine .xx b z (.xx b z (.xx b z ?_))
   cases aJ b hb1
   exact .s (pkt b z z z) z (.nil (ck 4 s))
  have hg1:=b
  have h:=aK b hb1
  refine .g hg1 (.q z (bv h λy2 hy2 h=>.g hg1 (.c (.cO s func55 (bO hy2) z z ?_))))
  intro W s
  refine .g hg1 (.q z (.s (pkf hg1 z z z) z ?_))
  cases h
  exact .nil (ck 4 s)
 intro W s
 refine .nil ?_
 refine .cs z h ?_ ?_ <;> intro h
 ·refine .g (.c (.liv [] ah u33 t62 s z z z z ?_ z (λ_=>z)))
  intro v1 W s
  cases h
  exact .q z (.qn z (.ret (aa (vs:=[_,_]) v1 (rt z (rt z rn)) z (s.tk [0]))))
 refine .skip (.g (.c (.liv [] ah u33 t62 s z z z z ?_ z (λ_=>z))))
 intro v2 W s
 refine .q z (bv h λr1 hr1 h=>.c (.av hr1 s (s.keep q_0) (λ_=>z) u33 t62 z z z ?_))
 intro v3 W s
 refine .qn z (.seq (.g (.qn z (.block (bv h λy3 hy3 h=>?_)))))
 refine .via (.iter (λs1 E' W'=>∃ (v6:Hd),ak E' [(1,vi a1),(6,(sv v6)),(7,vi s1.2)]/\Sep No w W' [ac (sv v6) 62 5 ah s1.1]) (λy4 x E' W'=>x=.exit 0/\∃ (v7:Hd),ak E' [(6,(sv v7))]/\Sep No w W' [ac (sv v7) 62 5 ah y4]) hy3 ⟨v3,sb z,s.tk [0]⟩ ?_) ?_
 ·intro s1 y5 E W h hI
  obtain ⟨v5,hE,s⟩:=hI
  refine CW.sub hE ?_
  unfold bG at h
  refine .seq (.g (.q z (.q z (.q z (.nil ?_)))))
  refine .cs z h ?_ ?_ <;> intro h
  ·refine .skip (.seq (.block (.region (.q z (bv h λy6 hy6 h=>.c (.cV s func88 (sw hy6 s.lv) z z ?_))))))
   intro v8 W s
   refine .qn z (.region (.q z (.q z (.q z (.nil ?_)))))
   cases h
   exact ⟨z,v8,sb z,s.tk [0]⟩
  refine .exit ?_
  cases h
  exact ⟨by simp,z,v5,sb z,s.tk [0]⟩
 intro x E W hJ
 obtain ⟨rfl,v9,hE,s⟩:=hJ
 refine ⟨_,hE.sub,?_⟩
 cases h
 exact .g (.q z (.q z (.qn z (.ret (aa (vs:=[_,_]) v9 (rt z (rt z rn)) z (s.tk [0]))))))
def pN (w:World) (r:(List (List ab))×Bool):Env->World->Prop:=Fin Tryz.prog Tryz.f27 No w (λs:Hd=>.tuple #[sv s,.bool r.2]) (λs=>[ac (sv s) 33 1 (λ(l:List ab)=>D.row 62 5 (l.map ah)) r.1]) .ret
theorem oS {a0:List (List ab)} {a1:Int} {v_0:Hd} {w:World} {r:(List (List ab))×Bool} (h:db a0 a1=some r) (q_0:RO w v_0 33 1 (λ(l:List ab)=>D.row 62 5 (l.map ah)) a0):CL 27 #[sv v_0,vi a1] w (Ret No w (λs:Hd=>.tuple #[sv s,.bool r.2]) (λs=>[ac (sv s) 33 1 (λ(l:List ab)=>D.row 62 5 (l.map ah)) r.1])):=by
 unfold db at h
 refine au func27 z z ?_
 have s:=Sep.start w
 refine .g (.q z (.qn z (.g (.c (.lg (L1:=[]) [] (λ(l:List ab)=>D.row 62 5 (l.map ah)) u29 t33 (s.to []) z z z (.nil) ?_ z (λ_=>z))))))
 intro v1 W s
 refine .qn z (.seq (.g (.q z (.s (aE (s.keep q_0) u29 z z) z (bv h λy1 hy1 h=>.c (.cO s func55 (bO hy1) z z ?_))))))
 intro W s
 refine .q z (.nil ?_)
 refine .cs z h ?_ ?_ <;> intro h
 ·cases h
  exact .g (.q z (.q z (.qn z (.ret (aa (vs:=[_,_]) v1 (rt z (rt z rn)) z (s.tk [0]))))))
 refine .skip (.seq (.g (.qn z (.block (bv h λy2 hy2 h=>?_)))))
 refine .via (.iter (λs1 E' W'=>∃ (v4:Hd),ak E' [(0,(sv v_0)),(1,vi a1),(6,(sv v4)),(7,vi s1.2)]/\Sep No w W' [ac (sv v4) 33 1 (λ(l:List ab)=>D.row 62 5 (l.map ah)) s1.1]) (λy3 x E' W'=>(match y3 with | .inl o1=>x=.ret/\pN w o1 E' W' | .inr o2=>x=.exit 0/\∃ (v5:Hd),ak E' [(6,(sv v5))]/\Sep No w W' [ac (sv v5) 33 1 (λ(l:List ab)=>D.row 62 5 (l.map ah)) o2])) hy2 ⟨v1,sb rfl,s.tk [0]⟩ ?_) ?_
 ·intro s1 y4 E W h hI
  obtain ⟨v3,hE,s⟩:=hI
  refine CW.sub hE ?_
  unfold cN at h
  refine .seq (.g (.q z (.q z (.s (aE (s.keep q_0) u29 z z) z (.q z (.nil ?_))))))
  refine .cs z h ?_ ?_ <;> intro h
  ·refine .skip (.seq (.block (.g (.q z (.q z (bv h λx1 hx1 h=>?_))))))
   obtain ⟨k1,hd,hck1⟩:=RV.el2 q_0 hx1
   obtain ⟨v6,k1,rfl,q5,hd1⟩:=cw q_0 hd
   obtain rfl:=kT q_0 hd1
   refine .s (ixv (s.keep q_0) hx1 u29 t33 z z z) z (.s (lde (hck1 _ s.agree) t33 z z z z z) z (.q z (bv h λy5 hy5 h=>.c (.cV s func56 (oc hy5 (s.keep (q5 _ q_0))) z z ?_))))
   intro v7 W s
   refine .q z (.q z (.q z (.q z (.qn z (.seq (.g (.q z (.q z (.nil ?_)))))))))
   refine .cs z h ?_ ?_ <;> intro h
   ·refine .g (.c (.lg (L1:=[]) [] (λ(l:List ab)=>D.row 62 5 (l.map ah)) u29 t33 (s.to [0,0]) z z z (.nil) ?_ z (λ_=>z)))
    intro v8 W s
    refine .q z (.qn z (.ret ?_))
    cases h
    exact ⟨by simp,z,aa (vs:=[_,_]) v8 (rt z (rt z rn)) z (s.tk [0])⟩
   refine .skip (.region (.q z (.q z (.c (.lg (L1:=[ac (sv v7) 62 5 ah y5.1]) [y5.1] (λ(l:List ab)=>D.row 62 5 (l.map ah)) u29 t33 (s.to [0,0]) z z z (.row (.nil)) ?_ z (λ_=>z))))))
   intro v9 W s
   refine bv h λr1 hr1 h=>.c (.appv hr1 (s.to [1,0]) u29 t33 z z z ?_)
   intro v10 W s
   refine .qn z (.region (.q z (.q z (.q z (.nil ?_)))))
   cases h
   exact ⟨z,v10,sb z,s.tk [0]⟩
  refine .exit ?_
  cases h
  exact ⟨by simp,z,v3,sb z,s.tk [0]⟩
 intro x E W hJ
 rcases y2 with o3 | o4
 ·have h:=dl h
  obtain ⟨rfl,hF⟩:=hJ
  refine ⟨_,λ_ _ h=>h,?_⟩
  cases h
  exact hF
 have h:=dm h
 obtain ⟨rfl,v11,hE,s⟩:=hJ
 refine ⟨_,hE.sub,?_⟩
 cases h
 exact .g (.q z (.q z (.qn z (.ret (aa (vs:=[_,_]) v11 (rt z (rt z rn)) z (s.tk [0]))))))
theorem rJ {a0:List ab} {v_0:Hd} {w:World} {r:(List (List Bool))} (h:jH a0=some r) (q_0:RO w v_0 62 5 ah a0):CL 90 #[sv v_0] w (Ret No w (λs:Hd=>(sv s)) (λs=>[ac (sv s) 102 1 (λ(l:List Bool)=>D.row 4 1 (l.map D.bool)) r])):=by
 unfold jH at h
 refine au func90 z z ?_
 have s:=Sep.start w
 refine .g (.qn z (.g (.q z (bv h λy1 hy1 h=>.c (.cV s func127 (ob hy1 (s.keep q_0)) z z ?_)))))
 intro v1 W s
 refine .qn z (.g (.c (.lg (L1:=[]) [] (λ(l:List Bool)=>D.row 4 1 (l.map D.bool)) u119 t102 (s.to [0]) z z z (.nil) ?_ z (λ_=>z))))
 intro v2 W s
 refine .qn z (.seq (.g (.qn z (.block (bv h λy2 hy2 h=>?_)))))
 refine .via (.iter (λs1 E' W'=>∃ (v5:Hd),ak E' [(0,(sv v_0)),(3,(sv v1)),(4,(sv v5)),(5,vi s1.2)]/\Sep No w W' [ac (sv v1) 102 1 (λ(l:List Bool)=>D.row 4 1 (l.map D.bool)) y1,ac (sv v5) 102 1 (λ(l:List Bool)=>D.row 4 1 (l.map D.bool)) s1.1]) (λy3 x E' W'=>x=.exit 0/\∃ (v6:Hd),ak E' [(4,(sv v6))]/\Sep No w W' [ac (sv v1) 102 1 (λ(l:List Bool)=>D.row 4 1 (l.map D.bool)) y1,ac (sv v6) 102 1 (λ(l:List Bool)=>D.row 4 1 (l.map D.bool)) y3]) hy2 ⟨v2,sb z,s.tk [1,0]⟩ ?_) ?_
 ·intro s1 y4 E W h hI
  obtain ⟨v4,hE,s⟩:=hI
  refine CW.sub hE ?_
  unfold lm at h
  refine .seq (.g (.q z (.q z (.s (aE (s.keep q_0) u33 z z) z (.q z (.nil ?_))))))
  refine .cs z h ?_ ?_ <;> intro h
  ·refine .skip (.seq (.block (.region (.q z (.q z (.q z (.q z (bv h λy5 hy5 h=>.c (.cV s func128 (lr hy5 (s.keep q_0) s.lv) z z ?_)))))))))
   intro v7 W s
   refine .c (.lg (L1:=[ac (sv v7) 4 1 D.bool y5]) [y5] (λ(l:List Bool)=>D.row 4 1 (l.map D.bool)) u119 t102 (s.to [0,0,0]) z z z (.row (.nil)) ?_ z (λ_=>z))
   intro v8 W s
   refine bv h λr1 hr1 h=>.c (.appv hr1 (s.to [2,0,0]) u119 t102 z z z ?_)
   intro v9 W s
   refine .qn z (.region (.q z (.q z (.q z (.nil ?_)))))
   cases h
   exact ⟨z,v9,sb z,s.tk [1,0]⟩
  refine .exit ?_
  cases h
  exact ⟨by simp,z,v4,sb z,s.tk [0,0]⟩
 intro x E W hJ
 obtain ⟨rfl,v10,hE,s⟩:=hJ
 refine ⟨_,hE.sub,?_⟩
 obtain rfl:=o9 h
 exact .g (.q z (.qn z (.ret (aa v10 (rt z rn) z (s.tk [1])))))
theorem m5 {a0:ab} {a1:List Bool} {a2:Int} {a3:Int} {v_1:Hd} {w:World} {r:Bool} (h:gV a0 a1 a2 a3=some r) (q_1:RO w v_1 4 1 D.bool a1):CL 154 #[.agg #[vi a0.Op,vi a0.Dst,vi a0.A,vi a0.B,vi a0.N],sv v_1,vi a2,vi a3] w (RU w (.bool r)):=by
 unfold gV at h
 refine au func154 z z ?_
 have s:=Sep.start w
 refine .g (.c (.box s z z ?_))
 intro g1 W s
 refine .qn z (.seq (.g (.s (ld t62 s z z z z z) z (bv h λy1 hy1 h=>.c (.cO s func92 (gq hy1) z z ?_)))))
 intro W s
 refine .q z (.q z (.q z (bv h λb1 hb1 h=>.cu 6 19 (b1) s ?_ ?_)))
 ·refine .both (y1 !=a2) (λb=>?_) (λb=>?_)
  ·refine .xx b z (.xx b z (.xx b z (.xx b z (.xx b z ?_))))
   cases aJ b hb1
   exact .s (pkt b z z z) z (.nil (ck 6 s))
  have hg1:=b
  have h:=aK b hb1
  refine .g hg1 (.q z (.g hg1 (.q z (bv h λx1 hx1 h=>.g hg1 (.s (ixv (s.keep q_1) hx1 u102 t4 z z z) z (.g hg1 (.s (lde (RV.flat (s.keep q_1) hx1 z) t4 z z z z z) z (.g hg1 (.q z (.s (pkf hg1 z z z) z ?_))))))))))
  cases h
  exact .nil (ck 6 s)
 intro W s
 refine .nil ?_
 refine .cs z h ?_ ?_ <;> intro h
 ·obtain rfl:=o9 h
  exact .g (.qn z (.ret (aa () (rt z rn) z (s.to []))))
 refine .skip (.g (.s (fa f62_0 z z z) z (.s (ld t3 s z z z z z) z (.q z (.q z (.cu 5 28 ((a0.Op !=2)||(a0.A !=a3)) s ?_ ?_))))))
 ·refine .both (a0.Op !=2) (λb=>?_) (λb=>?_)
  ·exact .xx b z (.xx b z (.xx b z (.xx b z (.s (pkt b z z z) z (.nil (ck 5 s z (jr b)))))))
  have hg2:=b
  exact .g hg2 (.s (fa f62_2 z z z) z (.g hg2 (.s (ld t3 s z z z z z) z (.g hg2 (.q z (.g hg2 (.q z (.s (pkf hg2 z z z) z (.nil (ck 5 s z (iR hg2)))))))))))
 intro W s
 cases h
 exact .qn z (.ret (aa () (rt z rn) z (s.to [])))
def tR (w:World) (r:Bool):Env->World->Prop:=Fin Tryz.prog Tryz.f129 No w (λs:Unit=>.bool r) (λs=>[]) .ret
theorem sA {a0:List ab} {a1:List (List Bool)} {a2:Int} {a3:Int} {v_0:Hd} {v_1:Hd} {w:World} {r:Bool} (h:kD a0 a1 a2 a3=some r) (q_0:RO w v_0 62 5 ah a0) (q_1:RO w v_1 102 1 (λ(l:List Bool)=>D.row 4 1 (l.map D.bool)) a1):CL 129 #[sv v_0,sv v_1,vi a2,vi a3] w (RU w (.bool r)):=by
 unfold kD at h
 refine au func129 z z ?_
 have s:=Sep.start w
 refine .g (.qn z (.seq (.g (.q z (.q z (.q z (.nil ?_)))))))
 refine .cs z h ?_ ?_ <;> intro h
 ·obtain rfl:=o9 h
  exact .g (.qn z (.ret (aa () (rt z rn) z (s.to []))))
 refine .skip (.seq (.g (.qn z (.block (bv h λy1 hy1 h=>?_)))))
 refine .via (.iter (λs1 E' W'=>ak E' [(0,(sv v_0)),(1,(sv v_1)),(2,vi a2),(3,vi a3),(9,vi s1)]/\Sep No w W' []) (λy2 x E' W'=>(match y2 with | .inl o1=>x=.ret/\tR w o1 E' W' | .inr o2=>x=.exit 0/\ak E' []/\Sep No w W' [])) hy1 ⟨sb rfl,s.to [] rfl⟩ ?_) ?_
 ·intro s1 y3 E W h hI
  obtain ⟨hE,s⟩:=hI
  refine CW.sub hE ?_
  unfold lQ at h
  refine .seq (.g (.q z (.q z (.s (aE (s.keep q_0) u33 z z) z (.q z (.nil ?_))))))
  refine .cs z h ?_ ?_ <;> intro h
  ·refine .skip (.seq (.block (.seq (bv h λx1 hx1 h=>bv h λx2 hx2 h=>bv h λy4 hy4 h=>bv h λb1 hb1 h=>?_))))
   refine .via (R':=λx E' W'=>x=.normal/\ak E' [(0,(sv v_0)),(1,(sv v_1)),(2,vi a2),(3,vi a3),(9,vi s1),(42,.bool b1)]/\Sep No w W' []) ?_ ?_
   ·refine .rk 24 s [] T.mix ?_
    intro W s
    have t:=s.to []
    refine .tp' 0 z z t (.tp' 1 z z t (.ts' 2 z (λW t=>ixv (s.keep q_0) hx1 u33 t62 z z z) t z (.ts' 3 z (λW t=>lde (RV.flat (t.keep q_0) hx1 z) t62 z z z z z) t z (.tp' 4 z z t (.tp' 5 z z t ?_)))))
    obtain ⟨k1,hd,hck1⟩:=RV.el2 q_1 hx2
    obtain ⟨v1,k1,rfl,q1,hd1⟩:=cw q_1 hd
    obtain rfl:=kT q_1 hd1
    refine .ts' 6 z (λW t=>ixv (s.keep q_1) hx2 u119 t102 z z z) t z (.ts' 7 z (λW t=>lde (hck1 _ t.agree) t102 z z z z z) t z (.tp' 8 z z t (.tp' 9 z z t (.by1 10 z (.cO s func154 (m5 hy4 (s.keep (q1 _ q_1))) z z ?_)))))
    intro W s
    refine s.an [] λt=>.tp' 11 z z t (.both (y4) (λb=>?_) (λb=>?_))
    ·exact .off 12 z b t (.off 13 z b t (.off 14 z b t (.off 15 z b t (.off 16 z b t (.off 17 z b t (.off 18 z b t (.off 19 z b t (.off 20 z b t (.off 21 z b t (.off 22 z b t (.ts' 23 z (λW t=>pkt b z z z) t z (.eqv 42 z (lu (aJ b hb1)) (.done (⟨z,sb z,s.to []⟩)))) (by kernel_rfl) z z) (by kernel_rfl) z z) (by kernel_rfl) z z) (by kernel_rfl) z z) (by kernel_rfl) z z) (by kernel_rfl) z z) (by kernel_rfl) z z) (by kernel_rfl) z z) (by kernel_rfl) z z) (by kernel_rfl) z z) (by kernel_rfl) z z
    have hg1:=b
    have h_b1:=aK b hb1
    refine .t1g 12 z hg1 (λW t=>pr z) t (.t1g 13 z hg1 (λW t=>pr z) t (bv h_b1 λx3 hx3 h_b1=>.t1g 14 z hg1 (λW t=>ixv (s.keep q_0) hx3 u33 t62 z z z) t (.t1g 15 z hg1 (λW t=>lde (RV.flat (t.keep q_0) hx3 z) t62 z z z z z) t (.t1g 16 z hg1 (λW t=>pr z) t (.t1g 17 z hg1 (λW t=>pr z) t (bv h_b1 λx4 hx4 h_b1=>?_) (by kernel_rfl) z z) (by kernel_rfl) z z) (by kernel_rfl) z z) (by kernel_rfl) z z) (by kernel_rfl) z z) (by kernel_rfl) z z
    obtain ⟨k2,hd,hck2⟩:=RV.el2 q_1 hx4
    obtain ⟨v2,k2,rfl,q2,hd1⟩:=cw q_1 hd
    obtain rfl:=kT q_1 hd1
    refine .t1g 18 z hg1 (λW t=>ixv (s.keep q_1) hx4 u119 t102 z z z) t (.t1g 19 z hg1 (λW t=>lde (hck2 _ t.agree) t102 z z z z z) t (.t1g 20 z hg1 (λW t=>pr z) t (.t1g 21 z hg1 (λW t=>pr z) t (bv h_b1 λy5 hy5 h_b1=>.by1 22 z (.gd hg1 (.cO s func154 (m5 hy5 (s.keep (q2 _ q_1))) z z ?_))) (by kernel_rfl) z z) (by kernel_rfl) z z) (by kernel_rfl) z z) (by kernel_rfl) z z
    intro W s
    refine s.an [] λt=>?_
    exact .ts' 23 z (λW t=>pkf hg1 z z z) t z (.eqv 42 z (lu h_b1) (.done (⟨z,sb z,s.to []⟩)))
   intro x E W hJ
   obtain ⟨rfl,hE,s⟩:=hJ
   refine ⟨_,hE.sub,?_⟩
   refine .cs z h ?_ ?_ <;> intro h
   ·refine .g (.qn z (.ret ?_))
    cases h
    exact ⟨by simp,z,aa (vs:=[_]) () (rt z rn) z (s.to [])⟩
   refine .skip (.region (.q z (.q z (.q z (.nil ?_)))))
   cases h
   exact ⟨z,sb z,s.to []⟩
  refine .exit ?_
  cases h
  exact ⟨by simp,z,sb z,s.to []⟩
 intro x E W hJ
 rcases y1 with o3 | o4
 ·have h:=dl h
  obtain ⟨rfl,hF⟩:=hJ
  refine ⟨_,λ_ _ h=>h,?_⟩
  cases h
  exact hF
 have h:=dm h
 obtain ⟨rfl,hE,s⟩:=hJ
 refine ⟨_,hE.sub,?_⟩
 obtain rfl:=o9 h
 exact .g (.qn z (.ret (aa () (rt z rn) z (s.to []))))
def sB (w:World) (r:Int):Env->World->Prop:=Fin Tryz.prog Tryz.f91 No w (λs:Unit=>.int .i64 r) (λs=>[]) .ret
theorem rK {a0:List ab} {a1:List (List Bool)} {a2:List Int} {v_0:Hd} {v_1:Hd} {v_2:Hd} {w:World} {r:Int} (h:jI a0 a1 a2=some r) (q_0:RO w v_0 62 5 ah a0) (q_1:RO w v_1 102 1 (λ(l:List Bool)=>D.row 4 1 (l.map D.bool)) a1) (q_2:RO w v_2 3 1 (D.int .i64) a2):CL 91 #[sv v_0,sv v_1,sv v_2] w (RU w (.int .i64 r)):=by
 unfold jI at h
 refine au func91 z z ?_
 have s:=Sep.start w
 refine .g (.qn z (.g (.q z (.s (aE (s.keep q_2) u23 z z) z (.qn z (.seq (.g (.qn z (.block (bv h λy1 hy1 h=>?_))))))))))
 refine .via (.iter (λs1 E' W'=>ak E' [(0,(sv v_0)),(1,(sv v_1)),(2,(sv v_2)),(7,vi (a2.length:Int)),(8,vi s1)]/\Sep No w W' []) (λy2 x E' W'=>(match y2 with | .inl o1=>x=.ret/\sB w o1 E' W' | .inr o2=>x=.exit 0/\ak E' [(7,vi (a2.length:Int))]/\Sep No w W' [])) hy1 ⟨sb rfl,s.to [] rfl⟩ ?_) ?_
 ·intro s1 y3 E W h hI
  obtain ⟨hE,s⟩:=hI
  refine CW.sub hE ?_
  unfold ln at h
  refine .seq (.g (.q z (.q z (.q z (.nil ?_)))))
  refine .cs z h ?_ ?_ <;> intro h
  ·refine .skip (.seq (.block (.g (.qn z (.seq (.g (.qn z (.block (bv h λy4 hy4 h=>?_)))))))))
   refine .via (.iter (λs2 E' W'=>ak E' [(0,(sv v_0)),(1,(sv v_1)),(2,(sv v_2)),(7,vi (a2.length:Int)),(8,vi s1),(9,.bool s2.1),(10,vi s2.2)]/\Sep No w W' []) (λy5 x E' W'=>x=.exit 2/\ak E' [(0,(sv v_0)),(1,(sv v_1)),(2,(sv v_2)),(7,vi (a2.length:Int)),(8,vi s1),(9,.bool y5)]/\Sep No w W' []) hy4 ⟨sb z,s.to []⟩ ?_) ?_
   ·intro s2 y6 E W h hI
    obtain ⟨hE,s⟩:=hI
    refine CW.sub hE ?_
    unfold je at h
    refine .seq (.g (.q z (.q z (.q z (.nil ?_)))))
    refine .cs z h ?_ ?_ <;> intro h
    ·refine .skip (bv h λy7 hy7 h=>?_)
     refine .seq (CW.via (R':=λx E' W'=>x=.normal/\ak E' [(0,(sv v_0)),(1,(sv v_1)),(2,(sv v_2)),(7,vi (a2.length:Int)),(8,vi s1),(9,.bool y7),(10,vi s2.2)]/\Sep No w W' []) ?_ ?_)
     ·have h:=hy7
      refine .block (.g (.q z (.q z (bv h λx1 hx1 h=>.s (ixv (s.keep q_2) hx1 u23 t3 z z z) z (.s (lde (RV.flat (s.keep q_2) hx1 z) t3 z z z z z) z (.q z (.q z (.q z (bv h λb1 hb1 h=>.cu 6 35 (b1) s ?_ ?_)))))))))
      ·refine .both (x1==s1) (λb=>?_) (λb=>?_)
       ·have hg1:=b
        have h:=aJ b hb1
        refine .g hg1 (.q z (.g hg1 (.q z (.g hg1 (.q z (.g hg1 (.q z (bv h λy8 hy8 h=>.g hg1 (.c (.cO s func129 (sA hy8 (s.keep q_0) (s.keep q_1)) z z ?_))))))))))
        intro W s
        refine .s (pkt hg1 z z z) z ?_
        cases h
        exact .nil (ck 6 s)
       refine .xx b z (.xx b z (.xx b z (.xx b z (.xx b z ?_))))
       cases aK b hb1
       exact .s (pkf b z z z) z (.nil (ck 6 s))
      intro W s
      refine .nil ?_
      refine .cs z h ?_ ?_ <;> intro h
      ·refine .region (.q z (.nil ?_))
       obtain rfl:=o9 h
       exact ⟨z,sb z,s.to []⟩
      refine .skip ?_
      cases h
      exact ⟨z,sb z,s.to []⟩
     intro x E W hJ
     obtain ⟨rfl,hE,s⟩:=hJ
     refine ⟨_,hE.sub,?_⟩
     refine .region (.q z (.q z (.q z (.nil ?_))))
     cases h
     exact ⟨z,sb z,s.to []⟩
    refine .exit ?_
    cases h
    exact ⟨by simp,z,sb z,s.to []⟩
   intro x E W hJ
   obtain ⟨rfl,hE,s⟩:=hJ
   refine ⟨_,hE.sub,?_⟩
   refine .g (.q z (.nil ?_))
   refine .cs z h ?_ ?_ <;> intro h
   ·refine .g (.q z (.qn z (.ret ?_)))
    cases h
    exact ⟨by simp,z,aa (vs:=[_]) () (rt z rn) z (s.to [])⟩
   refine .skip (.region (.q z (.q z (.q z (.nil ?_)))))
   cases h
   exact ⟨z,sb z,s.to []⟩
  refine .exit ?_
  cases h
  exact ⟨by simp,z,sb z,s.to []⟩
 intro x E W hJ
 rcases y1 with o3 | o4
 ·have h:=dl h
  obtain ⟨rfl,hF⟩:=hJ
  refine ⟨_,λ_ _ h=>h,?_⟩
  cases h
  exact hF
 have h:=dm h
 obtain ⟨rfl,hE,s⟩:=hJ
 refine ⟨_,hE.sub,?_⟩
 cases h
 exact .g (.q z (.qn z (.ret (aa () (rt z rn) z (s.to [])))))
theorem rL {a0:List ab} {v_0:Hd} {w:World} {r:(List Int)} (h:gW a0=some r) (q_0:RO w v_0 62 5 ah a0):CL 58 #[sv v_0] w (Ret No w (λs:Hd=>(sv s)) (λs=>[ac (sv s) 3 1 (D.int .i64) r])):=by
 unfold gW at h
 refine au func58 z z ?_
 have s:=Sep.start w
 refine .g (.qn z (.g (.c (.liv [] (D.int .i64) u23 t3 s z z z z ?_ z (λ_=>z)))))
 intro v1 W s
 refine .qn z (.seq (.g (.q z (bv h λy1 hy1 h=>.c (.cO s func57 (bn hy1 (s.keep q_0)) z z ?_)))))
 intro W s
 refine .q z (.nil ?_)
 refine .cs z h ?_ ?_ <;> intro h
 ·cases h
  exact .g (.q z (.qn z (.ret (aa v1 (rt z rn) z (s.tk [0])))))
 refine .skip (.g (.q z (bv h λy2 hy2 h=>.c (.cV s func90 (rJ hy2 (s.keep q_0)) z z ?_))))
 intro v2 W s
 refine .qn z (.seq (.g (.qn z (.block (bv h λy3 hy3 h=>?_)))))
 refine .via (.iter (λs1 E' W'=>∃ (v5:Hd),ak E' [(0,(sv v_0)),(3,(sv v5)),(4,(sv v2)),(5,vi s1.2)]/\Sep No w W' [ac (sv v2) 102 1 (λ(l:List Bool)=>D.row 4 1 (l.map D.bool)) y2,ac (sv v5) 3 1 (D.int .i64) s1.1]) (λy4 x E' W'=>x=.exit 0/\∃ (v6:Hd),ak E' [(3,(sv v6))]/\Sep No w W' [ac (sv v2) 102 1 (λ(l:List Bool)=>D.row 4 1 (l.map D.bool)) y2,ac (sv v6) 3 1 (D.int .i64) y4]) hy3 ⟨v1,sb z,s.tk [0,0]⟩ ?_) ?_
 ·intro s1 y5 E W h hI
  obtain ⟨v4,hE,s⟩:=hI
  refine CW.sub hE ?_
  unfold lp at h
  refine .seq (.g (.q z (.q z (.nil ?_))))
  refine .cs z h ?_ ?_ <;> intro h
  ·refine .skip (.seq (.block (.region (.q z (.q z (.q z (.q z (bv h λy6 hy6 h=>.c (.cO s func91 (rK hy6 (s.keep q_0) s.lv s.p1.lv) z z ?_)))))))))
   intro W s
   refine .c (.liv [y6] (D.int .i64) u23 t3 s z z z z ?_ z (λ_=>z))
   intro v7 W s
   refine bv h λr1 hr1 h=>?_
   have hT0:=s.p2
   refine .c (.av hr1 hT0 hT0.p1.lv (λ_=>z) u23 t3 z z z ?_)
   intro v8 W s
   refine .qn z (.region (.q z (.q z (.q z (.nil ?_)))))
   cases h
   exact ⟨z,v8,sb z,s.tk [2,0]⟩
  refine .exit ?_
  cases h
  exact ⟨by simp,z,v4,sb z,s.tk [0,0]⟩
 intro x E W hJ
 obtain ⟨rfl,v9,hE,s⟩:=hJ
 refine ⟨_,hE.sub,?_⟩
 obtain rfl:=o9 h
 exact .g (.q z (.qn z (.ret (aa v9 (rt z rn) z (s.tk [1])))))
theorem qw {a0:ab} {a1:List Int} {v_1:Hd} {w:World} {r:ab} (h:iL a0 a1=some r) (q_1:RO w v_1 3 1 (D.int .i64) a1):CL 59 #[.agg #[vi a0.Op,vi a0.Dst,vi a0.A,vi a0.B,vi a0.N],sv v_1] w (RU w (.agg #[vi r.Op,vi r.Dst,vi r.A,vi r.B,vi r.N])):=by
 unfold iL at h
 refine au func59 z z ?_
 have s:=Sep.start w
 refine .g (.c (.box s z z ?_))
 intro g1 W s
 refine .c (.alloc t62 s ?_)
 intro g2 W s
 refine .nil (bv h λy1 hy1 h=>?_)
 refine .seq (CW.via (R':=λx E' W'=>x=.normal/\ak E' [(1,(sv v_1)),(2,Pt g1),(4,Pt g2)]/\Sep No w W' [.box g2 62 [vi 0,vi 0,vi 0,vi 0,vi 0],.box g1 62 [vi y1.Op,vi y1.Dst,vi y1.A,vi y1.B,vi y1.N]]) ?_ ?_)
 ·have h:=hy1
  refine .g (.s (ld t62 s.p1 z z z z z) z (bv h λy2 hy2 h=>.c (.cO s func92 (gq hy2) z z ?_)))
  intro W s
  refine .q z (.nil ?_)
  refine .cs z h ?_ ?_ <;> intro h
  ·refine .region (.q z (.s (fa f62_1 z z z) z (.s (ld t3 s.p1 z z z z z) z (bv h λx1 hx1 h=>.s (ixv (s.keep q_1) hx1 u23 t3 z z z) z (.s (lde (RV.flat (s.keep q_1) hx1 z) t3 z z z z z) z (.s (fa f62_1 z z z) z (.c (.st t3 s.p1 z z z ?_))))))))
   intro W s
   refine .nil ?_
   cases h
   exact ⟨z,sb z,s.tk [1,0]⟩
  refine .skip ?_
  obtain rfl:=o9 h
  exact ⟨z,sb z,s.tk [0,0]⟩
 intro x E W hJ
 obtain ⟨rfl,hE,s⟩:=hJ
 refine ⟨_,hE.sub,?_⟩
 refine .seq (.g (.s (fa f62_0 z z z) z (.s (ld t3 s.p1 z z z z z) z (.nil (.block (bv h λy3 hy3 h=>?_))))))
 refine .seq (CW.via (R':=λx E' W'=>x=.normal/\ak E' [(1,(sv v_1)),(2,Pt g1),(4,Pt g2),(15,vi y1.Op),(16,.bool y3)]/\Sep No w W' [.box g2 62 [vi 0,vi 0,vi 0,vi 0,vi 0],.box g1 62 [vi y1.Op,vi y1.Dst,vi y1.A,vi y1.B,vi y1.N]]) ?_ ?_)
 ·have h:=hy3
  refine .g (.q z (.q z (.nil ?_)))
  refine .cs z h ?_ ?_ <;> intro h
  ·refine .skip ?_
   cases h
   exact ⟨z,sb z,s.tk [0,0]⟩
  refine .g (.q z (.q z (.nil ?_)))
  refine .cs z h ?_ ?_ <;> intro h
  ·refine .skip ?_
   cases h
   exact ⟨z,sb z,s.tk [0,0]⟩
  refine .g (.q z (.q z (.nil ?_)))
  refine .cs z h ?_ ?_ <;> intro h
  ·refine .skip ?_
   cases h
   exact ⟨z,sb z,s.tk [0,0]⟩
  refine .region (.q z (.q z (.nil ?_)))
  cases h
  exact ⟨z,sb z,s.tk [0,0]⟩
 intro x E W hJ
 obtain ⟨rfl,hE,s⟩:=hJ
 refine ⟨_,hE.sub,?_⟩
 refine .cs z h ?_ ?_ <;> intro h
 ·refine .region (.q z (.s (fa f62_2 z z z) z (.s (ld t3 s.p1 z z z z z) z (bv h λx2 hx2 h=>.s (ixv (s.keep q_1) hx2 u23 t3 z z z) z (.s (lde (RV.flat (s.keep q_1) hx2 z) t3 z z z z z) z (.s (fa f62_2 z z z) z (.c (.st t3 s.p1 z z z ?_))))))))
  intro W s
  refine .nil (.g (.s (ld t62 s z z z z z) z (.c (.st t62 s.p1 z z z ?_))))
  intro W s
  cases h
  exact .nil (.ret (aa () (rc s t62 z rn z z) z (s.to [])))
 refine .g (.q z (.q z (.nil ?_)))
 refine .cs z h ?_ ?_ <;> intro h
 ·refine .g (.q z (.s (fa f62_2 z z z) z (.s (ld t3 s.p1 z z z z z) z (bv h λx3 hx3 h=>.s (ixv (s.keep q_1) hx3 u23 t3 z z z) z (.s (lde (RV.flat (s.keep q_1) hx3 z) t3 z z z z z) z (.s (fa f62_2 z z z) z (.c (.st t3 s.p1 z z z ?_))))))))
  intro W s
  refine .nil (.region (.q z (.s (fa f62_3 z z z) z (.s (ld t3 s z z z z z) z (bv h λx4 hx4 h=>.s (ixv (s.keep q_1) hx4 u23 t3 z z z) z (.s (lde (RV.flat (s.keep q_1) hx4 z) t3 z z z z z) z (.s (fa f62_3 z z z) z (.c (.st t3 s z z z ?_)))))))))
  intro W s
  refine .nil (.g (.s (ld t62 s z z z z z) z (.c (.st t62 s.p1 z z z ?_))))
  intro W s
  cases h
  exact .nil (.ret (aa () (rc s t62 z rn z z) z (s.to [])))
 refine .skip (.g (.s (ld t62 s.p1 z z z z z) z (.c (.st t62 s z z z ?_))))
 intro W s
 obtain rfl:=o9 h
 exact .nil (.ret (aa () (rc s t62 z rn z z) z (s.to [])))
theorem qx {a0:List ab} {v_0:Hd} {w:World} {r:(List ab)×Bool} (h:ga a0=some r) (q_0:RO w v_0 62 5 ah a0):CL 28 #[sv v_0] w (Ret No w (λs:Hd=>.tuple #[sv s,.bool r.2]) (λs=>[ac (sv s) 62 5 ah r.1])):=by
 unfold ga at h
 refine au func28 z z ?_
 have s:=Sep.start w
 refine .g (.q z (.qn z (.g (.c (.liv [] ah u33 t62 s z z z z ?_ z (λ_=>z))))))
 intro v1 W s
 refine .qn z (.seq (.g (.q z (bv h λy1 hy1 h=>.c (.cO s func57 (bn hy1 (s.keep q_0)) z z ?_)))))
 intro W s
 refine .q z (.nil ?_)
 refine .cs z h ?_ ?_ <;> intro h
 ·cases h
  exact .g (.q z (.q z (.qn z (.ret (aa (vs:=[_,_]) v1 (rt z (rt z rn)) z (s.tk [0]))))))
 refine .skip (.g (.q z (bv h λy2 hy2 h=>.c (.cV s func58 (rL hy2 (s.keep q_0)) z z ?_))))
 intro v2 W s
 refine .qn z (.seq (.g (.qn z (.block (bv h λy3 hy3 h=>?_)))))
 refine .via (.iter (λs1 E' W'=>∃ (v5:Hd),ak E' [(0,(sv v_0)),(4,(sv v5)),(5,(sv v2)),(6,vi s1.2)]/\Sep No w W' [ac (sv v2) 3 1 (D.int .i64) y2,ac (sv v5) 62 5 ah s1.1]) (λy4 x E' W'=>x=.exit 0/\∃ (v6:Hd),ak E' [(4,(sv v6))]/\Sep No w W' [ac (sv v2) 3 1 (D.int .i64) y2,ac (sv v6) 62 5 ah y4]) hy3 ⟨v1,sb z,s.tk [0,0]⟩ ?_) ?_
 ·intro s1 y5 E W h hI
  obtain ⟨v4,hE,s⟩:=hI
  refine CW.sub hE ?_
  unfold fv at h
  refine .seq (.g (.q z (.q z (.s (aE (s.keep q_0) u33 z z) z (.q z (.nil ?_))))))
  refine .cs z h ?_ ?_ <;> intro h
  ·refine .skip (.seq (.block (.region (.q z (.q z (.q z (bv h λx1 hx1 h=>.s (ixv (s.keep q_0) hx1 u33 t62 z z z) z (.s (lde (RV.flat (s.keep q_0) hx1 z) t62 z z z z z) z (.q z (bv h λy6 hy6 h=>.c (.cO s func59 (qw hy6 s.lv) z z ?_)))))))))))
   intro W s
   refine .c (.liv [y6] ah u33 t62 s z z z z ?_ z (λ_=>z))
   intro v7 W s
   refine bv h λr1 hr1 h=>?_
   have hT0:=s.p2
   refine .c (.av hr1 hT0 hT0.p1.lv (λ_=>z) u33 t62 z z z ?_)
   intro v8 W s
   refine .qn z (.region (.q z (.q z (.q z (.nil ?_)))))
   cases h
   exact ⟨z,v8,sb z,s.tk [2,0]⟩
  refine .exit ?_
  cases h
  exact ⟨by simp,z,v4,sb z,s.tk [0,0]⟩
 intro x E W hJ
 obtain ⟨rfl,v9,hE,s⟩:=hJ
 refine ⟨_,hE.sub,?_⟩
 cases h
 exact .g (.q z (.q z (.qn z (.ret (aa (vs:=[_,_]) v9 (rt z (rt z rn)) z (s.tk [1]))))))
theorem pO {k:Nat} {a0:aA} {a1:Int} {ba:Hd} {a6:Hd} {w:World} {r:(List (List ab))×Bool} (h:eV k a0 a1=some r) (eg:RO w ba 3 1 (D.int .i64) a0.Rooms) (aH:RO w a6 36 1 (λ(l:List ae)=>D.row 80 8 (l.map aj)) a0.Tasks):CL 7 #[.agg #[sv ba,sv a6],vi a1] w (Ret No w (λs:Hd=>.tuple #[sv s,.bool r.2]) (λs=>[ac (sv s) 33 1 (λ(l:List ab)=>D.row 62 5 (l.map ah)) r.1])):=by
 unfold eV at h
 refine au func7 z z ?_
 have s:=Sep.start w
 refine .g (.c (.box s z z ?_))
 intro g1 W s
 refine .q z (.qn z (.g (.s (ld t26 s z z z z z) z (bv h λy1 hy1 h=>.c (.cV s func26 (nj hy1 (s.keep eg) (s.keep aH)) z z ?_)))))
 intro v1 W s
 refine .q z (.q z (.q z (.q z (.qn z (.seq (.g (.q z (.q z (.nil ?_)))))))))
 refine .cs z h ?_ ?_ <;> intro h
 ·refine .g (.c (.lg (L1:=[]) [] (λ(l:List ab)=>D.row 62 5 (l.map ah)) u29 t33 (s.to [0,0]) z z z (.nil) ?_ z (λ_=>z)))
  intro v2 W s
  cases h
  exact .q z (.qn z (.ret (aa (vs:=[_,_]) v2 (rt z (rt z rn)) z (s.tk [0]))))
 refine .skip (.g (.q z (.q z (bv h λy2 hy2 h=>.c (.cV s func27 (oS hy2 s.lv) z z ?_)))))
 intro v3 W s
 refine .q z (.q z (.q z (.q z (.qn z (.seq (.g (.q z (.q z (.nil ?_)))))))))
 refine .cs z h ?_ ?_ <;> intro h
 ·refine .g (.c (.lg (L1:=[]) [] (λ(l:List ab)=>D.row 62 5 (l.map ah)) u29 t33 (s.to [0,0,0]) z z z (.nil) ?_ z (λ_=>z)))
  intro v4 W s
  cases h
  exact .q z (.qn z (.ret (aa (vs:=[_,_]) v4 (rt z (rt z rn)) z (s.tk [0]))))
 refine .skip (.g (.c (.lg (L1:=[]) [] (λ(l:List ab)=>D.row 62 5 (l.map ah)) u29 t33 (s.to [0,0,0]) z z z (.nil) ?_ z (λ_=>z))))
 intro v5 W s
 refine .qn z (.seq (.g (.qn z (.block (bv h λy3 hy3 h=>?_)))))
 refine .via (.iter (λs1 E' W'=>∃ (v8:Hd),ak E' [(8,(sv v3)),(10,(sv v8)),(11,vi s1.2)]/\Sep No w W' [ac (sv v3) 33 1 (λ(l:List ab)=>D.row 62 5 (l.map ah)) y2.1,ac (sv v1) 33 1 (λ(l:List ab)=>D.row 62 5 (l.map ah)) y1.1,.box g1 26 [sv ba,sv a6],ac (sv v8) 33 1 (λ(l:List ab)=>D.row 62 5 (l.map ah)) s1.1]) (λy4 x E' W'=>x=.exit 0/\∃ (v9:Hd),ak E' [(10,(sv v9))]/\Sep No w W' [ac (sv v3) 33 1 (λ(l:List ab)=>D.row 62 5 (l.map ah)) y2.1,ac (sv v1) 33 1 (λ(l:List ab)=>D.row 62 5 (l.map ah)) y1.1,.box g1 26 [sv ba,sv a6],ac (sv v9) 33 1 (λ(l:List ab)=>D.row 62 5 (l.map ah)) y4]) hy3 ⟨v5,sb z,s.tk [1,1,1,0]⟩ ?_) ?_
 ·intro s1 y5 E W h hI
  obtain ⟨v7,hE,s⟩:=hI
  refine CW.sub hE ?_
  unfold gG at h
  refine .seq (.g (.q z (.q z (.s (aE s.lv u29 z z) z (.q z (.nil ?_))))))
  refine .cs z h ?_ ?_ <;> intro h
  ·refine .skip (.seq (.block (.g (.q z (.q z (bv h λx1 hx1 h=>.s (ixv s.lv hx1 u29 t33 z z z) z ?_))))))
   obtain ⟨k1,s⟩:=Sep.ov s hx1
   obtain ⟨v10,k1,rfl,s⟩:=s.ow
   obtain ⟨rfl,s⟩:=s.oN
   refine .s (lde (s.p1.hcellsv) t33 z z z z z) z (bv h λy6 hy6 h=>.c (.cV s func28 (qx hy6 s.lv) z z ?_))
   intro v11 W s
   refine .q z (.q z (.q z (.q z (.qn z (.region (.q z (.q z (.c (.lg (L1:=[ac (sv v11) 62 5 ah y6.1]) [y6.1] (λ(l:List ab)=>D.row 62 5 (l.map ah)) u29 t33 (s.to [0,0,0,0,0,0]) z z z (.row (.nil)) ?_ z (λ_=>z))))))))))
   intro v12 W s
   refine bv h λr1 hr1 h=>.c (.appv hr1 (s.to [5,0,0,0,0,0]) u29 t33 z z z ?_)
   intro v13 W s
   refine .qn z (.region (.q z (.q z (.q z (.nil ?_)))))
   have s:=Sep.gat (ds:=[.row 62 5 (x1.map ah)]) (cs:=[sv v10]) (L1:=[ac (sv v10) 62 5 ah x1]) (.row (.nil)) (s.to [1,1,0,0,0])
   have s:Sep _ _ _ [ac (sv v3) 33 1 (λ(l:List ab)=>D.row 62 5 (l.map ah)) y2.1,ac (sv v13) 33 1 (λ(l:List ab)=>D.row 62 5 (l.map ah)) r1,ac (sv v1) 33 1 (λ(l:List ab)=>D.row 62 5 (l.map ah)) y1.1,.box g1 26 [sv ba,sv a6]]:=Sep.back0v hx1 s
   cases h
   exact ⟨z,v13,sb z,s.tk [0,1,1,0]⟩
  refine .exit ?_
  cases h
  exact ⟨by simp,z,v7,sb z,s.tk [0,0,0,0]⟩
 intro x E W hJ
 obtain ⟨rfl,v14,hE,s⟩:=hJ
 refine ⟨_,hE.sub,?_⟩
 cases h
 exact .g (.q z (.q z (.qn z (.ret (aa (vs:=[_,_]) v14 (rt z (rt z rn)) z (s.tk [3]))))))
def sC (w:World) (r:Bool):Env->World->Prop:=Fin Tryz.prog Tryz.f12 No w (λs:Unit=>.bool r) (λs=>[]) .ret
theorem m6 {a0:List ab} {a1:List ab} {v_0:Hd} {v_1:Hd} {w:World} {r:Bool} (h:gX a0 a1=some r) (q_0:RO w v_0 62 5 ah a0) (q_1:RO w v_1 62 5 ah a1):CL 12 #[sv v_0,sv v_1] w (RU w (.bool r)):=by
 unfold gX at h
 refine au func12 z z ?_
 have s:=Sep.start w
 refine .g (.qn z (.seq (.g (.q z (.s (aE (s.keep q_0) u33 z z) z (.q z (.s (aE (s.keep q_1) u33 z z) z (.q z (.nil ?_)))))))))
 refine .cs z h ?_ ?_ <;> intro h
 ·obtain rfl:=o9 h
  exact .g (.qn z (.ret (aa () (rt z rn) z (s.to []))))
 refine .skip (.seq (.g (.qn z (.block (bv h λy1 hy1 h=>?_)))))
 refine .via (.iter (λs1 E' W'=>ak E' [(0,(sv v_0)),(1,(sv v_1)),(5,vi s1)]/\Sep No w W' []) (λy2 x E' W'=>(match y2 with | .inl o1=>x=.ret/\sC w o1 E' W' | .inr o2=>x=.exit 0/\ak E' []/\Sep No w W' [])) hy1 ⟨sb rfl,s.to [] rfl⟩ ?_) ?_
 ·intro s1 y3 E W h hI
  obtain ⟨hE,s⟩:=hI
  refine CW.sub hE ?_
  unfold jf at h
  refine .seq (.g (.q z (.q z (.s (aE (s.keep q_0) u33 z z) z (.q z (.nil ?_))))))
  refine .cs z h ?_ ?_ <;> intro h
  ·refine .skip (.seq (.block (.seq (.rk 9 s [] T.mix ?_))))
   intro W s
   have t:=s.to []
   refine .tp' 0 z z t (.tp' 1 z z t (bv h λx1 hx1 h=>.ts' 2 z (λW t=>ixv (s.keep q_0) hx1 u33 t62 z z z) t z (.ts' 3 z (λW t=>lde (RV.flat (t.keep q_0) hx1 z) t62 z z z z z) t z (.tp' 4 z z t (.tp' 5 z z t (bv h λx2 hx2 h=>.ts' 6 z (λW t=>ixv (s.keep q_1) hx2 u33 t62 z z z) t z (.ts' 7 z (λW t=>lde (RV.flat (t.keep q_1) hx2 z) t62 z z z z z) t z (.ts' 8 z (λW t=>nes T.e62 z z z z) t z (.done ?_)))))))))
   refine .cs z h ?_ ?_ <;> intro h
   ·refine .g (.qn z (.ret ?_))
    cases h
    exact ⟨by simp,z,aa (vs:=[_]) () (rt z rn) z (s.to [])⟩
   refine .skip (.region (.q z (.q z (.q z (.nil ?_)))))
   cases h
   exact ⟨z,sb z,s.to []⟩
  refine .exit ?_
  cases h
  exact ⟨by simp,z,sb z,s.to []⟩
 intro x E W hJ
 rcases y1 with o3 | o4
 ·have h:=dl h
  obtain ⟨rfl,hF⟩:=hJ
  refine ⟨_,λ_ _ h=>h,?_⟩
  cases h
  exact hF
 have h:=dm h
 obtain ⟨rfl,hE,s⟩:=hJ
 refine ⟨_,hE.sub,?_⟩
 obtain rfl:=o9 h
 exact .g (.qn z (.ret (aa () (rt z rn) z (s.to []))))
def rM (w:World) (r:Bool):Env->World->Prop:=Fin Tryz.prog Tryz.f8 No w (λs:Unit=>.bool r) (λs=>[]) .ret
theorem mH {a0:List (List ab)} {a1:List (List ab)} {v_0:Hd} {v_1:Hd} {w:World} {r:Bool} (h:dv a0 a1=some r) (q_0:RO w v_0 33 1 (λ(l:List ab)=>D.row 62 5 (l.map ah)) a0) (q_1:RO w v_1 33 1 (λ(l:List ab)=>D.row 62 5 (l.map ah)) a1):CL 8 #[sv v_0,sv v_1] w (RU w (.bool r)):=by
 unfold dv at h
 refine au func8 z z ?_
 have s:=Sep.start w
 refine .g (.qn z (.seq (.g (.q z (.s (aE (s.keep q_0) u29 z z) z (.q z (.s (aE (s.keep q_1) u29 z z) z (.q z (.nil ?_)))))))))
 refine .cs z h ?_ ?_ <;> intro h
 ·obtain rfl:=o9 h
  exact .g (.qn z (.ret (aa () (rt z rn) z (s.to []))))
 refine .skip (.seq (.g (.qn z (.block (bv h λy1 hy1 h=>?_)))))
 refine .via (.iter (λs1 E' W'=>ak E' [(0,(sv v_0)),(1,(sv v_1)),(5,vi s1)]/\Sep No w W' []) (λy2 x E' W'=>(match y2 with | .inl o1=>x=.ret/\rM w o1 E' W' | .inr o2=>x=.exit 0/\ak E' []/\Sep No w W' [])) hy1 ⟨sb rfl,s.to [] rfl⟩ ?_) ?_
 ·intro s1 y3 E W h hI
  obtain ⟨hE,s⟩:=hI
  refine CW.sub hE ?_
  unfold ib at h
  refine .seq (.g (.q z (.q z (.s (aE (s.keep q_0) u29 z z) z (.q z (.nil ?_))))))
  refine .cs z h ?_ ?_ <;> intro h
  ·refine .skip (.seq (.block (.seq (.rk 10 s [] T.mix ?_))))
   intro W s
   have t:=s.to []
   refine .tp' 0 z z t (.tp' 1 z z t (bv h λx1 hx1 h=>?_))
   obtain ⟨k1,hd,hck1⟩:=RV.el2 q_0 hx1
   obtain ⟨v1,k1,rfl,q1,hd1⟩:=cw q_0 hd
   obtain rfl:=kT q_0 hd1
   refine .ts' 2 z (λW t=>ixv (s.keep q_0) hx1 u29 t33 z z z) t z (.ts' 3 z (λW t=>lde (hck1 _ t.agree) t33 z z z z z) t z (.tp' 4 z z t (.tp' 5 z z t (bv h λx2 hx2 h=>?_))))
   obtain ⟨k2,hd,hck2⟩:=RV.el2 q_1 hx2
   obtain ⟨v2,k2,rfl,q2,hd1⟩:=cw q_1 hd
   obtain rfl:=kT q_1 hd1
   refine .ts' 6 z (λW t=>ixv (s.keep q_1) hx2 u29 t33 z z z) t z (.ts' 7 z (λW t=>lde (hck2 _ t.agree) t33 z z z z z) t z (bv h λy4 hy4 h=>.by1 8 z (.cO s func12 (m6 hy4 (s.keep (q1 _ q_0)) (s.keep (q2 _ q_1))) z z ?_)))
   intro W s
   refine s.an [] λt=>.tp' 9 z z t (.done ?_)
   refine .cs z h ?_ ?_ <;> intro h
   ·refine .g (.qn z (.ret ?_))
    cases h
    exact ⟨by simp,z,aa (vs:=[_]) () (rt z rn) z (s.to [])⟩
   refine .skip (.region (.q z (.q z (.q z (.nil ?_)))))
   cases h
   exact ⟨z,sb z,s.to []⟩
  refine .exit ?_
  cases h
  exact ⟨by simp,z,sb z,s.to []⟩
 intro x E W hJ
 rcases y1 with o3 | o4
 ·have h:=dl h
  obtain ⟨rfl,hF⟩:=hJ
  refine ⟨_,λ_ _ h=>h,?_⟩
  cases h
  exact hF
 have h:=dm h
 obtain ⟨rfl,hE,s⟩:=hJ
 refine ⟨_,hE.sub,?_⟩
 obtain rfl:=o9 h
 exact .g (.qn z (.ret (aa () (rt z rn) z (s.to []))))
theorem mv {k:Nat} {a0:List ae} {v_0:Hd} {w:World} {r:Bool} (h:eW k a0=some r) (q_0:RO w v_0 80 8 aj a0):CL 29 #[sv v_0] w (RU w (.bool r)):=by
 unfold eW at h
 refine au func29 z z ?_
 have s:=Sep.start w
 refine .g (.qn z (.g (.q z (bv h λy1 hy1 h=>.c (.cO s func60 (ms hy1 (s.keep q_0)) z z ?_)))))
 intro W s
 obtain rfl:=o9 h
 exact .qn z (.ret (aa () (rt z rn) z (s.to [])))
theorem oT {k:Nat} {a0:List ae} {v_0:Hd} {w:World} {r:(List ab)×Bool} (h:gb k a0=some r) (q_0:RO w v_0 80 8 aj a0):CL 9 #[sv v_0] w (Ret No w (λs:Hd=>.tuple #[sv s,.bool r.2]) (λs=>[ac (sv s) 62 5 ah r.1])):=by
 unfold gb at h
 refine au func9 z z ?_
 have s:=Sep.start w
 refine .g (.q z (.qn z (.seq (.g (.q z (bv h λy1 hy1 h=>.c (.cO s func29 (mv hy1 (s.keep q_0)) z z ?_)))))))
 intro W s
 refine .q z (.nil ?_)
 refine .cs z h ?_ ?_ <;> intro h
 ·refine .g (.q z (.qn z (.ret ?_)))
  have s:=s.nilv 62 5 ah
  cases h
  exact aa (vs:=[_,_]) aF (rt z (rt z rn)) z (s.tk [0])
 refine .skip (.g (.q z (bv h λy2 hy2 h=>.c (.cV s func30 (jp hy2 (s.keep q_0)) z z ?_))))
 intro v1 W s
 cases h
 exact .q z (.qn z (.ret (aa (vs:=[_,_]) v1 (rt z (rt z rn)) z (s.tk [0]))))
theorem oU {k:Nat} {a0:List ae} {v_0:Hd} {w:World} {r:Int} (h:gc k a0=some r) (q_0:RO w v_0 80 8 aj a0):CL 13 #[sv v_0] w (RU w (.int .i64 r)):=by
 unfold gc at h
 refine au func13 z z ?_
 have s:=Sep.start w
 refine .g (.qn z (.seq (.g (.q z (bv h λy1 hy1 h=>.c (.cO s func29 (mv hy1 (s.keep q_0)) z z ?_))))))
 intro W s
 refine .q z (.nil ?_)
 refine .cs z h ?_ ?_ <;> intro h
 ·cases h
  exact .g (.qn z (.ret (aa () (rt z rn) z (s.to []))))
 refine .skip (.g (.q z (bv h λy2 hy2 h=>.c (.cV s func30 (jp hy2 (s.keep q_0)) z z ?_))))
 intro v1 W s
 cases h
 exact .s (aE s.lv u33 z z) z (.qn z (.ret (aa () (rt z rn) z (s.to []))))
def oV (w:World) (r:Bool):Env->World->Prop:=Fin Tryz.prog Tryz.f3 No w (λs:Unit=>.bool r) (λs=>[]) .ret
theorem oe {k:Nat} {a0:List Int} {v_0:Hd} {w:World} {r:Bool} (h:ic k a0=some r) (q_0:RO w v_0 5 1 (D.int .u8) a0):CL 3 #[sv v_0] w (RU w (.bool r)):=by
 unfold ic at h
 refine au func3 z z ?_
 have s:=Sep.start w
 refine .g (.qn z (.seq (.g (.q z (.s (aE (s.keep q_0) u22 z z) z (.q z (.nil ?_)))))))
 refine .cs z h ?_ ?_ <;> intro h
 ·obtain rfl:=o9 h
  exact .g (.qn z (.ret (aa () (rt z rn) z (s.to []))))
 refine .skip (.g (.q z (bv h λy1 hy1 h=>.c (.call s func5 (ng hy1 (s.keep q_0)) z z ?_))))
 rintro ⟨v1,v2⟩ W s
 refine .q z (.q z (.q z (.c (.alloc t26 s ?_))))
 intro g1 W s
 refine .c (.st t26 s z z z ?_)
 intro W s
 refine .qn z (.g (.s (ld t26 s z z z z z) z (.q z (bv h λy2 hy2 h=>.c (.cV s func6 (pM hy2 s.p1.lv (s.p2.lendz 0 z)) z z ?_)))))
 intro v3 W s
 refine .q z (.q z (.q z (.q z (.qn z (.g (.s (ld t26 s.p1 z z z z z) z (.q z (bv h λy3 hy3 h=>.c (.cV s func7 (pO hy3 s.p2.lv (s.p3.lendz 0 z)) z z ?_)))))))))
 intro v4 W s
 refine .q z (.q z (.q z (.q z (.qn z (.seq (.g (.q z (.q z (.s (neb u4 z z z) z (.q z (bv h λb1 hb1 h=>.cu 5 44 (b1) s ?_ ?_)))))))))))
 ·refine .both (y2.2 !=y3.2) (λb=>?_) (λb=>?_)
  ·refine .xx b z (.xx b z (.xx b z (.xx b z ?_)))
   cases aJ b hb1
   exact .s (pkt b z z z) z (.nil (ck 5 s))
  have hg1:=b
  have h:=aK b hb1
  refine .g hg1 (.q z (.g hg1 (.q z (bv h λy4 hy4 h=>.g hg1 (.c (.cO s func8 (mH hy4 s.p1.lv s.lv) z z ?_))))))
  intro W s
  refine .g hg1 (.q z (.s (pkf hg1 z z z) z ?_))
  cases h
  exact .nil (ck 5 s)
 intro W s
 refine .q z (.cu 3 48 (b1||(!y2.2)) s ?_ ?_)
 ·refine .both (b1) (λb=>?_) (λb=>?_)
  ·exact .xx b z (.xx b z (.s (pkt b z z z) z (.nil (ck 3 s z (jr b)))))
  have hg2:=b
  exact .g hg2 (.q z (.g hg2 (.q z (.s (pkf hg2 z z z) z (.nil (ck 3 s z (iR hg2)))))))
 intro W s
 refine .nil ?_
 refine .cs z h ?_ ?_ <;> intro h
 ·refine .g (.q z (.q z (.s (eqb u4 z z z) z (.q z (bv h λb2 hb2 h=>.cu 4 56 (b2) s ?_ ?_)))))
  ·refine .both (y2.2==y3.2) (λb=>?_) (λb=>?_)
   ·have hg3:=b
    have h:=aJ b hb2
    refine .g hg3 (.q z (.g hg3 (.q z (bv h λy5 hy5 h=>.g hg3 (.c (.cO s func8 (mH hy5 s.p1.lv s.lv) z z ?_))))))
    intro W s
    refine .s (pkt hg3 z z z) z ?_
    cases h
    exact .nil (ck 4 s)
   refine .xx b z (.xx b z (.xx b z ?_))
   cases aK b hb2
   exact .s (pkf b z z z) z (.nil (ck 4 s))
  intro W s
  obtain rfl:=o9 h
  exact .qn z (.ret (aa () (rt z rn) z (s.to [])))
 refine .skip (.seq (.g (.qn z (.block (bv h λy6 hy6 h=>?_)))))
 refine .via (.iter (λs1 E' W'=>ak E' [(3,Pt g1),(4,vi y1.2),(5,(sv v3)),(9,vi s1)]/\Sep No w W' [ac (sv v4) 33 1 (λ(l:List ab)=>D.row 62 5 (l.map ah)) y3.1,ac (sv v3) 33 1 (λ(l:List ab)=>D.row 62 5 (l.map ah)) y2.1,.box g1 26 [sv v1,sv v2],ac (sv v1) 3 1 (D.int .i64) y1.1.Rooms,lC [((sv v2),36,1,List.map (λ(l:List ae)=>D.row 80 8 (l.map aj)) y1.1.Tasks)] []]) (λy7 x E' W'=>(match y7 with | .inl o1=>x=.ret/\oV w o1 E' W' | .inr o2=>x=.exit 0/\ak E' [(3,Pt g1),(5,(sv v3))]/\Sep No w W' [ac (sv v4) 33 1 (λ(l:List ab)=>D.row 62 5 (l.map ah)) y3.1,ac (sv v3) 33 1 (λ(l:List ab)=>D.row 62 5 (l.map ah)) y2.1,.box g1 26 [sv v1,sv v2],ac (sv v1) 3 1 (D.int .i64) y1.1.Rooms,lC [((sv v2),36,1,List.map (λ(l:List ae)=>D.row 80 8 (l.map aj)) y1.1.Tasks)] []])) hy6 ⟨sb rfl,s.tk [0,0,0,0,0]⟩ ?_) ?_
 ·intro s1 y8 E W h hI
  obtain ⟨hE,s⟩:=hI
  refine CW.sub hE ?_
  unfold fw at h
  refine .seq (.g (.q z (.s (fa f26_1 z z z) z (.s (ld t24 s.p2 z z z z z) z (.s (aE (s.p4.lendz 0 z) u24 z z) z (.q z (.nil ?_)))))))
  refine .cs z h ?_ ?_ <;> intro h
  ·refine .skip (.seq (.block (.g (.s (fa f26_1 z z z) z (.s (ld t24 s.p2 z z z z z) z (.q z (bv h λx1 hx1 h=>.s (ixv (s.p4.lendz 0 z) hx1 u24 t36 z z z) z ?_)))))))
   obtain ⟨v5,s⟩:=Sep.opz s.p4 hx1 z
   refine .s (lde (s.cellz 0 z) t36 z z z z z) z (bv h λy9 hy9 h=>.c (.cV s func9 (oT hy9 (s.lendz 1 z)) z z ?_))
   intro v6 W s
   refine .q z (.q z (.q z (.q z (.qn z (.g (.q z (.q z (bv h λy10 hy10 h=>.c (.cV s func10 (lN hy10 s.lv) z z ?_)))))))))
   intro v7 W s
   refine .q z (.q z (.q z (.q z (.qn z (.g (.q z (bv h λy11 hy11 h=>.c (.cV s func11 (mC hy11 s.lv) z z ?_))))))))
   intro v8 W s
   refine .q z (.q z (.q z (.q z (.qn z (.g (.q z (.q z (.q z ?_))))))))
   have s:Sep _ _ _ [lC [((sv v2),36,1,List.map (λ(l:List ae)=>D.row 80 8 (l.map aj)) y1.1.Tasks)] [],ac (sv v8) 62 5 ah y11.1,ac (sv v7) 62 5 ah y10.1,ac (sv v6) 62 5 ah y9.1,ac (sv v4) 33 1 (λ(l:List ab)=>D.row 62 5 (l.map ah)) y3.1,ac (sv v3) 33 1 (λ(l:List ab)=>D.row 62 5 (l.map ah)) y2.1,.box g1 26 [sv v1,sv v2],ac (sv v1) 3 1 (D.int .i64) y1.1.Rooms]:=Sep.wkz s.p3
   refine .cu 3 89 ((!y9.2)||(!y10.2)) s ?_ ?_
   ·refine .both (!y9.2) (λb=>?_) (λb=>?_)
    ·exact .xx b z (.xx b z (.s (pkt b z z z) z (.nil (ck 3 s z (jr b)))))
    have hg4:=b
    exact .g hg4 (.q z (.g hg4 (.q z (.s (pkf hg4 z z z) z (.nil (ck 3 s z (iR hg4)))))))
   intro W s
   refine .q z (.cu 3 93 (((!y9.2)||(!y10.2))||(!y11.2)) s ?_ ?_)
   ·refine .both ((!y9.2)||(!y10.2)) (λb=>?_) (λb=>?_)
    ·exact .xx b z (.xx b z (.s (pkt b z z z) z (.nil (ck 3 s z (jr b)))))
    have hg5:=b
    exact .g hg5 (.q z (.g hg5 (.q z (.s (pkf hg5 z z z) z (.nil (ck 3 s z (iR hg5)))))))
   intro W s
   refine .q z (bv h λb3 hb3 h=>.cu 8 102 (b3) s ?_ ?_)
   ·refine .both (((!y9.2)||(!y10.2))||(!y11.2)) (λb=>?_) (λb=>?_)
    ·refine .xx b z (.xx b z (.xx b z (.xx b z (.xx b z (.xx b z (.xx b z ?_))))))
     cases aJ b hb3
     exact .s (pkt b z z z) z (.nil (ck 8 s))
    have hg6:=b
    have h:=aK b hb3
    refine .g hg6 (.q z (.g hg6 (.q z (.g hg6 (.q z (bv h λx2 hx2 h=>.g hg6 (.s (ixv s.p5.lv hx2 u29 t33 z z z) z ?_)))))))
    obtain ⟨k1,s⟩:=Sep.ov s.p5 hx2
    obtain ⟨v9,k1,rfl,s⟩:=s.ow
    obtain ⟨rfl,s⟩:=s.oN
    refine .g hg6 (.s (lde (s.p1.hcellsv) t33 z z z z z) z (bv h λy12 hy12 h=>.g hg6 (.c (.cO s func12 (m6 hy12 s.p3.lv s.lv) z z ?_))))
    intro W s
    refine .g hg6 (.q z (.s (pkf hg6 z z z) z ?_))
    have s:=Sep.gat (ds:=[.row 62 5 (x2.map ah)]) (cs:=[sv v9]) (L1:=[ac (sv v9) 62 5 ah x2]) (.row (.nil)) (s.to [0,0,0,0,0,0,0,0,0])
    have s:Sep _ _ _ [ac (sv v3) 33 1 (λ(l:List ab)=>D.row 62 5 (l.map ah)) y2.1,lC [((sv v2),36,1,List.map (λ(l:List ae)=>D.row 80 8 (l.map aj)) y1.1.Tasks)] [],ac (sv v8) 62 5 ah y11.1,ac (sv v7) 62 5 ah y10.1,ac (sv v6) 62 5 ah y9.1,ac (sv v4) 33 1 (λ(l:List ab)=>D.row 62 5 (l.map ah)) y3.1,.box g1 26 [sv v1,sv v2],ac (sv v1) 3 1 (D.int .i64) y1.1.Rooms]:=Sep.back0v hx2 s
    cases h
    exact .nil (ck 8 (s.to [1,1,1,1,1,0,0,0]))
   intro W s
   refine .q z (bv h λb4 hb4 h=>.cu 10 113 (b4) s ?_ ?_)
   ·refine .both (b3) (λb=>?_) (λb=>?_)
    ·refine .xx b z (.xx b z (.xx b z (.xx b z (.xx b z (.xx b z (.xx b z (.xx b z (.xx b z ?_))))))))
     cases aJ b hb4
     exact .s (pkt b z z z) z (.nil (ck 10 s))
    have hg7:=b
    have h:=aK b hb4
    refine .g hg7 (.q z (.g hg7 (.s (aE s.p1.lv u33 z z) z (.g hg7 (.s (fa f26_1 z z z) z (.g hg7 (.s (ld t24 s.p6 z z z z z) z (.g hg7 (.q z (bv h λx3 hx3 h=>.g hg7 (.s (ixv (s.lendz 0 z) hx3 u24 t36 z z z) z ?_)))))))))))
    obtain ⟨v10,s⟩:=Sep.opz s hx3 z
    refine .g hg7 (.s (lde (s.cellz 0 z) t36 z z z z z) z (bv h λy13 hy13 h=>.g hg7 (.c (.cO s func13 (oU hy13 (s.lendz 1 z)) z z ?_))))
    intro W s
    refine .g hg7 (.q z (.s (pkf hg7 z z z) z ?_))
    have s:Sep _ _ _ [lC [((sv v2),36,1,List.map (λ(l:List ae)=>D.row 80 8 (l.map aj)) y1.1.Tasks)] [],ac (sv v8) 62 5 ah y11.1,ac (sv v7) 62 5 ah y10.1,ac (sv v6) 62 5 ah y9.1,ac (sv v4) 33 1 (λ(l:List ab)=>D.row 62 5 (l.map ah)) y3.1,ac (sv v3) 33 1 (λ(l:List ab)=>D.row 62 5 (l.map ah)) y2.1,.box g1 26 [sv v1,sv v2],ac (sv v1) 3 1 (D.int .i64) y1.1.Rooms]:=Sep.wkz s
    cases h
    exact .nil (ck 10 s)
   intro W s
   refine .nil ?_
   refine .cs z h ?_ ?_ <;> intro h
   ·refine .g (.qn z (.ret ?_))
    cases h
    exact ⟨by simp,z,aa (vs:=[_]) () (rt z rn) z (s.to [])⟩
   refine .skip (.region (.q z (.q z (.q z (.nil ?_)))))
   cases h
   exact ⟨z,sb z,s.tk [4,4,4,4,0]⟩
  refine .exit ?_
  cases h
  exact ⟨by simp,z,sb z,s.tk [0,0,0,0,0]⟩
 intro x E W hJ
 rcases y6 with o3 | o4
 ·have h:=dl h
  obtain ⟨rfl,hF⟩:=hJ
  refine ⟨_,λ_ _ h=>h,?_⟩
  cases h
  exact hF
 have h:=dm h
 obtain ⟨rfl,hE,s⟩:=hJ
 refine ⟨_,hE.sub,?_⟩
 cases h
 exact .g (.q z (.s (aE s.p1.lv u29 z z) z (.s (fa f26_1 z z z) z (.s (ld t24 s.p2 z z z z z) z (.s (aE (s.p4.lendz 0 z) u24 z z) z (.q z (.qn z (.ret (aa () (rt z rn) z (s.to []))))))))))
end

end Go.Proofs.YtmjebmhcbnkojaaGreat.N
