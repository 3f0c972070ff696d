/- Printed by a program of mine: that the program's functions compute it. -/
import Derived.Test.YtfpngipcclmliaaGreatDoorK6
set_option linter.unusedVariables false
set_option linter.unusedSimpArgs false
set_option maxRecDepth 100000
set_option maxHeartbeats 4000000
namespace Go.Proofs.YtfpngipcclmliaaGreatDoor.N
open Go.Proofs.YtfpngipcclmliaaGreatDoor.X
open T Tryz
noncomputable section
theorem nH {a0:List ab} {a1:Int} {v_0:Hd} {w:World} {r:(List Instr)×Bool} (h:de a0 a1=some r) (q_0:RO w v_0 70 5 ae a0) (hG:Gl w):CL 11 #[sv v_0,vi a1] w (Ret No w (λs:Hd=>.tuple #[sv s,.bool r.2]) (λs=>[ac (sv s) 74 5 ai r.1])):=by
 unfold de at h
 refine ao func11 z z ?_
 have s:=Sep.start w
 refine .g (.q z (.qn z (.g (.q z (.q z (bv h λy1 hy1 h=>.c (.call s func37 (rI hy1 (s.keep q_0) (hG.at s (λ_ _ h=>h))) z z ?_)))))))
 rintro ⟨v1,q1⟩ W s
 refine .qn z (.seq (.g (.q z (.s (C4 u23 z z) z (.nil (.cond z (λb=>?_) (λb=>?_)))))))
 ·have h:=aC (q1.symm.trans b) h
  refine .g (.q z (.qn z (.ret ?_)))
  have s:=s.nilv 74 5 ai
  cases h
  exact aa (vs:=[_,_]) aF (rt z (rt z rn)) z (s.tk [0])
 have h:=aD (q1.symm.trans b) h
 refine .skip (.g (.qn z (.seq (.g (.q z (.s (aJ (s.keep q_0) u38 z z) z (.qn z (.block ?_))))))))
 have s:=s.nilv 74 5 ai
 refine bv h λy2 hy2 h=>?_
 refine .via (.iter (λs1 E' W'=>∃ (v4:Hd),al E' [(1,vi a1),(6,(sv v1)),(7,(sv v4)),(16,(sv v_0)),(17,vi (a0.length:Int)),(18,vi s1.2)]/\Sep No w W' [ac (sv v1) 3 1 (D.int .i64) y1,ac (sv v4) 74 5 ai s1.1]) (λy3 x E' W'=>x=.exit 0/\∃ (v5:Hd),al E' [(7,(sv v5))]/\Sep No w W' [ac (sv v1) 3 1 (D.int .i64) y1,ac (sv v5) 74 5 ai y3]) hy2 ⟨aF,sb z,s.tk [1,0]⟩ ?_) ?_
 ·intro s1 y4 E W h hI
  obtain ⟨v3,hE,s⟩:=hI
  refine CW.sub hE ?_
  unfold la at h
  refine .g (.qn z (.seq ?_))
  refine .cs z h ?_ ?_ <;> intro h
  ·refine .skip (.seq (.block (.g (.q z (bv h λx1 hx1 h=>.s (ixv (s.keep q_0) hx1 u38 t70 z z z) z (.s (lde (RV.flat (s.keep q_0) hx1 z) t70 z z z z z) z (.c (.alloc t70 s ?_))))))))
   intro g1 W s
   refine .q z (.c (.st t70 s z z z ?_))
   intro W s
   refine .nil (.g (.qn z (bv h λy5 hy5 h=>?_)))
   refine .seq (CW.via (R':=λx E' W'=>x=.normal/\al E' [(1,vi a1),(6,(sv v1)),(7,(sv v3)),(9,Pt g1),(10,vi y5),(16,(sv v_0)),(17,vi (a0.length:Int)),(18,vi s1.2)]/\Sep No w W' [.box g1 70 [vi x1.Op,vi x1.Dst,vi x1.A,vi x1.B,vi x1.N],ac (sv v1) 3 1 (D.int .i64) y1,ac (sv v3) 74 5 ai s1.1]) ?_ ?_)
   ·have h:=hy5
    refine .g (.s (ld t70 s z z z z z) z (bv h λy6 hy6 h=>.c (.cO s func38 (ja hy6) z z ?_)))
    intro W s
    refine .nil ?_
    refine .cs z h ?_ ?_ <;> intro h
    ·refine .rk 12 s [0,0,0] T.mix ?_
     intro W s
     have t:=s.to [0,0,0]
     refine .tp' 0 z z t (.ts' 1 z (λW t=>fa f70_4 z z z) t z (.ts' 2 z (λW t=>ld t3 t z z z z z) t z (bv h λx2 hx2 h=>.ts' 3 z (λW t=>ixv s.p1.lv hx2 u23 t3 z z z) t z (.ts' 4 z (λW t=>lde (RV.flat t.p1.lv hx2 z) t3 z z z z z) t z (.tp' 5 z z t (.tp' 6 z z t (bv h λx3 hx3 h=>.ts' 7 z (λW t=>ixv s.p1.lv hx3 u23 t3 z z z) t z (.ts' 8 z (λW t=>lde (RV.flat t.p1.lv hx3 z) t3 z z z z z) t z (.tp' 9 z z t (.tp' 10 z z t (.tp' 11 z z t (.done ?_))))))))))))
     cases h
     exact ⟨z,sb z,s.tk [0,0,0]⟩
    refine .skip ?_
    cases h
    exact ⟨z,sb z,s.tk [0,0,0]⟩
   intro x E W hJ
   obtain ⟨rfl,hE,s⟩:=hJ
   refine ⟨_,hE.sub,?_⟩
   refine .region (.q z (.s (ld t70 s z z z z z) z (.q z (.q z (bv h λy7 hy7 h=>.c (.cV s func39 (nG hy7 (hG.at s (λ_ _ h=>h))) z z ?_))))))
   intro v6 W s
   refine bv h λr1 hr1 h=>?_
   have hT0:=s.p3
   refine .c (.av hr1 hT0 hT0.p1.lv (λ_=>z) u35 t74 z z z ?_)
   intro v7 W s
   refine .qn z (.region (.q z (.q z (.nil ?_))))
   cases h
   exact ⟨z,v7,sb z,s.tk [3,0]⟩
  refine .exit ?_
  cases h
  exact ⟨by simp,z,v3,sb z,s.tk [0,0]⟩
 intro x E W hJ
 obtain ⟨rfl,v8,hE,s⟩:=hJ
 refine ⟨_,hE.sub,?_⟩
 cases h
 exact .g (.q z (.q z (.qn z (.ret (aa (vs:=[_,_]) v8 (rt z (rt z rn)) z (s.tk [1]))))))
def sB (w:World) (r:(List (List Instr))×Bool):Env->World->Prop:=Fin Tryz.prog Tryz.f8 No w (λs:Hd=>.tuple #[sv s,.bool r.2]) (λs=>[ac (sv s) 35 1 (λ(l:List Instr)=>D.row 74 5 (l.map ai)) r.1]) .ret
theorem rJ {k:Nat} {a0:aA} {a1:Int} {a2:Int} {aN:Hd} {aG:Hd} {w:World} {r:(List (List Instr))×Bool} (h:fC k a0 a1 a2=some r) (cL:RO w aN 3 1 (D.int .i64) a0.Rooms) (aI:RO w aG 93 1 (λ(l:List ah)=>D.row 95 8 (l.map ak)) a0.Tasks) (hG:Gl w):CL 8 #[.agg #[sv aN,sv aG],vi a1,vi a2] w (Ret No w (λs:Hd=>.tuple #[sv s,.bool r.2]) (λs=>[ac (sv s) 35 1 (λ(l:List Instr)=>D.row 74 5 (l.map ai)) r.1])):=by
 unfold fC at h
 refine ao func8 z z ?_
 have s:=Sep.start w
 refine .g (.c (.box s z z ?_))
 intro g1 W s
 refine .q z (.qn z (.g (.s (ld t26 s z z z z z) z (.q z (bv h λy1 hy1 h=>.c (.cV s func10 (nF hy1 (s.keep cL) (s.keep aI)) z z ?_))))))
 intro v1 W s
 refine .q z (.q z (.q z (.q z (.qn z (.seq (.g (.q z (.q z (.nil ?_)))))))))
 refine .cs z h ?_ ?_ <;> intro h
 ·refine .g (.q z (.qn z (.ret ?_)))
  have s:=s.nilv 35 1 (λ(l:List Instr)=>D.row 74 5 (l.map ai))
  cases h
  exact aa (vs:=[_,_]) aF (rt z (rt z rn)) z (s.tk [0])
 refine .skip (.g (.qn z (.seq (.g (.q z (.s (aJ s.lv u32 z z) z (.qn z (.block ?_))))))))
 have s:=s.nilv 35 1 (λ(l:List Instr)=>D.row 74 5 (l.map ai))
 refine bv h λy2 hy2 h=>?_
 refine .via (.iter (λs1 E' W'=>∃ (v4:Hd),al E' [(2,vi a2),(10,(sv v4)),(23,(sv v1)),(24,vi (y1.1.length:Int)),(25,vi s1.2)]/\Sep No w W' [ac (sv v1) 38 1 (λ(l:List ab)=>D.row 70 5 (l.map ae)) y1.1,.box g1 26 [sv aN,sv aG],ac (sv v4) 35 1 (λ(l:List Instr)=>D.row 74 5 (l.map ai)) s1.1]) (λy3 x E' W'=>(match y3 with | .inl o1=>x=.ret/\sB w o1 E' W' | .inr o2=>x=.exit 0/\∃ (v5:Hd),al E' [(10,(sv v5))]/\Sep No w W' [ac (sv v1) 38 1 (λ(l:List ab)=>D.row 70 5 (l.map ae)) y1.1,.box g1 26 [sv aN,sv aG],ac (sv v5) 35 1 (λ(l:List Instr)=>D.row 74 5 (l.map ai)) o2])) hy2 ⟨aF,sb rfl,s.tk [1,1,0]⟩ ?_) ?_
 ·intro s1 y4 E W h hI
  obtain ⟨v3,hE,s⟩:=hI
  refine CW.sub hE ?_
  unfold dm at h
  refine .g (.qn z (.seq ?_))
  refine .cs z h ?_ ?_ <;> intro h
  ·refine .skip (.seq (.block (.g (bv h λx1 hx1 h=>.s (ixv s.lv hx1 u32 t38 z z z) z ?_))))
   obtain ⟨k1,s⟩:=Sep.ov s hx1
   obtain ⟨v6,k1,rfl,s⟩:=s.ow
   obtain ⟨rfl,s⟩:=s.oN
   refine .s (lde (s.p1.hcellsv) t38 z z z z z) z (.qn z (.g (.q z (.q z (bv h λy5 hy5 h=>.c (.cV s func11 (nH hy5 s.lv (hG.at s (λ_ _ h=>h))) z z ?_))))))
   intro v7 W s
   refine .q z (.q z (.q z (.q z (.qn z (.seq (.g (.q z (.q z (.nil ?_)))))))))
   refine .cs z h ?_ ?_ <;> intro h
   ·refine .g (.q z (.qn z (.ret ?_)))
    have s:=s.nilv 35 1 (λ(l:List Instr)=>D.row 74 5 (l.map ai))
    cases h
    exact ⟨by simp,z,aa (vs:=[_,_]) aF (rt z (rt z rn)) z (s.tk [0])⟩
   refine .skip (.region (.q z (.q z (.c (.lg (L1:=[ac (sv v7) 74 5 ai y5.1]) [y5.1] (λ(l:List Instr)=>D.row 74 5 (l.map ai)) u29 t35 (s.to [0,0,0,0,0]) z z z (.row (.nil)) ?_ z (λ_=>z))))))
   intro v8 W s
   refine bv h λr1 hr1 h=>.c (.appv hr1 (s.to [4,0,0,0,0]) u29 t35 z z z ?_)
   intro v9 W s
   refine .qn z (.region (.q z (.q z (.nil ?_))))
   have s:=Sep.gat (ds:=[.row 70 5 (x1.map ae)]) (cs:=[sv v6]) (L1:=[ac (sv v6) 70 5 ae x1]) (.row (.nil)) (s.to [1,1,0,0])
   have s:Sep _ _ _ [ac (sv v1) 38 1 (λ(l:List ab)=>D.row 70 5 (l.map ae)) y1.1,ac (sv v9) 35 1 (λ(l:List Instr)=>D.row 74 5 (l.map ai)) r1,.box g1 26 [sv aN,sv aG]]:=Sep.back0v hx1 s
   cases h
   exact ⟨z,v9,sb z,s.tk [0,1,0]⟩
  refine .exit ?_
  cases h
  exact ⟨by simp,z,v3,sb z,s.tk [0,0,0]⟩
 intro x E W hJ
 rcases y2 with o3 | o4
 ·have h:=dG h
  obtain ⟨rfl,hF⟩:=hJ
  refine ⟨_,λ_ _ h=>h,?_⟩
  cases h
  exact hF
 have h:=dH h
 obtain ⟨rfl,v10,hE,s⟩:=hJ
 refine ⟨_,hE.sub,?_⟩
 cases h
 exact .g (.q z (.q z (.qn z (.ret (aa (vs:=[_,_]) v10 (rt z (rt z rn)) z (s.tk [2]))))))
theorem bk {a0:Int} {a1:Int} {a2:Int} {w:World} {r:Bool} (h:aY a0 a1 a2=some r):CL 32 #[vi a0,vi a1,vi a2] w (RU w (.bool r)):=by
 unfold aY at h
 refine ao func32 z z ?_
 have s:=Sep.start w
 refine .g (.qn z (.g (.q z (.q z (.q z (.q z (.cu 4 14 ((decide (a0>=a1))&&(decide (a0<=a2))) s ?_ ?_)))))))
 ·refine .both (decide (a0>=a1)) (λb=>?_) (λb=>?_)
  ·have hg1:=b
   exact .g hg1 (.q z (.g hg1 (.q z (.g hg1 (.q z (.s (pkt hg1 z z z) z (.nil (ck 4 s z (bp hg1)))))))))
  exact .xx b z (.xx b z (.xx b z (.s (pkf b z z z) z (.nil (ck 4 s z (bq b))))))
 intro W s
 cases h
 exact .qn z (.ret (aa () (rt z rn) z (s.to [])))
def uo (w:World) (r:Bool):Env->World->Prop:=Fin Tryz.prog Tryz.f86 No w (λs:Unit=>.bool r) (λs=>[]) .ret
theorem tx {a0:List Int} {v_0:Hd} {w:World} {r:Bool} (h:ky a0=some r) (q_0:RO w v_0 3 1 (D.int .i64) a0):CL 86 #[sv v_0] w (RU w (.bool r)):=by
 unfold ky at h
 refine ao func86 z z ?_
 have s:=Sep.start w
 refine .g (.qn z (.seq (.g (.qn z (.block (bv h λy1 hy1 h=>?_))))))
 refine .via (.iter (λs1 E' W'=>al E' [(0,(sv v_0)),(3,vi s1)]/\Sep No w W' []) (λy2 x E' W'=>(match y2 with | .inl o1=>x=.ret/\uo w o1 E' W' | .inr o2=>x=.exit 0/\al E' [(0,(sv v_0))]/\Sep No w W' [])) hy1 ⟨sb rfl,s.to [] rfl⟩ ?_) ?_
 ·intro s1 y3 E W h hI
  obtain ⟨hE,s⟩:=hI
  refine CW.sub hE ?_
  unfold jL at h
  refine .seq (.g (.q z (.q z (.s (aJ (s.keep q_0) u23 z z) z (.q z (.nil ?_))))))
  refine .cs z h ?_ ?_ <;> intro h
  ·refine .skip (.seq (.block (.g (.q z (.q z (bv h λx1 hx1 h=>.s (ixv (s.keep q_0) hx1 u23 t3 z z z) z (.s (lde (RV.flat (s.keep q_0) hx1 z) t3 z z z z z) z (bv h λy4 hy4 h=>.c (.cO s func32 (bk hy4) z z ?_)))))))))
   intro W s
   refine .q z (.nil ?_)
   refine .cs z h ?_ ?_ <;> intro h
   ·refine .g (.qn z (.ret ?_))
    cases h
    exact ⟨by simp,z,aa (vs:=[_]) () (rt z rn) z (s.to [])⟩
   refine .skip (.region (.q z (.q z (.q z (.nil ?_)))))
   cases h
   exact ⟨z,sb z,s.to []⟩
  refine .exit ?_
  cases h
  exact ⟨by simp,z,sb z,s.to []⟩
 intro x E W hJ
 rcases y1 with o3 | o4
 ·have h:=dG h
  obtain ⟨rfl,hF⟩:=hJ
  refine ⟨_,λ_ _ h=>h,?_⟩
  cases h
  exact hF
 have h:=dH h
 obtain ⟨rfl,hE,s⟩:=hJ
 refine ⟨_,hE.sub,?_⟩
 cases h
 exact .g (.q z (.s (aJ (s.keep q_0) u23 z z) z (.q z (.qn z (.ret (aa () (rt z rn) z (s.to [])))))))
theorem gS {a0:ah} {a1:Bool} {ay:Hd} {ba:Hd} {bc:Hd} {w:World} {r:Bool} (h:eK a0 a1=some r) (au:RO w ay 91 3 aK a0.Expr.Args) (be:RO w ba 95 8 ak a0.Body) (aZ:RO w bc 95 8 ak a0.Else):CL 261 #[.agg #[vi a0.Kind,vi a0.Var,vi a0.Box,vi a0.Expr.Op,vi a0.Expr.N,sv ay,sv ba,sv bc],.bool a1] w (RU w (.bool r)):=by
 unfold eK at h
 refine ao func261 z z ?_
 have s:=Sep.start w
 refine .g (.c (.box s z z ?_))
 intro g1 W s
 refine .qn z (.seq (.g (.q z (.nil ?_))))
 refine .cs z h ?_ ?_ <;> intro h
 ·refine .g (.s (fa f95_1 z z z) z (.s (ld t3 s z z z z z) z (bv h λy1 hy1 h=>.c (.cO s func32 (bk hy1) z z ?_))))
  intro W s
  obtain rfl:=o9 h
  exact .qn z (.ret (aa () (rt z rn) z (s.to [])))
 cases h
 exact .skip (.g (.s (fa f95_1 z z z) z (.s (ld t3 s z z z z z) z (.q z (.qn z (.ret (aa () (rt z rn) z (s.to []))))))))
theorem gU {a0:ah} {a1:Bool} {ay:Hd} {ba:Hd} {bc:Hd} {w:World} {r:Bool} (h:eL a0 a1=some r) (au:RO w ay 91 3 aK a0.Expr.Args) (be:RO w ba 95 8 ak a0.Body) (aZ:RO w bc 95 8 ak a0.Else):CL 262 #[.agg #[vi a0.Kind,vi a0.Var,vi a0.Box,vi a0.Expr.Op,vi a0.Expr.N,sv ay,sv ba,sv bc],.bool a1] w (RU w (.bool r)):=by
 unfold eL at h
 refine ao func262 z z ?_
 have s:=Sep.start w
 refine .g (.c (.box s z z ?_))
 intro g1 W s
 refine .qn z (.seq (.g (.q z (.nil ?_))))
 refine .cs z h ?_ ?_ <;> intro h
 ·refine .g (.s (fa f95_2 z z z) z (.s (ld t3 s z z z z z) z (bv h λy1 hy1 h=>.c (.cO s func32 (bk hy1) z z ?_))))
  intro W s
  obtain rfl:=o9 h
  exact .qn z (.ret (aa () (rt z rn) z (s.to [])))
 cases h
 exact .skip (.g (.s (fa f95_2 z z z) z (.s (ld t3 s z z z z z) z (.q z (.qn z (.ret (aa () (rt z rn) z (s.to []))))))))
theorem mV {a0:Int} {w:World} {r:Bool} (h:et a0=some r):CL 203 #[vi a0] w (RU w (.bool r)):=by
 unfold et at h
 refine ao func203 z z ?_
 have s:=Sep.start w
 refine .g (.qn z (.g (.q z (bv h λy1 hy1 h=>.c (.cO s func32 (bk hy1) z z ?_)))))
 intro W s
 obtain rfl:=o9 h
 exact .qn z (.ret (aa () (rt z rn) z (s.to [])))
def nW (F:Expr->Int->Option (Bool)):Prop:=∀ {a0:Expr} {a1:Int} {bC:Hd} {w:World} {r:Bool} (h:F a0 a1=some r) (ax:RO w bC 91 3 aK a0.Args) , CL 275 #[.agg #[vi a0.Op,vi a0.N,sv bC],vi a1] w (RU w (.bool r))
theorem yh {k:Nat} {mH:Expr->Int->Option (Bool)} (sC:nW mH):nW (fR k mH):=by
 intro a0 a1 bC w r h ax
 unfold fR at h
 refine ao func275 z z ?_
 have s:=Sep.start w
 refine .g (.c (.box s z z ?_))
 intro g1 W s
 refine .qn z (.seq (.g (.q z (.q z (.nil ?_)))))
 refine .cs z h ?_ ?_ <;> intro h
 ·obtain rfl:=o9 h
  exact .g (.qn z (.ret (aa () (rt z rn) z (s.to []))))
 refine .skip (.seq (.g (.s (fa f91_0 z z z) z (.s (ld t3 s z z z z z) z (.q z (.nil ?_))))))
 refine .cs z h ?_ ?_ <;> intro h
 ·refine .g (.s (fa f91_1 z z z) z (.s (ld t3 s z z z z z) z (bv h λy1 hy1 h=>.c (.cO s func32 (bk hy1) z z ?_))))
  intro W s
  refine .q z (.cu 5 18 (y1&&((a0.Args.length:Int)==0)) s ?_ ?_)
  ·refine .both (y1) (λb=>?_) (λb=>?_)
   ·have hg1:=b
    exact .g hg1 (.s (fa f91_2 z z z) z (.g hg1 (.s (ld t89 s z z z z z) z (.g hg1 (.s (aJ (s.keep ax) u89 z z) z (.g hg1 (.q z (.s (pkt hg1 z z z) z (.nil (ck 5 s z (bp hg1)))))))))))
   exact .xx b z (.xx b z (.xx b z (.xx b z (.s (pkf b z z z) z (.nil (ck 5 s z (bq b)))))))
  intro W s
  cases h
  exact .qn z (.ret (aa () (rt z rn) z (s.to [])))
 refine .skip (.seq (.g (.s (fa f91_0 z z z) z (.s (ld t3 s z z z z z) z (.q z (.nil ?_))))))
 refine .cs z h ?_ ?_ <;> intro h
 ·refine .g (.s (fa f91_1 z z z) z (.s (ld t3 s z z z z z) z (bv h λy2 hy2 h=>.c (.cO s func32 (bk hy2) z z ?_))))
  intro W s
  refine .q z (.cu 5 30 (y2&&((a0.Args.length:Int)==0)) s ?_ ?_)
  ·refine .both (y2) (λb=>?_) (λb=>?_)
   ·have hg2:=b
    exact .g hg2 (.s (fa f91_2 z z z) z (.g hg2 (.s (ld t89 s z z z z z) z (.g hg2 (.s (aJ (s.keep ax) u89 z z) z (.g hg2 (.q z (.s (pkt hg2 z z z) z (.nil (ck 5 s z (bp hg2)))))))))))
   exact .xx b z (.xx b z (.xx b z (.xx b z (.s (pkf b z z z) z (.nil (ck 5 s z (bq b)))))))
  intro W s
  cases h
  exact .qn z (.ret (aa () (rt z rn) z (s.to [])))
 refine .skip (.g (.s (fa f91_0 z z z) z (.s (ld t3 s z z z z z) z (bv h λy3 hy3 h=>.c (.cO s func203 (mV hy3) z z ?_)))))
 intro W s
 refine .q z (.cu 4 38 (y3&&(a0.N==0)) s ?_ ?_)
 ·refine .both (y3) (λb=>?_) (λb=>?_)
  ·have hg3:=b
   exact .g hg3 (.s (fa f91_1 z z z) z (.g hg3 (.s (ld t3 s z z z z z) z (.g hg3 (.q z (.s (pkt hg3 z z z) z (.nil (ck 4 s z (bp hg3)))))))))
  exact .xx b z (.xx b z (.xx b z (.s (pkf b z z z) z (.nil (ck 4 s z (bq b))))))
 intro W s
 refine .q z (.cu 5 44 ((y3&&(a0.N==0))&&((a0.Args.length:Int)==2)) s ?_ ?_)
 ·refine .both (y3&&(a0.N==0)) (λb=>?_) (λb=>?_)
  ·have hg4:=b
   exact .g hg4 (.s (fa f91_2 z z z) z (.g hg4 (.s (ld t89 s z z z z z) z (.g hg4 (.s (aJ (s.keep ax) u89 z z) z (.g hg4 (.q z (.s (pkt hg4 z z z) z (.nil (ck 5 s z (bp hg4)))))))))))
  exact .xx b z (.xx b z (.xx b z (.xx b z (.s (pkf b z z z) z (.nil (ck 5 s z (bq b)))))))
 intro W s
 refine .q z (bv h λb1 hb1 h=>.cu 8 53 (b1) s ?_ ?_)
 ·refine .both ((y3&&(a0.N==0))&&((a0.Args.length:Int)==2)) (λb=>?_) (λb=>?_)
  ·have hg5:=b
   have h:=aC b hb1
   refine .g hg5 (.s (fa f91_2 z z z) z (.g hg5 (.s (ld t89 s z z z z z) z (bv h λx1 hx1 h=>?_))))
   obtain ⟨k1,hd,hck1⟩:=RV.el2 ax hx1
   have hd1:=j7 (cH _) hd
   obtain ⟨k1,rfl,hd2⟩:=bQ ax z hd1
   obtain ⟨k1,rfl,hd3⟩:=bQ ax z hd2
   obtain ⟨v1,k1,rfl,q1,hd4⟩:=cU ax hd3
   obtain rfl:=mO ax hd4
   refine .g hg5 (.s (ixv (s.keep ax) hx1 u89 t91 z z z) z (.g hg5 (.s (lde (hck1 _ s.agree) t91 z z z z z) z (.g hg5 (.q z (.g hg5 (.q z (bv h λy4 hy4 h=>.g hg5 (.c (.cO s func275 (sC hy4 (s.keep (q1 _ ax))) z z ?_))))))))))
   intro W s
   refine .s (pkt hg5 z z z) z ?_
   cases h
   exact .nil (ck 8 s)
  refine .xx b z (.xx b z (.xx b z (.xx b z (.xx b z (.xx b z (.xx b z ?_))))))
  cases aD b hb1
  exact .s (pkf b z z z) z (.nil (ck 8 s))
 intro W s
 refine .q z (bv h λb2 hb2 h=>.cu 8 62 (b2) s ?_ ?_)
 ·refine .both (b1) (λb=>?_) (λb=>?_)
  ·have hg6:=b
   have h:=aC b hb2
   refine .g hg6 (.s (fa f91_2 z z z) z (.g hg6 (.s (ld t89 s z z z z z) z (bv h λx2 hx2 h=>?_))))
   obtain ⟨k2,hd,hck2⟩:=RV.el2 ax hx2
   have hd1:=j7 (cH _) hd
   obtain ⟨k2,rfl,hd2⟩:=bQ ax z hd1
   obtain ⟨k2,rfl,hd3⟩:=bQ ax z hd2
   obtain ⟨v2,k2,rfl,q2,hd4⟩:=cU ax hd3
   obtain rfl:=mO ax hd4
   refine .g hg6 (.s (ixv (s.keep ax) hx2 u89 t91 z z z) z (.g hg6 (.s (lde (hck2 _ s.agree) t91 z z z z z) z (.g hg6 (.q z (.g hg6 (.q z (bv h λy5 hy5 h=>.g hg6 (.c (.cO s func275 (sC hy5 (s.keep (q2 _ ax))) z z ?_))))))))))
   intro W s
   refine .s (pkt hg6 z z z) z ?_
   cases h
   exact .nil (ck 8 s)
  refine .xx b z (.xx b z (.xx b z (.xx b z (.xx b z (.xx b z (.xx b z ?_))))))
  cases aD b hb2
  exact .s (pkf b z z z) z (.nil (ck 8 s))
 intro W s
 obtain rfl:=o9 h
 exact .qn z (.ret (aa () (rt z rn) z (s.to [])))
theorem tz (k:Nat):nW (lq k):=by
  induction k with
  | zero=>exact by intro a0 a1 bC w r h ax; exact no h
  | succ k ih=>exact yh (k:=k) ih
theorem xc {k:Nat}:nW (lq k):=(tz k)
theorem jb {k:Nat} {a0:Expr} {bC:Hd} {w:World} {r:Bool} (h:cd k a0=some r) (ax:RO w bC 91 3 aK a0.Args):CL 263 #[.agg #[vi a0.Op,vi a0.N,sv bC]] w (RU w (.bool r)):=by
 unfold cd at h
 refine ao func263 z z ?_
 have s:=Sep.start w
 refine .g (.c (.box s z z ?_))
 intro g1 W s
 refine .qn z (.g (.s (ld t91 s z z z z z) z (bv h λy1 hy1 h=>.c (.cO s func275 (xc hy1 (s.keep ax)) z z ?_))))
 intro W s
 obtain rfl:=o9 h
 exact .qn z (.ret (aa () (rt z rn) z (s.to [])))
theorem oA {a0:Expr} {bC:Hd} {w:World} {r:Bool} (h:f6 a0=some r) (ax:RO w bC 91 3 aK a0.Args):CL 274 #[.agg #[vi a0.Op,vi a0.N,sv bC]] w (RU w (.bool r)):=by
 unfold f6 at h
 refine ao func274 z z ?_
 have s:=Sep.start w
 refine .g (.c (.box s z z ?_))
 intro g1 W s
 refine .qn z (.g (.s (fa f91_0 z z z) z (.s (ld t3 s z z z z z) z (.q z (.q z (.cu 4 10 ((a0.Op==0)&&(a0.N==0)) s ?_ ?_))))))
 ·refine .both (a0.Op==0) (λb=>?_) (λb=>?_)
  ·have hg1:=b
   exact .g hg1 (.s (fa f91_1 z z z) z (.g hg1 (.s (ld t3 s z z z z z) z (.g hg1 (.q z (.s (pkt hg1 z z z) z (.nil (ck 4 s z (bp hg1)))))))))
  exact .xx b z (.xx b z (.xx b z (.s (pkf b z z z) z (.nil (ck 4 s z (bq b))))))
 intro W s
 refine .q z (.cu 5 16 (((a0.Op==0)&&(a0.N==0))&&((a0.Args.length:Int)==0)) s ?_ ?_)
 ·refine .both ((a0.Op==0)&&(a0.N==0)) (λb=>?_) (λb=>?_)
  ·have hg2:=b
   exact .g hg2 (.s (fa f91_2 z z z) z (.g hg2 (.s (ld t89 s z z z z z) z (.g hg2 (.s (aJ (s.keep ax) u89 z z) z (.g hg2 (.q z (.s (pkt hg2 z z z) z (.nil (ck 5 s z (bp hg2)))))))))))
  exact .xx b z (.xx b z (.xx b z (.xx b z (.s (pkf b z z z) z (.nil (ck 5 s z (bq b)))))))
 intro W s
 cases h
 exact .qn z (.ret (aa () (rt z rn) z (s.to [])))
theorem sD {k:Nat} {a0:ah} {ay:Hd} {ba:Hd} {bc:Hd} {w:World} {r:Bool} (h:dI k a0=some r) (au:RO w ay 91 3 aK a0.Expr.Args) (be:RO w ba 95 8 ak a0.Body) (aZ:RO w bc 95 8 ak a0.Else):CL 260 #[.agg #[vi a0.Kind,vi a0.Var,vi a0.Box,vi a0.Expr.Op,vi a0.Expr.N,sv ay,sv ba,sv bc]] w (RU w (.bool r)):=by
 unfold dI at h
 refine ao func260 z z ?_
 have s:=Sep.start w
 refine .g (.c (.box s z z ?_))
 intro g1 W s
 refine .qn z (.seq (.g (.s (fa f95_4 z z z) z (.s (ld t93 s z z z z z) z (.s (aJ (s.keep be) u93 z z) z (.q z (.q z (.cu 5 12 ((decide ((a0.Body.length:Int)>0))||(decide ((a0.Else.length:Int)>0))) s ?_ ?_))))))))
 ·refine .both (decide ((a0.Body.length:Int)>0)) (λb=>?_) (λb=>?_)
  ·exact .xx b z (.xx b z (.xx b z (.xx b z (.s (pkt b z z z) z (.nil (ck 5 s z (gY b)))))))
  have hg1:=b
  exact .g hg1 (.s (fa f95_5 z z z) z (.g hg1 (.s (ld t93 s z z z z z) z (.g hg1 (.s (aJ (s.keep aZ) u93 z z) z (.g hg1 (.q z (.s (pkf hg1 z z z) z (.nil (ck 5 s z (gr hg1)))))))))))
 intro W s
 refine .nil ?_
 refine .cs z h ?_ ?_ <;> intro h
 ·obtain rfl:=o9 h
  exact .g (.qn z (.ret (aa () (rt z rn) z (s.to []))))
 refine .skip (.seq (.g (.s (fa f95_0 z z z) z (.s (ld t3 s z z z z z) z (.nil (.block (.g (.q z (.q z (.nil ?_))))))))))
 refine .cs z h ?_ ?_ <;> intro h
 ·refine .g (.s (ld t95 s z z z z z) z (bv h λy1 hy1 h=>.c (.cO s func261 (gS hy1 (s.keep au) (s.keep be) (s.keep aZ)) z z ?_)))
  intro W s
  refine .q z (bv h λb1 hb1 h=>.cu 3 22 (b1) s ?_ ?_)
  ·refine .both (y1) (λb=>?_) (λb=>?_)
   ·have hg2:=b
    have h:=aC b hb1
    refine .g hg2 (.s (ld t95 s z z z z z) z (bv h λy2 hy2 h=>.g hg2 (.c (.cO s func262 (gU hy2 (s.keep au) (s.keep be) (s.keep aZ)) z z ?_))))
    intro W s
    refine .s (pkt hg2 z z z) z ?_
    cases h
    exact .nil (ck 3 s)
   refine .xx b z (.xx b z ?_)
   cases aD b hb1
   exact .s (pkf b z z z) z (.nil (ck 3 s))
  intro W s
  refine .q z (bv h λb2 hb2 h=>.cu 4 27 (b2) s ?_ ?_)
  ·refine .both (b1) (λb=>?_) (λb=>?_)
   ·have hg3:=b
    have h:=aC b hb2
    refine .g hg3 (.s (fa f95_3 z z z) z (.g hg3 (.s (ld t91 s z z z z z) z (bv h λy3 hy3 h=>.g hg3 (.c (.cO s func263 (jb hy3 (s.keep au)) z z ?_))))))
    intro W s
    refine .s (pkt hg3 z z z) z ?_
    cases h
    exact .nil (ck 4 s)
   refine .xx b z (.xx b z (.xx b z ?_))
   cases aD b hb2
   exact .s (pkf b z z z) z (.nil (ck 4 s))
  intro W s
  obtain rfl:=o9 h
  exact .qn z (.ret (aa () (rt z rn) z (s.to [])))
 refine .g (.q z (.q z (.nil ?_)))
 refine .cs z h ?_ ?_ <;> intro h
 ·refine .g (.s (ld t95 s z z z z z) z (bv h λy4 hy4 h=>.c (.cO s func261 (gS hy4 (s.keep au) (s.keep be) (s.keep aZ)) z z ?_)))
  intro W s
  refine .q z (bv h λb3 hb3 h=>.cu 3 35 (b3) s ?_ ?_)
  ·refine .both (y4) (λb=>?_) (λb=>?_)
   ·have hg4:=b
    have h:=aC b hb3
    refine .g hg4 (.s (ld t95 s z z z z z) z (bv h λy5 hy5 h=>.g hg4 (.c (.cO s func262 (gU hy5 (s.keep au) (s.keep be) (s.keep aZ)) z z ?_))))
    intro W s
    refine .s (pkt hg4 z z z) z ?_
    cases h
    exact .nil (ck 3 s)
   refine .xx b z (.xx b z ?_)
   cases aD b hb3
   exact .s (pkf b z z z) z (.nil (ck 3 s))
  intro W s
  refine .q z (bv h λb4 hb4 h=>.cu 4 40 (b4) s ?_ ?_)
  ·refine .both (b3) (λb=>?_) (λb=>?_)
   ·have hg5:=b
    have h:=aC b hb4
    refine .g hg5 (.s (fa f95_3 z z z) z (.g hg5 (.s (ld t91 s z z z z z) z (bv h λy6 hy6 h=>.g hg5 (.c (.cO s func263 (jb hy6 (s.keep au)) z z ?_))))))
    intro W s
    refine .s (pkt hg5 z z z) z ?_
    cases h
    exact .nil (ck 4 s)
   refine .xx b z (.xx b z (.xx b z ?_))
   cases aD b hb4
   exact .s (pkf b z z z) z (.nil (ck 4 s))
  intro W s
  obtain rfl:=o9 h
  exact .qn z (.ret (aa () (rt z rn) z (s.to [])))
 refine .g (.q z (.q z (.nil ?_)))
 refine .cs z h ?_ ?_ <;> intro h
 ·refine .g (.s (ld t95 s z z z z z) z (bv h λy7 hy7 h=>.c (.cO s func261 (gS hy7 (s.keep au) (s.keep be) (s.keep aZ)) z z ?_)))
  intro W s
  refine .q z (bv h λb5 hb5 h=>.cu 3 48 (b5) s ?_ ?_)
  ·refine .both (y7) (λb=>?_) (λb=>?_)
   ·have hg6:=b
    have h:=aC b hb5
    refine .g hg6 (.s (ld t95 s z z z z z) z (bv h λy8 hy8 h=>.g hg6 (.c (.cO s func262 (gU hy8 (s.keep au) (s.keep be) (s.keep aZ)) z z ?_))))
    intro W s
    refine .s (pkt hg6 z z z) z ?_
    cases h
    exact .nil (ck 3 s)
   refine .xx b z (.xx b z ?_)
   cases aD b hb5
   exact .s (pkf b z z z) z (.nil (ck 3 s))
  intro W s
  refine .q z (bv h λb6 hb6 h=>.cu 4 53 (b6) s ?_ ?_)
  ·refine .both (b5) (λb=>?_) (λb=>?_)
   ·have hg7:=b
    have h:=aC b hb6
    refine .g hg7 (.s (fa f95_3 z z z) z (.g hg7 (.s (ld t91 s z z z z z) z (bv h λy9 hy9 h=>.g hg7 (.c (.cO s func274 (oA hy9 (s.keep au)) z z ?_))))))
    intro W s
    refine .s (pkt hg7 z z z) z ?_
    cases h
    exact .nil (ck 4 s)
   refine .xx b z (.xx b z (.xx b z ?_))
   cases aD b hb6
   exact .s (pkf b z z z) z (.nil (ck 4 s))
  intro W s
  obtain rfl:=o9 h
  exact .qn z (.ret (aa () (rt z rn) z (s.to [])))
 refine .g (.q z (.q z (.nil ?_)))
 refine .cs z h ?_ ?_ <;> intro h
 ·refine .g (.s (ld t95 s z z z z z) z (bv h λy10 hy10 h=>.c (.cO s func261 (gS hy10 (s.keep au) (s.keep be) (s.keep aZ)) z z ?_)))
  intro W s
  refine .q z (bv h λb7 hb7 h=>.cu 3 61 (b7) s ?_ ?_)
  ·refine .both (y10) (λb=>?_) (λb=>?_)
   ·have hg8:=b
    have h:=aC b hb7
    refine .g hg8 (.s (ld t95 s z z z z z) z (bv h λy11 hy11 h=>.g hg8 (.c (.cO s func262 (gU hy11 (s.keep au) (s.keep be) (s.keep aZ)) z z ?_))))
    intro W s
    refine .s (pkt hg8 z z z) z ?_
    cases h
    exact .nil (ck 3 s)
   refine .xx b z (.xx b z ?_)
   cases aD b hb7
   exact .s (pkf b z z z) z (.nil (ck 3 s))
  intro W s
  refine .q z (bv h λb8 hb8 h=>.cu 4 66 (b8) s ?_ ?_)
  ·refine .both (b7) (λb=>?_) (λb=>?_)
   ·have hg9:=b
    have h:=aC b hb8
    refine .g hg9 (.s (fa f95_3 z z z) z (.g hg9 (.s (ld t91 s z z z z z) z (bv h λy12 hy12 h=>.g hg9 (.c (.cO s func274 (oA hy12 (s.keep au)) z z ?_))))))
    intro W s
    refine .s (pkt hg9 z z z) z ?_
    cases h
    exact .nil (ck 4 s)
   refine .xx b z (.xx b z (.xx b z ?_))
   cases aD b hb8
   exact .s (pkf b z z z) z (.nil (ck 4 s))
  intro W s
  obtain rfl:=o9 h
  exact .qn z (.ret (aa () (rt z rn) z (s.to [])))
 refine .g (.q z (.q z (.nil ?_)))
 refine .cs z h ?_ ?_ <;> intro h
 ·refine .g (.s (ld t95 s z z z z z) z (bv h λy13 hy13 h=>.c (.cO s func261 (gS hy13 (s.keep au) (s.keep be) (s.keep aZ)) z z ?_)))
  intro W s
  refine .q z (bv h λb9 hb9 h=>.cu 3 74 (b9) s ?_ ?_)
  ·refine .both (y13) (λb=>?_) (λb=>?_)
   ·have hg10:=b
    have h:=aC b hb9
    refine .g hg10 (.s (ld t95 s z z z z z) z (bv h λy14 hy14 h=>.g hg10 (.c (.cO s func262 (gU hy14 (s.keep au) (s.keep be) (s.keep aZ)) z z ?_))))
    intro W s
    refine .s (pkt hg10 z z z) z ?_
    cases h
    exact .nil (ck 3 s)
   refine .xx b z (.xx b z ?_)
   cases aD b hb9
   exact .s (pkf b z z z) z (.nil (ck 3 s))
  intro W s
  refine .q z (bv h λb10 hb10 h=>.cu 4 79 (b10) s ?_ ?_)
  ·refine .both (b9) (λb=>?_) (λb=>?_)
   ·have hg11:=b
    have h:=aC b hb10
    refine .g hg11 (.s (fa f95_3 z z z) z (.g hg11 (.s (ld t91 s z z z z z) z (bv h λy15 hy15 h=>.g hg11 (.c (.cO s func263 (jb hy15 (s.keep au)) z z ?_))))))
    intro W s
    refine .s (pkt hg11 z z z) z ?_
    cases h
    exact .nil (ck 4 s)
   refine .xx b z (.xx b z (.xx b z ?_))
   cases aD b hb10
   exact .s (pkf b z z z) z (.nil (ck 4 s))
  intro W s
  obtain rfl:=o9 h
  exact .qn z (.ret (aa () (rt z rn) z (s.to [])))
 obtain rfl:=o9 h
 exact .skip (.g (.qn z (.ret (aa () (rt z rn) z (s.to [])))))
def gV (F:List ah->Int->Option (Bool)):Prop:=∀ {a0:List ah} {a1:Int} {v_0:Hd} {w:World} {r:Bool} (h:F a0 a1=some r) (q_0:RO w v_0 95 8 ak a0) , CL 194 #[sv v_0,vi a1] w (RU w (.bool r))
def ng (F:ah->Int->Option (Bool)):Prop:=∀ {a0:ah} {a1:Int} {ay:Hd} {ba:Hd} {bc:Hd} {w:World} {r:Bool} (h:F a0 a1=some r) (au:RO w ay 91 3 aK a0.Expr.Args) (be:RO w ba 95 8 ak a0.Body) (aZ:RO w bc 95 8 ak a0.Else) , CL 236 #[.agg #[vi a0.Kind,vi a0.Var,vi a0.Box,vi a0.Expr.Op,vi a0.Expr.N,sv ay,sv ba,sv bc],vi a1] w (RU w (.bool r))
def tA (w:World) (r:Bool):Env->World->Prop:=Fin Tryz.prog Tryz.f194 No w (λs:Unit=>.bool r) (λs=>[]) .ret
theorem tB {k:Nat} {ch:List ah->Int->Option (Bool)} {dB:ah->Int->Option (Bool)} (l6:gV ch) (qU:ng dB):gV (dn k ch dB):=by
 intro a0 a1 v_0 w r h q_0
 unfold dn at h
 refine ao func194 z z ?_
 have s:=Sep.start w
 refine .g (.qn z (.seq (.g (.qn z (.block (bv h λy1 hy1 h=>?_))))))
 refine .via (.iter (λs1 E' W'=>al E' [(0,(sv v_0)),(1,vi a1),(5,vi s1)]/\Sep No w W' []) (λy2 x E' W'=>(match y2 with | .inl o1=>x=.ret/\tA w o1 E' W' | .inr o2=>x=.exit 0/\al E' []/\Sep No w W' [])) hy1 ⟨sb rfl,s.to [] rfl⟩ ?_) ?_
 ·intro s1 y3 E W h hI
  obtain ⟨hE,s⟩:=hI
  refine CW.sub hE ?_
  unfold i3 at h
  refine .seq (.g (.q z (.q z (.s (aJ (s.keep q_0) u93 z z) z (.q z (.nil ?_))))))
  refine .cs z h ?_ ?_ <;> intro h
  ·refine .skip (.seq (.block (.g (.q z (.q z (bv h λx1 hx1 h=>?_))))))
   obtain ⟨k1,hd,hck1⟩:=RV.el2 q_0 hx1
   have hd1:=j7 (eI _) hd
   obtain ⟨k1,rfl,hd2⟩:=bQ q_0 z hd1
   obtain ⟨k1,rfl,hd3⟩:=bQ q_0 z hd2
   obtain ⟨k1,rfl,hd4⟩:=bQ q_0 z hd3
   have hd5:=j7 (cH _) hd4
   obtain ⟨k1,rfl,hd6⟩:=bQ q_0 z hd5
   obtain ⟨k1,rfl,hd7⟩:=bQ q_0 z hd6
   obtain ⟨v1,k1,rfl,q1,hd8⟩:=cU q_0 hd7
   obtain ⟨v2,k1,rfl,q2,hd9⟩:=cU q_0 hd8
   obtain ⟨v3,k1,rfl,q3,hd10⟩:=cU q_0 hd9
   obtain rfl:=mO q_0 hd10
   refine .s (ixv (s.keep q_0) hx1 u93 t95 z z z) z (.s (lde (hck1 _ s.agree) t95 z z z z z) z (.q z (bv h λy4 hy4 h=>.c (.cO s func236 (qU hy4 (s.keep (q1 _ q_0)) (s.keep (q2 _ q_0)) (s.keep (q3 _ q_0))) z z ?_))))
   intro W s
   refine .q z (.nil ?_)
   refine .cs z h ?_ ?_ <;> intro h
   ·refine .g (.qn z (.ret ?_))
    cases h
    exact ⟨by simp,z,aa (vs:=[_]) () (rt z rn) z (s.to [])⟩
   refine .skip (.region (.q z (.q z (.q z (.nil ?_)))))
   cases h
   exact ⟨z,sb z,s.to []⟩
  refine .exit ?_
  cases h
  exact ⟨by simp,z,sb z,s.to []⟩
 intro x E W hJ
 rcases y1 with o3 | o4
 ·have h:=dG h
  obtain ⟨rfl,hF⟩:=hJ
  refine ⟨_,λ_ _ h=>h,?_⟩
  cases h
  exact hF
 have h:=dH h
 obtain ⟨rfl,hE,s⟩:=hJ
 refine ⟨_,hE.sub,?_⟩
 obtain rfl:=o9 h
 exact .g (.qn z (.ret (aa () (rt z rn) z (s.to []))))
theorem xd {k:Nat} {ch:List ah->Int->Option (Bool)} {dB:ah->Int->Option (Bool)} (l6:gV ch) (qU:ng dB):ng (ic k ch dB):=by
 intro a0 a1 ay ba bc w r h au be aZ
 unfold ic at h
 refine ao func236 z z ?_
 have s:=Sep.start w
 refine .g (.c (.box s z z ?_))
 intro g1 W s
 refine .qn z (.seq (.g (.s (fa f95_0 z z z) z (.s (ld t3 s z z z z z) z (.q z (.q z (.cu 4 12 ((a0.Kind !=2)&&(a0.Kind !=3)) s ?_ ?_)))))))
 ·refine .both (a0.Kind !=2) (λb=>?_) (λb=>?_)
  ·have hg1:=b
   exact .g hg1 (.s (fa f95_0 z z z) z (.g hg1 (.s (ld t3 s z z z z z) z (.g hg1 (.q z (.s (pkt hg1 z z z) z (.nil (ck 4 s z (bp hg1)))))))))
  exact .xx b z (.xx b z (.xx b z (.s (pkf b z z z) z (.nil (ck 4 s z (bq b))))))
 intro W s
 refine .nil ?_
 refine .cs z h ?_ ?_ <;> intro h
 ·refine .g (.s (ld t95 s z z z z z) z (bv h λy1 hy1 h=>.c (.cO s func260 (sD hy1 (s.keep au) (s.keep be) (s.keep aZ)) z z ?_)))
  intro W s
  obtain rfl:=o9 h
  exact .qn z (.ret (aa () (rt z rn) z (s.to [])))
 refine .skip (.seq (.g (.q z (.q z (.q z (.cu 10 27 ((decide (a1<1))||((a0.Kind==3)&&(decide ((a0.Else.length:Int)>0)))) s ?_ ?_))))))
 ·refine .both (decide (a1<1)) (λb=>?_) (λb=>?_)
  ·exact .xx b z (.xx b z (.xx b z (.xx b z (.xu (.xu (.xu (.xu (.xx b z (.s (pkt b z z z) z (.nil (ck 10 s z (gY b))))))))))))
  have hg2:=b
  refine .g hg2 (.s (fa f95_0 z z z) z (.g hg2 (.s (ld t3 s z z z z z) z (.g hg2 (.q z (.g hg2 (.q z (.cu 5 26 ((a0.Kind==3)&&(decide ((a0.Else.length:Int)>0))) s ?_ ?_))))))))
  ·refine .both (a0.Kind==3) (λb=>?_) (λb=>?_)
   ·have hg3:=b
    exact .g hg3 (.s (fa f95_5 z z z) z (.g hg3 (.s (ld t93 s z z z z z) z (.g hg3 (.s (aJ (s.keep aZ) u93 z z) z (.g hg3 (.q z (.g hg2 (.s (pkt hg3 z z z) z (.nil (ck 5 s z (bp hg3))))))))))))
   exact .xx b z (.xx b z (.xx b z (.xx b z (.g hg2 (.s (pkf b z z z) z (.nil (ck 5 s z (bq b))))))))
  intro W s
  exact .s (pkf hg2 z z z) z (.nil (ck 6 s z (gr hg2)))
 intro W s
 refine .nil ?_
 refine .cs z h ?_ ?_ <;> intro h
 ·obtain rfl:=o9 h
  exact .g (.qn z (.ret (aa () (rt z rn) z (s.to []))))
 refine .skip (.g (.s (ld t95 s z z z z z) z (bv h λy2 hy2 h=>.c (.cO s func261 (gS hy2 (s.keep au) (s.keep be) (s.keep aZ)) z z ?_))))
 intro W s
 refine .q z (bv h λb1 hb1 h=>.cu 3 33 (b1) s ?_ ?_)
 ·refine .both (y2) (λb=>?_) (λb=>?_)
  ·have hg4:=b
   have h:=aC b hb1
   refine .g hg4 (.s (ld t95 s z z z z z) z (bv h λy3 hy3 h=>.g hg4 (.c (.cO s func262 (gU hy3 (s.keep au) (s.keep be) (s.keep aZ)) z z ?_))))
   intro W s
   refine .s (pkt hg4 z z z) z ?_
   cases h
   exact .nil (ck 3 s)
  refine .xx b z (.xx b z ?_)
  cases aD b hb1
  exact .s (pkf b z z z) z (.nil (ck 3 s))
 intro W s
 refine .q z (bv h λb2 hb2 h=>.cu 4 38 (b2) s ?_ ?_)
 ·refine .both (b1) (λb=>?_) (λb=>?_)
  ·have hg5:=b
   have h:=aC b hb2
   refine .g hg5 (.s (fa f95_3 z z z) z (.g hg5 (.s (ld t91 s z z z z z) z (bv h λy4 hy4 h=>.g hg5 (.c (.cO s func263 (jb hy4 (s.keep au)) z z ?_))))))
   intro W s
   refine .s (pkt hg5 z z z) z ?_
   cases h
   exact .nil (ck 4 s)
  refine .xx b z (.xx b z (.xx b z ?_))
  cases aD b hb2
  exact .s (pkf b z z z) z (.nil (ck 4 s))
 intro W s
 refine .q z (bv h λb3 hb3 h=>.cu 6 45 (b3) s ?_ ?_)
 ·refine .both (b2) (λb=>?_) (λb=>?_)
  ·have hg6:=b
   have h:=aC b hb3
   refine .g hg6 (.s (fa f95_4 z z z) z (.g hg6 (.s (ld t93 s z z z z z) z (.g hg6 (.q z (.g hg6 (.q z (bv h λy5 hy5 h=>.g hg6 (.c (.cO s func194 (l6 hy5 (s.keep be)) z z ?_))))))))))
   intro W s
   refine .s (pkt hg6 z z z) z ?_
   cases h
   exact .nil (ck 6 s)
  refine .xx b z (.xx b z (.xx b z (.xx b z (.xx b z ?_))))
  cases aD b hb3
  exact .s (pkf b z z z) z (.nil (ck 6 s))
 intro W s
 refine .q z (bv h λb4 hb4 h=>.cu 6 52 (b4) s ?_ ?_)
 ·refine .both (b3) (λb=>?_) (λb=>?_)
  ·have hg7:=b
   have h:=aC b hb4
   refine .g hg7 (.s (fa f95_5 z z z) z (.g hg7 (.s (ld t93 s z z z z z) z (.g hg7 (.q z (.g hg7 (.q z (bv h λy6 hy6 h=>.g hg7 (.c (.cO s func194 (l6 hy6 (s.keep aZ)) z z ?_))))))))))
   intro W s
   refine .s (pkt hg7 z z z) z ?_
   cases h
   exact .nil (ck 6 s)
  refine .xx b z (.xx b z (.xx b z (.xx b z (.xx b z ?_))))
  cases aD b hb4
  exact .s (pkf b z z z) z (.nil (ck 6 s))
 intro W s
 obtain rfl:=o9 h
 exact .qn z (.ret (aa () (rt z rn) z (s.to [])))
theorem pj (k:Nat):gV (bJ k)/\ng (nu k):=by
  induction k with
  | zero=>exact ⟨by intro a0 a1 v_0 w r h q_0; exact no h,by intro a0 a1 ay ba bc w r h au be aZ; exact no h⟩
  | succ k ih=>exact ⟨tB (k:=k) ih.1 ih.2,xd (k:=k) ih.1 ih.2⟩
theorem sE {k:Nat}:gV (bJ k):=(pj k).1
theorem nI {k:Nat} {a0:List ah} {v_0:Hd} {w:World} {r:Bool} (h:cB k a0=some r) (q_0:RO w v_0 95 8 ak a0):CL 150 #[sv v_0] w (RU w (.bool r)):=by
 unfold cB at h
 refine ao func150 z z ?_
 have s:=Sep.start w
 refine .g (.qn z (.g (.q z (bv h λy1 hy1 h=>.c (.cO s func194 (sE hy1 (s.keep q_0)) z z ?_)))))
 intro W s
 refine .q z (bv h λb1 hb1 h=>.cu 4 9 (b1) s ?_ ?_)
 ·refine .both (y1) (λb=>?_) (λb=>?_)
  ·have hg1:=b
   have h:=aC b hb1
   refine .g hg1 (.q z (bv h λy2 hy2 h=>.g hg1 (.c (.cO s func149 (ox hy2 (s.keep q_0)) z z ?_))))
   intro W s
   refine .g hg1 (.q z (.s (pkt hg1 z z z) z ?_))
   cases h
   exact .nil (ck 4 s)
  refine .xx b z (.xx b z (.xx b z ?_))
  cases aD b hb1
  exact .s (pkf b z z z) z (.nil (ck 4 s))
 intro W s
 obtain rfl:=o9 h
 exact .qn z (.ret (aa () (rt z rn) z (s.to [])))
def kS (F:List ah->Int->Option (Bool)):Prop:=∀ {a0:List ah} {a1:Int} {v_0:Hd} {w:World} {r:Bool} (h:F a0 a1=some r) (q_0:RO w v_0 95 8 ak a0) , CL 151 #[sv v_0,vi a1] w (RU w (.bool r))
def uq (w:World) (r:Bool):Env->World->Prop:=Fin Tryz.prog Tryz.f151 No w (λs:Unit=>.bool r) (λs=>[]) .ret
theorem ur {k:Nat} {dU:List ah->Int->Option (Bool)} (oB:kS dU):kS (dV k dU):=by
 intro a0 a1 v_0 w r h q_0
 unfold dV at h
 refine ao func151 z z ?_
 have s:=Sep.start w
 refine .g (.qn z (.seq (.g (.qn z (.block (bv h λy1 hy1 h=>?_))))))
 refine .via (.iter (λs1 E' W'=>al E' [(0,(sv v_0)),(1,vi a1),(5,vi s1)]/\Sep No w W' []) (λy2 x E' W'=>(match y2 with | .inl o1=>x=.ret/\uq w o1 E' W' | .inr o2=>x=.exit 0/\al E' []/\Sep No w W' [])) hy1 ⟨sb rfl,s.to [] rfl⟩ ?_) ?_
 ·intro s1 y3 E W h hI
  obtain ⟨hE,s⟩:=hI
  refine CW.sub hE ?_
  unfold mr at h
  refine .seq (.g (.q z (.q z (.s (aJ (s.keep q_0) u93 z z) z (.q z (.nil ?_))))))
  refine .cs z h ?_ ?_ <;> intro h
  ·refine .skip (.seq (.block (.g (.q z (.q z (bv h λx1 hx1 h=>?_))))))
   obtain ⟨k1,hd,hck1⟩:=RV.el2 q_0 hx1
   have hd1:=j7 (eI _) hd
   obtain ⟨k1,rfl,hd2⟩:=bQ q_0 z hd1
   obtain ⟨k1,rfl,hd3⟩:=bQ q_0 z hd2
   obtain ⟨k1,rfl,hd4⟩:=bQ q_0 z hd3
   have hd5:=j7 (cH _) hd4
   obtain ⟨k1,rfl,hd6⟩:=bQ q_0 z hd5
   obtain ⟨k1,rfl,hd7⟩:=bQ q_0 z hd6
   obtain ⟨v1,k1,rfl,q1,hd8⟩:=cU q_0 hd7
   obtain ⟨v2,k1,rfl,q2,hd9⟩:=cU q_0 hd8
   obtain ⟨v3,k1,rfl,q3,hd10⟩:=cU q_0 hd9
   obtain rfl:=mO q_0 hd10
   refine .s (ixv (s.keep q_0) hx1 u93 t95 z z z) z (.s (lde (hck1 _ s.agree) t95 z z z z z) z (.c (.alloc t95 s ?_)))
   intro g1 W s
   refine .c (.st t95 s z z z ?_)
   intro W s
   refine .nil (.seq (.g (.s (fa f95_0 z z z) z (.s (ld t3 s z z z z z) z (.q z (.q z (.cu 4 24 ((x1.Kind==4)||(x1.Kind==5)) s ?_ ?_)))))))
   ·refine .both (x1.Kind==4) (λb=>?_) (λb=>?_)
    ·exact .xx b z (.xx b z (.xx b z (.s (pkt b z z z) z (.nil (ck 4 s z (gY b))))))
    have hg1:=b
    exact .g hg1 (.s (fa f95_0 z z z) z (.g hg1 (.s (ld t3 s z z z z z) z (.g hg1 (.q z (.s (pkf hg1 z z z) z (.nil (ck 4 s z (gr hg1)))))))))
   intro W s
   refine .q z (.cu 5 30 (((x1.Kind==4)||(x1.Kind==5))&&(decide (x1.Box>=a1))) s ?_ ?_)
   ·refine .both ((x1.Kind==4)||(x1.Kind==5)) (λb=>?_) (λb=>?_)
    ·have hg2:=b
     exact .g hg2 (.s (fa f95_2 z z z) z (.g hg2 (.s (ld t3 s z z z z z) z (.g hg2 (.q z (.g hg2 (.q z (.s (pkt hg2 z z z) z (.nil (ck 5 s z (bp hg2)))))))))))
    exact .xx b z (.xx b z (.xx b z (.xx b z (.s (pkf b z z z) z (.nil (ck 5 s z (bq b)))))))
   intro W s
   refine .nil ?_
   refine .cs z h ?_ ?_ <;> intro h
   ·refine .g (.qn z (.ret ?_))
    cases h
    exact ⟨by simp,z,aa (vs:=[_]) () (rt z rn) z (s.to [])⟩
   refine .skip (.g (.s (fa f95_4 z z z) z (.s (ld t93 s z z z z z) z (.q z (bv h λy4 hy4 h=>.c (.cO s func151 (oB hy4 (s.keep (q2 _ q_0))) z z ?_))))))
   intro W s
   refine .q z (.q z (bv h λb1 hb1 h=>.cu 6 42 (b1) s ?_ ?_))
   ·refine .both (!y4) (λb=>?_) (λb=>?_)
    ·refine .xx b z (.xx b z (.xx b z (.xx b z (.xx b z ?_))))
     cases aC b hb1
     exact .s (pkt b z z z) z (.nil (ck 6 s))
    have hg3:=b
    have h:=aD b hb1
    refine .g hg3 (.s (fa f95_5 z z z) z (.g hg3 (.s (ld t93 s z z z z z) z (.g hg3 (.q z (bv h λy5 hy5 h=>.g hg3 (.c (.cO s func151 (oB hy5 (s.keep (q3 _ q_0))) z z ?_))))))))
    intro W s
    refine .g hg3 (.q z (.s (pkf hg3 z z z) z ?_))
    cases h
    exact .nil (ck 6 s)
   intro W s
   refine .nil ?_
   refine .cs z h ?_ ?_ <;> intro h
   ·refine .g (.qn z (.ret ?_))
    cases h
    exact ⟨by simp,z,aa (vs:=[_]) () (rt z rn) z (s.to [])⟩
   refine .skip (.region (.q z (.q z (.q z (.nil ?_)))))
   cases h
   exact ⟨z,sb z,s.to []⟩
  refine .exit ?_
  cases h
  exact ⟨by simp,z,sb z,s.to []⟩
 intro x E W hJ
 rcases y1 with o3 | o4
 ·have h:=dG h
  obtain ⟨rfl,hF⟩:=hJ
  refine ⟨_,λ_ _ h=>h,?_⟩
  cases h
  exact hF
 have h:=dH h
 obtain ⟨rfl,hE,s⟩:=hJ
 refine ⟨_,hE.sub,?_⟩
 obtain rfl:=o9 h
 exact .g (.qn z (.ret (aa () (rt z rn) z (s.to []))))
theorem pZ (k:Nat):kS (eM k):=by
  induction k with
  | zero=>exact by intro a0 a1 v_0 w r h q_0; exact no h
  | succ k ih=>exact ur (k:=k) ih
theorem tC {k:Nat}:kS (eM k):=(pZ k)
def qF (w:World) (r:Bool):Env->World->Prop:=Fin Tryz.prog Tryz.f103 No w (λs:Unit=>.bool r) (λs=>[]) .ret
theorem qa {k:Nat} {a0:aA} {aN:Hd} {aG:Hd} {w:World} {r:Bool} (h:fT k a0=some r) (cL:RO w aN 3 1 (D.int .i64) a0.Rooms) (aI:RO w aG 93 1 (λ(l:List ah)=>D.row 95 8 (l.map ak)) a0.Tasks):CL 103 #[.agg #[sv aN,sv aG]] w (RU w (.bool r)):=by
 unfold fT at h
 refine ao func103 z z ?_
 have s:=Sep.start w
 refine .g (.c (.box s z z ?_))
 intro g1 W s
 refine .qn z (.seq (.g (.s (fa f26_0 z z z) z (.s (ld t23 s z z z z z) z (bv h λy1 hy1 h=>.c (.cO s func86 (tx hy1 (s.keep cL)) z z ?_))))))
 intro W s
 refine .q z (.q z (bv h λb1 hb1 h=>.cu 6 14 (b1) s ?_ ?_))
 ·refine .both (!y1) (λb=>?_) (λb=>?_)
  ·refine .xx b z (.xx b z (.xx b z (.xx b z (.xx b z ?_))))
   cases aC b hb1
   exact .s (pkt b z z z) z (.nil (ck 6 s))
  have hg1:=b
  have h:=aD b hb1
  refine .g hg1 (.s (fa f26_1 z z z) z (.g hg1 (.s (ld t24 s z z z z z) z (.g hg1 (.s (aJ (s.keep aI) u24 z z) z (bv h λy2 hy2 h=>.g hg1 (.c (.cO s func32 (bk hy2) z z ?_))))))))
  intro W s
  refine .g hg1 (.q z (.s (pkf hg1 z z z) z ?_))
  cases h
  exact .nil (ck 6 s)
 intro W s
 refine .nil ?_
 refine .cs z h ?_ ?_ <;> intro h
 ·obtain rfl:=o9 h
  exact .g (.qn z (.ret (aa () (rt z rn) z (s.to []))))
 refine .skip (.seq (.g (.qn z (.block (bv h λy3 hy3 h=>?_)))))
 refine .via (.iter (λs1 E' W'=>al E' [(1,Pt g1),(3,vi s1)]/\Sep No w W' [.box g1 26 [sv aN,sv aG]]) (λy4 x E' W'=>(match y4 with | .inl o1=>x=.ret/\qF w o1 E' W' | .inr o2=>x=.exit 0/\al E' []/\Sep No w W' [.box g1 26 [sv aN,sv aG]])) hy3 ⟨sb rfl,s.tk [0]⟩ ?_) ?_
 ·intro s1 y5 E W h hI
  obtain ⟨hE,s⟩:=hI
  refine CW.sub hE ?_
  unfold fS at h
  refine .seq (.g (.q z (.s (fa f26_1 z z z) z (.s (ld t24 s z z z z z) z (.s (aJ (s.keep aI) u24 z z) z (.q z (.nil ?_)))))))
  refine .cs z h ?_ ?_ <;> intro h
  ·refine .skip (.seq (.block (.seq (bv h λx1 hx1 h=>bv h λy6 hy6 h=>bv h λb2 hb2 h=>?_))))
   refine .via (R':=λx E' W'=>x=.normal/\al E' [(1,Pt g1),(3,vi s1),(40,.bool b2)]/\Sep No w W' [.box g1 26 [sv aN,sv aG]]) ?_ ?_
   ·refine .rk 19 s [0] T.mix ?_
    intro W s
    have t:=s.to [0]
    refine .ts' 0 z (λW t=>fa f26_1 z z z) t z (.ts' 1 z (λW t=>ld t24 t z z z z z) t z (.tp' 2 z z t ?_))
    obtain ⟨k1,hd,hck1⟩:=RV.el2 aI hx1
    obtain ⟨v1,k1,rfl,q1,hd1⟩:=cU aI hd
    obtain rfl:=mO aI hd1
    refine .ts' 3 z (λW t=>ixv (s.keep aI) hx1 u24 t93 z z z) t z (.ts' 4 z (λW t=>lde (hck1 _ t.agree) t93 z z z z z) t z (.by1 5 z (.cO s func150 (nI hy6 (s.keep (q1 _ aI))) z z ?_)))
    intro W s
    refine s.an [0] λt=>.tp' 6 z z t (.tp' 7 z z t (.both (!y6) (λb=>?_) (λb=>?_)))
    ·exact .off 8 z b t (.off 9 z b t (.off 10 z b t (.off 11 z b t (.off 12 z b t (.off 13 z b t (.off 14 z b t (.off 15 z b t (.off 16 z b t (.off 17 z b t (.ts' 18 z (λW t=>pkt b z z z) t z (.eqv 40 z (gu (aC b hb2)) (.done (⟨z,sb z,s.tk [0]⟩)))) (by kernel_rfl) z z) (by kernel_rfl) z z) (by kernel_rfl) z z) (by kernel_rfl) z z) (by kernel_rfl) z z) (by kernel_rfl) z z) (by kernel_rfl) z z) (by kernel_rfl) z z) (by kernel_rfl) z z) (by kernel_rfl) z z
    have hg2:=b
    have h_b2:=aD b hb2
    refine .t1g 8 z hg2 (λW t=>fa f26_1 z z z) t (.t1g 9 z hg2 (λW t=>ld t24 t z z z z z) t (.t1g 10 z hg2 (λW t=>pr z) t (bv h_b2 λx2 hx2 h_b2=>?_) (by kernel_rfl) z z) (by kernel_rfl) z z) (by kernel_rfl) z z
    obtain ⟨k2,hd,hck2⟩:=RV.el2 aI hx2
    obtain ⟨v2,k2,rfl,q2,hd1⟩:=cU aI hd
    obtain rfl:=mO aI hd1
    refine .t1g 11 z hg2 (λW t=>ixv (s.keep aI) hx2 u24 t93 z z z) t (.t1g 12 z hg2 (λW t=>lde (hck2 _ t.agree) t93 z z z z z) t (.t1g 13 z hg2 (λW t=>fa f26_0 z z z) t (.t1g 14 z hg2 (λW t=>ld t23 t z z z z z) t (.t1g 15 z hg2 (λW t=>aJ (s.keep cL) u23 z z) t (bv h_b2 λy7 hy7 h_b2=>.by1 16 z (.gd hg2 (.cO s func151 (tC hy7 (s.keep (q2 _ aI))) z z ?_))) (by kernel_rfl) z z) (by kernel_rfl) z z) (by kernel_rfl) z z) (by kernel_rfl) z z) (by kernel_rfl) z z
    intro W s
    refine s.an [0] λt=>?_
    exact .t1g 17 z hg2 (λW t=>pr z) t (.ts' 18 z (λW t=>pkf hg2 z z z) t z (.eqv 40 z (gu h_b2) (.done (⟨z,sb z,s.tk [0]⟩)))) (by kernel_rfl) z z
   intro x E W hJ
   obtain ⟨rfl,hE,s⟩:=hJ
   refine ⟨_,hE.sub,?_⟩
   refine .cs z h ?_ ?_ <;> intro h
   ·refine .g (.qn z (.ret ?_))
    cases h
    exact ⟨by simp,z,aa (vs:=[_]) () (rt z rn) z (s.to [])⟩
   refine .skip (.region (.q z (.q z (.q z (.nil ?_)))))
   cases h
   exact ⟨z,sb z,s.tk [0]⟩
  refine .exit ?_
  cases h
  exact ⟨by simp,z,sb z,s.tk [0]⟩
 intro x E W hJ
 rcases y3 with o3 | o4
 ·have h:=dG h
  obtain ⟨rfl,hF⟩:=hJ
  refine ⟨_,λ_ _ h=>h,?_⟩
  cases h
  exact hF
 have h:=dH h
 obtain ⟨rfl,hE,s⟩:=hJ
 refine ⟨_,hE.sub,?_⟩
 obtain rfl:=o9 h
 exact .g (.qn z (.ret (aa () (rt z rn) z (s.to []))))
def l7 (F:Expr->Int->Option ((List ab))):Prop:=∀ {a0:Expr} {a1:Int} {bC:Hd} {w:World} {r:(List ab)} (h:F a0 a1=some r) (ax:RO w bC 91 3 aK a0.Args) , CL 237 #[.agg #[vi a0.Op,vi a0.N,sv bC],vi a1] w (Ret No w (λs:Hd=>(sv s)) (λs=>[ac (sv s) 70 5 ae r]))
theorem vO {k:Nat} {jt:Expr->Int->Option ((List ab))} (pa:l7 jt):l7 (fd k jt):=by
 intro a0 a1 bC w r h ax
 unfold fd at h
 refine ao func237 z z ?_
 have s:=Sep.start w
 refine .g (.c (.box s z z ?_))
 intro g1 W s
 refine .qn z (.seq (.g (.s (fa f91_0 z z z) z (.s (ld t3 s z z z z z) z (.q z (.nil ?_))))))
 refine .cs z h ?_ ?_ <;> intro h
 ·refine .g (.q z (.s (fa f91_1 z z z) z (.s (ld t3 s z z z z z) z (.s (bs T.s70 z z) z (.c (.liv [(ab.mk 1 a1 0 0 a0.N)] ae u38 t70 s z z z z ?_ z (λ_=>z)))))))
  intro v1 W s
  cases h
  exact .qn z (.ret (aa v1 (rt z rn) z (s.tk [0])))
 refine .skip (.seq (.g (.s (fa f91_0 z z z) z (.s (ld t3 s z z z z z) z (.q z (.nil ?_))))))
 refine .cs z h ?_ ?_ <;> intro h
 ·refine .g (.q z (.s (fa f91_1 z z z) z (.s (ld t3 s z z z z z) z (.s (bs T.s70 z z) z (.c (.liv [(ab.mk 2 a1 a0.N 0 0)] ae u38 t70 s z z z z ?_ z (λ_=>z)))))))
  intro v2 W s
  cases h
  exact .qn z (.ret (aa v2 (rt z rn) z (s.tk [0])))
 refine .skip (.seq (.rk 15 s [0] T.mix ?_))
 intro W s
 have t:=s.to [0]
 refine .ts' 0 z (λW t=>fa f91_2 z z z) t z (.ts' 1 z (λW t=>ld t89 t z z z z z) t z (bv h λx1 hx1 h=>?_))
 obtain ⟨k1,hd,hck1⟩:=RV.el2 ax hx1
 have hd1:=j7 (cH _) hd
 obtain ⟨k1,rfl,hd2⟩:=bQ ax z hd1
 obtain ⟨k1,rfl,hd3⟩:=bQ ax z hd2
 obtain ⟨v3,k1,rfl,q1,hd4⟩:=cU ax hd3
 obtain rfl:=mO ax hd4
 refine .ts' 2 z (λW t=>ixv (s.keep ax) hx1 u89 t91 z z z) t z (.ts' 3 z (λW t=>lde (hck1 _ t.agree) t91 z z z z z) t z (.tp' 4 z z t (.ts' 6 z (λW t=>fa f91_2 z z z) t z (.ts' 7 z (λW t=>ld t89 t z z z z z) t z (bv h λx2 hx2 h=>?_)))))
 obtain ⟨k2,hd,hck2⟩:=RV.el2 ax hx2
 have hd1:=j7 (cH _) hd
 obtain ⟨k2,rfl,hd2⟩:=bQ ax z hd1
 obtain ⟨k2,rfl,hd3⟩:=bQ ax z hd2
 obtain ⟨v4,k2,rfl,q2,hd4⟩:=cU ax hd3
 obtain rfl:=mO ax hd4
 refine .ts' 8 z (λW t=>ixv (s.keep ax) hx2 u89 t91 z z z) t z (.ts' 9 z (λW t=>lde (hck2 _ t.agree) t91 z z z z z) t z (.tp' 10 z z t (.tp' 11 z z t (bv h λy1 hy1 h=>.by1 5 z (.cV s func237 (pa hy1 (s.keep (q1 _ ax))) z z ?_)))))
 intro v5 W s
 refine s.an [1] λt=>bv h λy2 hy2 h=>.by1 12 z (.cV s func237 (pa hy2 (s.keep (q2 _ ax))) z z ?_)
 intro v6 W s
 refine s.an [2] λt=>bv h λr1 hr1 h=>?_
 have hT0:=s.p1
 refine .by1 13 z (.av hr1 hT0 hT0.p1.lv (λ_=>z) u38 t70 z z z ?_)
 intro v7 W s
 refine s.an [2] λt=>.tp' 14 z z t (.done (.g (.q z (.q z (.q z (.q z (.q z (.s (fa f91_0 z z z) z (.s (ld t3 s.p2 z z z z z) z (.s (bs T.s70 z z) z (.c (.liv [(ab.mk 3 a1 a1 (w64 (a1+1)) a0.Op)] ae u38 t70 s z z z z ?_ z (λ_=>z)))))))))))))
 intro v8 W s
 refine bv h λr2 hr2 h=>?_
 have hT0:=s.p1
 refine .c (.av hr2 hT0 hT0.p1.lv (λ_=>z) u38 t70 z z z ?_)
 intro v9 W s
 obtain rfl:=o9 h
 exact .qn z (.ret (aa v9 (rt z rn) z (s.tk [0])))
theorem qG (k:Nat):l7 (cD k):=by
  induction k with
  | zero=>exact by intro a0 a1 bC w r h ax; exact no h
  | succ k ih=>exact vO (k:=k) ih
theorem mW {k:Nat}:l7 (cD k):=(qG k)
def fp (F:List ah->Int->Option ((List ab))):Prop:=∀ {a0:List ah} {a1:Int} {v_0:Hd} {w:World} {r:(List ab)} (h:F a0 a1=some r) (q_0:RO w v_0 95 8 ak a0) , CL 152 #[sv v_0,vi a1] w (Ret No w (λs:Hd=>(sv s)) (λs=>[ac (sv s) 70 5 ae r]))
def gW (F:ah->Int->Option ((List ab))):Prop:=∀ {a0:ah} {a1:Int} {ay:Hd} {ba:Hd} {bc:Hd} {w:World} {r:(List ab)} (h:F a0 a1=some r) (au:RO w ay 91 3 aK a0.Expr.Args) (be:RO w ba 95 8 ak a0.Body) (aZ:RO w bc 95 8 ak a0.Else) , CL 195 #[.agg #[vi a0.Kind,vi a0.Var,vi a0.Box,vi a0.Expr.Op,vi a0.Expr.N,sv ay,sv ba,sv bc],vi a1] w (Ret No w (λs:Hd=>(sv s)) (λs=>[ac (sv s) 70 5 ae r]))
def j3 (F:ah->Int->Option ((List ab))):Prop:=∀ {a0:ah} {a1:Int} {ay:Hd} {ba:Hd} {bc:Hd} {w:World} {r:(List ab)} (h:F a0 a1=some r) (au:RO w ay 91 3 aK a0.Expr.Args) (be:RO w ba 95 8 ak a0.Body) (aZ:RO w bc 95 8 ak a0.Else) , CL 238 #[.agg #[vi a0.Kind,vi a0.Var,vi a0.Box,vi a0.Expr.Op,vi a0.Expr.N,sv ay,sv ba,sv bc],vi a1] w (Ret No w (λs:Hd=>(sv s)) (λs=>[ac (sv s) 70 5 ae r]))
def fG (F:ah->Int->Option ((List ab))):Prop:=∀ {a0:ah} {a1:Int} {ay:Hd} {ba:Hd} {bc:Hd} {w:World} {r:(List ab)} (h:F a0 a1=some r) (au:RO w ay 91 3 aK a0.Expr.Args) (be:RO w ba 95 8 ak a0.Body) (aZ:RO w bc 95 8 ak a0.Else) , CL 239 #[.agg #[vi a0.Kind,vi a0.Var,vi a0.Box,vi a0.Expr.Op,vi a0.Expr.N,sv ay,sv ba,sv bc],vi a1] w (Ret No w (λs:Hd=>(sv s)) (λs=>[ac (sv s) 70 5 ae r]))
theorem vP {k:Nat} {bh:List ah->Int->Option ((List ab))} {bg:ah->Int->Option ((List ab))} {bI:ah->Int->Option ((List ab))} {bj:ah->Int->Option ((List ab))} (fH:fp bh) (kT:gW bg) (mC:j3 bI) (j4:fG bj):fp (ff k bh bg bI bj):=by
 intro a0 a1 v_0 w r h q_0
 unfold ff at h
 refine ao func152 z z ?_
 have s:=Sep.start w
 refine .g (.qn z (.g (.c (.liv [] ae u38 t70 s z z z z ?_ z (λ_=>z)))))
 intro v1 W s
 refine .qn z (.seq (.g (.qn z (.block (bv h λy1 hy1 h=>?_)))))
 refine .via (.iter (λs1 E' W'=>∃ (v4:Hd),al E' [(0,(sv v_0)),(1,vi a1),(5,(sv v4)),(6,vi s1.2)]/\Sep No w W' [ac (sv v4) 70 5 ae s1.1]) (λy2 x E' W'=>x=.exit 0/\∃ (v5:Hd),al E' [(5,(sv v5))]/\Sep No w W' [ac (sv v5) 70 5 ae y2]) hy1 ⟨v1,sb z,s.tk [0]⟩ ?_) ?_
 ·intro s1 y3 E W h hI
  obtain ⟨v3,hE,s⟩:=hI
  refine CW.sub hE ?_
  unfold kJ at h
  refine .seq (.g (.q z (.q z (.s (aJ (s.keep q_0) u93 z z) z (.q z (.nil ?_))))))
  refine .cs z h ?_ ?_ <;> intro h
  ·refine .skip (.seq (.block (.region (.q z (.q z (.q z (bv h λx1 hx1 h=>?_)))))))
   obtain ⟨k1,hd,hck1⟩:=RV.el2 q_0 hx1
   have hd1:=j7 (eI _) hd
   obtain ⟨k1,rfl,hd2⟩:=bQ q_0 z hd1
   obtain ⟨k1,rfl,hd3⟩:=bQ q_0 z hd2
   obtain ⟨k1,rfl,hd4⟩:=bQ q_0 z hd3
   have hd5:=j7 (cH _) hd4
   obtain ⟨k1,rfl,hd6⟩:=bQ q_0 z hd5
   obtain ⟨k1,rfl,hd7⟩:=bQ q_0 z hd6
   obtain ⟨v6,k1,rfl,q5,hd8⟩:=cU q_0 hd7
   obtain ⟨v7,k1,rfl,q6,hd9⟩:=cU q_0 hd8
   obtain ⟨v8,k1,rfl,q7,hd10⟩:=cU q_0 hd9
   obtain rfl:=mO q_0 hd10
   refine .s (ixv (s.keep q_0) hx1 u93 t95 z z z) z (.s (lde (hck1 _ s.agree) t95 z z z z z) z (.q z (.q z (.s (aJ s.lv u38 z z) z (.q z (bv h λy4 hy4 h=>.c (.cV s func195 (kT hy4 (s.keep (q5 _ q_0)) (s.keep (q6 _ q_0)) (s.keep (q7 _ q_0))) z z ?_)))))))
   intro v9 W s
   refine bv h λr1 hr1 h=>?_
   have hT0:=s.p1
   refine .c (.av hr1 hT0 hT0.p1.lv (λ_=>z) u38 t70 z z z ?_)
   intro v10 W s
   refine .qn z (.region (.q z (.q z (.q z (.nil ?_)))))
   cases h
   exact ⟨z,v10,sb z,s.tk [0]⟩
  refine .exit ?_
  cases h
  exact ⟨by simp,z,v3,sb z,s.tk [0]⟩
 intro x E W hJ
 obtain ⟨rfl,v11,hE,s⟩:=hJ
 refine ⟨_,hE.sub,?_⟩
 obtain rfl:=o9 h
 exact .g (.q z (.qn z (.ret (aa v11 (rt z rn) z (s.tk [0])))))
theorem vQ {k:Nat} {bh:List ah->Int->Option ((List ab))} {bg:ah->Int->Option ((List ab))} {bI:ah->Int->Option ((List ab))} {bj:ah->Int->Option ((List ab))} (fH:fp bh) (kT:gW bg) (mC:j3 bI) (j4:fG bj):gW (cY k bh bg bI bj):=by
 intro a0 a1 ay ba bc w r h au be aZ
 unfold cY at h
 refine ao func195 z z ?_
 have s:=Sep.start w
 refine .g (.c (.box s z z ?_))
 intro g1 W s
 refine .qn z (.g (.s (fa f95_3 z z z) z (.s (ld t91 s z z z z z) z (bv h λy1 hy1 h=>.c (.cV s func237 (mW hy1 (s.keep au)) z z ?_)))))
 intro v1 W s
 refine .qn z (.seq (.g (.s (fa f95_0 z z z) z (.s (ld t3 s.p1 z z z z z) z (.nil (.block (.g (.q z (.q z (.nil ?_))))))))))
 refine .cs z h ?_ ?_ <;> intro h
 ·refine .g (.s (ld t95 s.p1 z z z z z) z (.q z (bv h λy2 hy2 h=>.c (.cV s func238 (mC hy2 (s.keep au) (s.keep be) (s.keep aZ)) z z ?_))))
  intro v2 W s
  obtain rfl:=o9 h
  exact .qn z (.ret (aa v2 (rt z rn) z (s.tk [0])))
 refine .g (.q z (.q z (.nil ?_)))
 refine .cs z h ?_ ?_ <;> intro h
 ·refine .g (.s (ld t95 s.p1 z z z z z) z (.q z (bv h λy3 hy3 h=>.c (.cV s func239 (j4 hy3 (s.keep au) (s.keep be) (s.keep aZ)) z z ?_))))
  intro v3 W s
  obtain rfl:=o9 h
  exact .qn z (.ret (aa v3 (rt z rn) z (s.tk [0])))
 refine .g (.q z (.q z (.nil ?_)))
 refine .cs z h ?_ ?_ <;> intro h
 ·refine .g (.q z (.s (fa f95_1 z z z) z (.s (ld t3 s.p1 z z z z z) z (.s (bs T.s70 z z) z (.c (.liv [(ab.mk 2 a0.Var 4 0 0)] ae u38 t70 s z z z z ?_ z (λ_=>z)))))))
  intro v4 W s
  refine bv h λr1 hr1 h=>?_
  have hT0:=s.p1
  refine .c (.av hr1 hT0 hT0.p1.lv (λ_=>z) u38 t70 z z z ?_)
  intro v5 W s
  obtain rfl:=o9 h
  exact .qn z (.ret (aa v5 (rt z rn) z (s.tk [0])))
 refine .g (.q z (.q z (.nil ?_)))
 refine .cs z h ?_ ?_ <;> intro h
 ·refine .g (.q z (.s (fa f95_2 z z z) z (.s (ld t3 s.p1 z z z z z) z (.s (bs T.s70 z z) z (.c (.liv [(ab.mk 6 0 4 0 a0.Box)] ae u38 t70 s z z z z ?_ z (λ_=>z)))))))
  intro v6 W s
  refine bv h λr2 hr2 h=>?_
  have hT0:=s.p1
  refine .c (.av hr2 hT0 hT0.p1.lv (λ_=>z) u38 t70 z z z ?_)
  intro v7 W s
  obtain rfl:=o9 h
  exact .qn z (.ret (aa v7 (rt z rn) z (s.tk [0])))
 refine .g (.q z (.q z (.nil ?_)))
 refine .cs z h ?_ ?_ <;> intro h
 ·refine .g (.q z (.s (bs T.s70 z z) z (.c (.liv [(ab.mk 9 0 4 0 0)] ae u38 t70 s z z z z ?_ z (λ_=>z)))))
  intro v8 W s
  refine bv h λr3 hr3 h=>?_
  have hT0:=s.p1
  refine .c (.av hr3 hT0 hT0.p1.lv (λ_=>z) u38 t70 z z z ?_)
  intro v9 W s
  obtain rfl:=o9 h
  exact .qn z (.ret (aa v9 (rt z rn) z (s.tk [0])))
 refine .g (.q z (.q z (.nil ?_)))
 refine .cs z h ?_ ?_ <;> intro h
 ·refine .g (.s (fa f95_1 z z z) z (.s (ld t3 s.p1 z z z z z) z (.s (fa f95_2 z z z) z (.s (ld t3 s.p1 z z z z z) z (.s (bs T.s70 z z) z (.c (.liv [(ab.mk 7 a0.Var 0 0 a0.Box)] ae u38 t70 s z z z z ?_ z (λ_=>z))))))))
  intro v10 W s
  cases h
  exact .qn z (.ret (aa v10 (rt z rn) z (s.tk [0])))
 refine .skip (.g (.s (bs T.s70 z z) z (.c (.liv [(ab.mk 8 0 0 0 0)] ae u38 t70 s z z z z ?_ z (λ_=>z)))))
 intro v11 W s
 cases h
 exact .qn z (.ret (aa v11 (rt z rn) z (s.tk [0])))
theorem xe {k:Nat} {bh:List ah->Int->Option ((List ab))} {bg:ah->Int->Option ((List ab))} {bI:ah->Int->Option ((List ab))} {bj:ah->Int->Option ((List ab))} (fH:fp bh) (kT:gW bg) (mC:j3 bI) (j4:fG bj):j3 (ie k bh bg bI bj):=by
 intro a0 a1 ay ba bc w r h au be aZ
 unfold ie at h
 refine ao func238 z z ?_
 have s:=Sep.start w
 refine .g (.c (.box s z z ?_))
 intro g1 W s
 refine .qn z (.g (.s (fa f95_3 z z z) z (.s (ld t91 s z z z z z) z (bv h λy1 hy1 h=>.c (.cV s func237 (mW hy1 (s.keep au)) z z ?_)))))
 intro v1 W s
 refine .qn z (.g (.s (fa f95_4 z z z) z (.s (ld t93 s.p1 z z z z z) z (.q z (.q z (.s (aJ s.lv u38 z z) z (.q z (.q z (bv h λy2 hy2 h=>.c (.cV s func152 (fH hy2 (s.keep be)) z z ?_))))))))))
 intro v2 W s
 refine .qn z (.g (.q z (.q z (.s (aJ s.p1.lv u38 z z) z (.q z (.q z (.q z (.s (aJ s.lv u38 z z) z (.q z (.qn z (.seq (.g (.s (fa f95_5 z z z) z (.s (ld t93 s.p2 z z z z z) z (.s (aJ (s.keep aZ) u93 z z) z (.q z (.nil ?_)))))))))))))))))
 refine .cs z h ?_ ?_ <;> intro h
 ·refine .g (.q z (.q z (.s (bs T.s70 z z) z (.c (.liv [(ab.mk 5 0 4 0 (w64 ((w64 ((w64 (a1+(y1.length:Int)))+1))+(y2.length:Int))))] ae u38 t70 s z z z z ?_ z (λ_=>z))))))
  intro v3 W s
  refine bv h λr1 hr1 h=>?_
  have hT0:=s.p2
  refine .c (.av hr1 hT0 hT0.p1.lv (λ_=>z) u38 t70 z z z ?_)
  intro v4 W s
  refine .qn z (.g (.q z (.q z (bv h λr2 hr2 h=>?_))))
  have hT0:=s
  refine .c (.av hr2 hT0 hT0.p2.lv (λ_=>z) u38 t70 z z z ?_)
  intro v5 W s
  obtain rfl:=o9 h
  exact .qn z (.ret (aa v5 (rt z rn) z (s.tk [0])))
 refine .skip (.g (.s (fa f95_5 z z z) z (.s (ld t93 s.p2 z z z z z) z (.q z (.q z (bv h λy3 hy3 h=>.c (.cV s func152 (fH hy3 (s.keep aZ)) z z ?_)))))))
 intro v6 W s
 refine .qn z (.g (.q z (.q z (.q z (.s (bs T.s70 z z) z (.c (.liv [(ab.mk 5 0 4 0 (w64 ((w64 ((w64 ((w64 (a1+(y1.length:Int)))+1))+(y2.length:Int)))+1)))] ae u38 t70 s z z z z ?_ z (λ_=>z))))))))
 intro v7 W s
 refine bv h λr3 hr3 h=>?_
 have hT0:=s.p3
 refine .c (.av hr3 hT0 hT0.p1.lv (λ_=>z) u38 t70 z z z ?_)
 intro v8 W s
 refine .qn z (.g (.q z (.q z (bv h λr4 hr4 h=>?_))))
 have hT0:=s
 refine .c (.av hr4 hT0 hT0.p3.lv (λ_=>z) u38 t70 z z z ?_)
 intro v9 W s
 refine .qn z (.g (.q z (.q z (.q z (.q z (.s (aJ s.p2.lv u38 z z) z (.q z (.s (bs T.s70 z z) z (.c (.liv [(ab.mk 4 0 0 0 (w64 ((w64 ((w64 ((w64 ((w64 (a1+(y1.length:Int)))+1))+(y2.length:Int)))+1))+(y3.length:Int))))] ae u38 t70 s z z z z ?_ z (λ_=>z)))))))))))
 intro v10 W s
 refine bv h λr5 hr5 h=>?_
 have hT0:=s.p1
 refine .c (.av hr5 hT0 hT0.p1.lv (λ_=>z) u38 t70 z z z ?_)
 intro v11 W s
 refine .qn z (.g (.q z (.q z (bv h λr6 hr6 h=>?_))))
 have hT0:=s
 refine .c (.av hr6 hT0 hT0.p3.lv (λ_=>z) u38 t70 z z z ?_)
 intro v12 W s
 obtain rfl:=o9 h
 exact .qn z (.ret (aa v12 (rt z rn) z (s.tk [0])))
theorem us {k:Nat} {bh:List ah->Int->Option ((List ab))} {bg:ah->Int->Option ((List ab))} {bI:ah->Int->Option ((List ab))} {bj:ah->Int->Option ((List ab))} (fH:fp bh) (kT:gW bg) (mC:j3 bI) (j4:fG bj):fG (dW k bh bg bI bj):=by
 intro a0 a1 ay ba bc w r h au be aZ
 unfold dW at h
 refine ao func239 z z ?_
 have s:=Sep.start w
 refine .g (.c (.box s z z ?_))
 intro g1 W s
 refine .qn z (.g (.s (fa f95_3 z z z) z (.s (ld t91 s z z z z z) z (bv h λy1 hy1 h=>.c (.cV s func237 (mW hy1 (s.keep au)) z z ?_)))))
 intro v1 W s
 refine .qn z (.g (.s (fa f95_4 z z z) z (.s (ld t93 s.p1 z z z z z) z (.q z (.q z (.s (aJ s.lv u38 z z) z (.q z (.q z (bv h λy2 hy2 h=>.c (.cV s func152 (fH hy2 (s.keep be)) z z ?_))))))))))
 intro v2 W s
 refine .qn z (.g (.q z (.q z (.q z (.s (aJ s.p1.lv u38 z z) z (.q z (.q z (.q z (.s (aJ s.lv u38 z z) z (.q z (.q z (.s (bs T.s70 z z) z (.c (.liv [(ab.mk 5 0 4 0 (w64 ((w64 ((w64 ((w64 (a1+(y1.length:Int)))+1))+(y2.length:Int)))+1)))] ae u38 t70 s z z z z ?_ z (λ_=>z)))))))))))))))
 intro v3 W s
 refine bv h λr1 hr1 h=>?_
 have hT0:=s.p2
 refine .c (.av hr1 hT0 hT0.p1.lv (λ_=>z) u38 t70 z z z ?_)
 intro v4 W s
 refine .qn z (.g (.q z (.q z (bv h λr2 hr2 h=>?_))))
 have hT0:=s
 refine .c (.av hr2 hT0 hT0.p2.lv (λ_=>z) u38 t70 z z z ?_)
 intro v5 W s
 refine .qn z (.g (.q z (.q z (.s (bs T.s70 z z) z (.c (.liv [(ab.mk 4 0 0 0 a1)] ae u38 t70 s z z z z ?_ z (λ_=>z)))))))
 intro v6 W s
 refine bv h λr3 hr3 h=>?_
 have hT0:=s.p1
 refine .c (.av hr3 hT0 hT0.p1.lv (λ_=>z) u38 t70 z z z ?_)
 intro v7 W s
 obtain rfl:=o9 h
 exact .qn z (.ret (aa v7 (rt z rn) z (s.tk [0])))
theorem qH (k:Nat):fp (bO k)/\gW (cj k)/\j3 (f7 k)/\fG (cT k):=by
  induction k with
  | zero=>exact ⟨by intro a0 a1 v_0 w r h q_0; exact no h,by intro a0 a1 ay ba bc w r h au be aZ; exact no h,by intro a0 a1 ay ba bc w r h au be aZ; exact no h,by intro a0 a1 ay ba bc w r h au be aZ; exact no h⟩
  | succ k ih=>exact ⟨vP (k:=k) ih.1 ih.2.1 ih.2.2.1 ih.2.2.2,vQ (k:=k) ih.1 ih.2.1 ih.2.2.1 ih.2.2.2,xe (k:=k) ih.1 ih.2.1 ih.2.2.1 ih.2.2.2,us (k:=k) ih.1 ih.2.1 ih.2.2.1 ih.2.2.2⟩
theorem ut {k:Nat}:fp (bO k):=(qH k).1
theorem qI {k:Nat} {a0:List ah} {v_0:Hd} {w:World} {r:(List ab)×Bool} (h:cK k a0=some r) (q_0:RO w v_0 95 8 ak a0):CL 104 #[sv v_0] w (Ret No w (λs:Hd=>.tuple #[sv s,.bool r.2]) (λs=>[ac (sv s) 70 5 ae r.1])):=by
 unfold cK at h
 refine ao func104 z z ?_
 have s:=Sep.start w
 refine .g (.q z (.qn z (.seq (.g (.q z (bv h λy1 hy1 h=>.c (.cO s func150 (nI hy1 (s.keep q_0)) z z ?_)))))))
 intro W s
 refine .q z (.nil ?_)
 refine .cs z h ?_ ?_ <;> intro h
 ·refine .g (.c (.liv [] ae u38 t70 s z z z z ?_ z (λ_=>z)))
  intro v1 W s
  cases h
  exact .q z (.qn z (.ret (aa (vs:=[_,_]) v1 (rt z (rt z rn)) z (s.tk [0]))))
 refine .skip (.g (.q z (bv h λy2 hy2 h=>.c (.cV s func152 (ut hy2 (s.keep q_0)) z z ?_))))
 intro v2 W s
 refine .s (bs T.s70 z z) z (.c (.liv [(ab.mk 10 0 0 0 0)] ae u38 t70 s z z z z ?_ z (λ_=>z)))
 intro v3 W s
 refine bv h λr1 hr1 h=>?_
 have hT0:=s.p1
 refine .c (.av hr1 hT0 hT0.p1.lv (λ_=>z) u38 t70 z z z ?_)
 intro v4 W s
 cases h
 exact .q z (.qn z (.ret (aa (vs:=[_,_]) v4 (rt z (rt z rn)) z (s.tk [0]))))
theorem oT {k:Nat} {a0:aA} {aN:Hd} {aG:Hd} {w:World} {r:(List (List ab))×Bool} (h:c9 k a0=some r) (cL:RO w aN 3 1 (D.int .i64) a0.Rooms) (aI:RO w aG 93 1 (λ(l:List ah)=>D.row 95 8 (l.map ak)) a0.Tasks):CL 59 #[.agg #[sv aN,sv aG]] w (Ret No w (λs:Hd=>.tuple #[sv s,.bool r.2]) (λs=>[ac (sv s) 38 1 (λ(l:List ab)=>D.row 70 5 (l.map ae)) r.1])):=by
 unfold c9 at h
 refine ao func59 z z ?_
 have s:=Sep.start w
 refine .g (.c (.box s z z ?_))
 intro g1 W s
 refine .q z (.qn z (.g (.c (.lg (L1:=[]) [] (λ(l:List ab)=>D.row 70 5 (l.map ae)) u32 t38 (s.to [0]) z z z (.nil) ?_ z (λ_=>z)))))
 intro v1 W s
 refine .qn z (.seq (.g (.s (ld t26 s.p1 z z z z z) z (bv h λy1 hy1 h=>.c (.cO s func103 (qa hy1 (s.keep cL) (s.keep aI)) z z ?_)))))
 intro W s
 refine .q z (.nil ?_)
 refine .cs z h ?_ ?_ <;> intro h
 ·cases h
  exact .g (.q z (.q z (.qn z (.ret (aa (vs:=[_,_]) v1 (rt z (rt z rn)) z (s.tk [0]))))))
 refine .skip (.seq (.g (.qn z (.block (bv h λy2 hy2 h=>?_)))))
 refine .via (.iter (λs1 E' W'=>∃ (v4:Hd),al E' [(1,Pt g1),(4,(sv v4)),(5,vi s1.2)]/\Sep No w W' [.box g1 26 [sv aN,sv aG],ac (sv v4) 38 1 (λ(l:List ab)=>D.row 70 5 (l.map ae)) s1.1]) (λy3 x E' W'=>x=.exit 0/\∃ (v5:Hd),al E' [(4,(sv v5))]/\Sep No w W' [.box g1 26 [sv aN,sv aG],ac (sv v5) 38 1 (λ(l:List ab)=>D.row 70 5 (l.map ae)) y3]) hy2 ⟨v1,sb z,s.tk [1,0]⟩ ?_) ?_
 ·intro s1 y4 E W h hI
  obtain ⟨v3,hE,s⟩:=hI
  refine CW.sub hE ?_
  unfold eu at h
  refine .seq (.g (.q z (.s (fa f26_1 z z z) z (.s (ld t24 s z z z z z) z (.s (aJ (s.keep aI) u24 z z) z (.q z (.nil ?_)))))))
  refine .cs z h ?_ ?_ <;> intro h
  ·refine .skip (.seq (.block (.g (.s (fa f26_1 z z z) z (.s (ld t24 s z z z z z) z (.q z (bv h λx1 hx1 h=>?_)))))))
   obtain ⟨k1,hd,hck1⟩:=RV.el2 aI hx1
   obtain ⟨v6,k1,rfl,q5,hd1⟩:=cU aI hd
   obtain rfl:=mO aI hd1
   refine .s (ixv (s.keep aI) hx1 u24 t93 z z z) z (.s (lde (hck1 _ s.agree) t93 z z z z z) z (bv h λy5 hy5 h=>.c (.cV s func104 (qI hy5 (s.keep (q5 _ aI))) z z ?_)))
   intro v7 W s
   refine .q z (.q z (.q z (.q z (.qn z (.region (.q z (.q z (.c (.lg (L1:=[ac (sv v7) 70 5 ae y5.1]) [y5.1] (λ(l:List ab)=>D.row 70 5 (l.map ae)) u32 t38 (s.to [0,0,0]) z z z (.row (.nil)) ?_ z (λ_=>z))))))))))
   intro v8 W s
   refine bv h λr1 hr1 h=>.c (.appv hr1 (s.to [2,0,0]) u32 t38 z z z ?_)
   intro v9 W s
   refine .qn z (.region (.q z (.q z (.q z (.nil ?_)))))
   cases h
   exact ⟨z,v9,sb z,s.tk [1,0]⟩
  refine .exit ?_
  cases h
  exact ⟨by simp,z,v3,sb z,s.tk [0,0]⟩
 intro x E W hJ
 obtain ⟨rfl,v10,hE,s⟩:=hJ
 refine ⟨_,hE.sub,?_⟩
 cases h
 exact .g (.q z (.q z (.qn z (.ret (aa (vs:=[_,_]) v10 (rt z (rt z rn)) z (s.tk [1]))))))
theorem nJ {a0:Int} {a1:Bool} {w:World} {r:Bool} (h:ju a0 a1=some r):CL 249 #[vi a0,.bool a1] w (RU w (.bool r)):=by
 unfold ju at h
 refine ao func249 z z ?_
 have s:=Sep.start w
 refine .g (.qn z (.seq (.g (.q z (.nil ?_)))))
 refine .cs z h ?_ ?_ <;> intro h
 ·refine .g (.q z (bv h λy1 hy1 h=>.c (.cO s func32 (bk hy1) z z ?_)))
  intro W s
  obtain rfl:=o9 h
  exact .qn z (.ret (aa () (rt z rn) z (s.to [])))
 cases h
 exact .skip (.g (.q z (.q z (.qn z (.ret (aa () (rt z rn) z (s.to [])))))))
theorem cG {a0:ab} {a1:Bool} {a2:Bool} {a3:Bool} {w:World} {r:Bool} (h:cl a0 a1 a2 a3=some r):CL 201 #[.agg #[vi a0.Op,vi a0.Dst,vi a0.A,vi a0.B,vi a0.N],.bool a1,.bool a2,.bool a3] w (RU w (.bool r)):=by
 unfold cl at h
 refine ao func201 z z ?_
 have s:=Sep.start w
 refine .g (.c (.box s z z ?_))
 intro g1 W s
 refine .qn z (.g (.s (fa f70_1 z z z) z (.s (ld t3 s z z z z z) z (.q z (bv h λy1 hy1 h=>.c (.cO s func249 (nJ hy1) z z ?_))))))
 intro W s
 refine .q z (bv h λb1 hb1 h=>.cu 5 18 (b1) s ?_ ?_)
 ·refine .both (y1) (λb=>?_) (λb=>?_)
  ·have hg1:=b
   have h:=aC b hb1
   refine .g hg1 (.s (fa f70_2 z z z) z (.g hg1 (.s (ld t3 s z z z z z) z (.g hg1 (.q z (bv h λy2 hy2 h=>.g hg1 (.c (.cO s func249 (nJ hy2) z z ?_))))))))
   intro W s
   refine .s (pkt hg1 z z z) z ?_
   cases h
   exact .nil (ck 5 s)
  refine .xx b z (.xx b z (.xx b z (.xx b z ?_)))
  cases aD b hb1
  exact .s (pkf b z z z) z (.nil (ck 5 s))
 intro W s
 refine .q z (bv h λb2 hb2 h=>.cu 5 24 (b2) s ?_ ?_)
 ·refine .both (b1) (λb=>?_) (λb=>?_)
  ·have hg2:=b
   have h:=aC b hb2
   refine .g hg2 (.s (fa f70_3 z z z) z (.g hg2 (.s (ld t3 s z z z z z) z (.g hg2 (.q z (bv h λy3 hy3 h=>.g hg2 (.c (.cO s func249 (nJ hy3) z z ?_))))))))
   intro W s
   refine .s (pkt hg2 z z z) z ?_
   cases h
   exact .nil (ck 5 s)
  refine .xx b z (.xx b z (.xx b z (.xx b z ?_)))
  cases aD b hb2
  exact .s (pkf b z z z) z (.nil (ck 5 s))
 intro W s
 obtain rfl:=o9 h
 exact .qn z (.ret (aa () (rt z rn) z (s.to [])))
theorem jc {a0:Int} {w:World} {r:Bool} (h:bR a0=some r):CL 202 #[vi a0] w (RU w (.bool r)):=by
 unfold bR at h
 refine ao func202 z z ?_
 have s:=Sep.start w
 refine .g (.qn z (.g (.q z (bv h λy1 hy1 h=>.c (.cO s func32 (bk hy1) z z ?_)))))
 intro W s
 obtain rfl:=o9 h
 exact .qn z (.ret (aa () (rt z rn) z (s.to [])))
end
noncomputable section
theorem l8 {a0:ab} {a1:Int} {w:World} {r:Bool} (h:fg a0 a1=some r):CL 154 #[.agg #[vi a0.Op,vi a0.Dst,vi a0.A,vi a0.B,vi a0.N],vi a1] w (RU w (.bool r)):=by
 unfold fg at h
 refine ao func154 z z ?_
 have s:=Sep.start w
 refine .g (.c (.box s z z ?_))
 intro g1 W s
 refine .qn z (.seq (.g (.s (fa f70_0 z z z) z (.s (ld t3 s z z z z z) z (.nil (.block (.g (.q z (.q z (.nil ?_))))))))))
 refine .cs z h ?_ ?_ <;> intro h
 ·refine .g (.s (ld t70 s z z z z z) z (bv h λy1 hy1 h=>.c (.cO s func201 (cG hy1) z z ?_)))
  intro W s
  refine .q z (bv h λb1 hb1 h=>.cu 4 15 (b1) s ?_ ?_)
  ·refine .both (y1) (λb=>?_) (λb=>?_)
   ·have hg1:=b
    have h:=aC b hb1
    refine .g hg1 (.s (fa f70_4 z z z) z (.g hg1 (.s (ld t3 s z z z z z) z (bv h λy2 hy2 h=>.g hg1 (.c (.cO s func202 (jc hy2) z z ?_))))))
    intro W s
    refine .s (pkt hg1 z z z) z ?_
    cases h
    exact .nil (ck 4 s)
   refine .xx b z (.xx b z (.xx b z ?_))
   cases aD b hb1
   exact .s (pkf b z z z) z (.nil (ck 4 s))
  intro W s
  obtain rfl:=o9 h
  exact .qn z (.ret (aa () (rt z rn) z (s.to [])))
 refine .g (.q z (.q z (.nil ?_)))
 refine .cs z h ?_ ?_ <;> intro h
 ·refine .g (.s (ld t70 s z z z z z) z (bv h λy3 hy3 h=>.c (.cO s func201 (cG hy3) z z ?_)))
  intro W s
  refine .q z (.cu 4 24 (y3&&(a0.N==0)) s ?_ ?_)
  ·refine .both (y3) (λb=>?_) (λb=>?_)
   ·have hg2:=b
    exact .g hg2 (.s (fa f70_4 z z z) z (.g hg2 (.s (ld t3 s z z z z z) z (.g hg2 (.q z (.s (pkt hg2 z z z) z (.nil (ck 4 s z (bp hg2)))))))))
   exact .xx b z (.xx b z (.xx b z (.s (pkf b z z z) z (.nil (ck 4 s z (bq b))))))
  intro W s
  cases h
  exact .qn z (.ret (aa () (rt z rn) z (s.to [])))
 refine .g (.q z (.q z (.nil ?_)))
 refine .cs z h ?_ ?_ <;> intro h
 ·refine .g (.s (ld t70 s z z z z z) z (bv h λy4 hy4 h=>.c (.cO s func201 (cG hy4) z z ?_)))
  intro W s
  refine .q z (bv h λb2 hb2 h=>.cu 4 33 (b2) s ?_ ?_)
  ·refine .both (y4) (λb=>?_) (λb=>?_)
   ·have hg3:=b
    have h:=aC b hb2
    refine .g hg3 (.s (fa f70_4 z z z) z (.g hg3 (.s (ld t3 s z z z z z) z (bv h λy5 hy5 h=>.g hg3 (.c (.cO s func203 (mV hy5) z z ?_))))))
    intro W s
    refine .s (pkt hg3 z z z) z ?_
    cases h
    exact .nil (ck 4 s)
   refine .xx b z (.xx b z (.xx b z ?_))
   cases aD b hb2
   exact .s (pkf b z z z) z (.nil (ck 4 s))
  intro W s
  obtain rfl:=o9 h
  exact .qn z (.ret (aa () (rt z rn) z (s.to [])))
 refine .g (.q z (.q z (.nil ?_)))
 refine .cs z h ?_ ?_ <;> intro h
 ·refine .g (.s (ld t70 s z z z z z) z (bv h λy6 hy6 h=>.c (.cO s func201 (cG hy6) z z ?_)))
  intro W s
  refine .q z (.cu 4 42 (y6&&(decide (a0.N>=0))) s ?_ ?_)
  ·refine .both (y6) (λb=>?_) (λb=>?_)
   ·have hg4:=b
    exact .g hg4 (.s (fa f70_4 z z z) z (.g hg4 (.s (ld t3 s z z z z z) z (.g hg4 (.q z (.s (pkt hg4 z z z) z (.nil (ck 4 s z (bp hg4)))))))))
   exact .xx b z (.xx b z (.xx b z (.s (pkf b z z z) z (.nil (ck 4 s z (bq b))))))
  intro W s
  refine .q z (.cu 5 48 ((y6&&(decide (a0.N>=0)))&&(decide (a0.N<a1))) s ?_ ?_)
  ·refine .both (y6&&(decide (a0.N>=0))) (λb=>?_) (λb=>?_)
   ·have hg5:=b
    exact .g hg5 (.s (fa f70_4 z z z) z (.g hg5 (.s (ld t3 s z z z z z) z (.g hg5 (.q z (.g hg5 (.q z (.s (pkt hg5 z z z) z (.nil (ck 5 s z (bp hg5)))))))))))
   exact .xx b z (.xx b z (.xx b z (.xx b z (.s (pkf b z z z) z (.nil (ck 5 s z (bq b)))))))
  intro W s
  cases h
  exact .qn z (.ret (aa () (rt z rn) z (s.to [])))
 refine .g (.q z (.q z (.nil ?_)))
 refine .cs z h ?_ ?_ <;> intro h
 ·refine .g (.s (ld t70 s z z z z z) z (bv h λy7 hy7 h=>.c (.cO s func201 (cG hy7) z z ?_)))
  intro W s
  refine .q z (.cu 4 57 (y7&&(decide (a0.N>=0))) s ?_ ?_)
  ·refine .both (y7) (λb=>?_) (λb=>?_)
   ·have hg6:=b
    exact .g hg6 (.s (fa f70_4 z z z) z (.g hg6 (.s (ld t3 s z z z z z) z (.g hg6 (.q z (.s (pkt hg6 z z z) z (.nil (ck 4 s z (bp hg6)))))))))
   exact .xx b z (.xx b z (.xx b z (.s (pkf b z z z) z (.nil (ck 4 s z (bq b))))))
  intro W s
  refine .q z (.cu 5 63 ((y7&&(decide (a0.N>=0)))&&(decide (a0.N<a1))) s ?_ ?_)
  ·refine .both (y7&&(decide (a0.N>=0))) (λb=>?_) (λb=>?_)
   ·have hg7:=b
    exact .g hg7 (.s (fa f70_4 z z z) z (.g hg7 (.s (ld t3 s z z z z z) z (.g hg7 (.q z (.g hg7 (.q z (.s (pkt hg7 z z z) z (.nil (ck 5 s z (bp hg7)))))))))))
   exact .xx b z (.xx b z (.xx b z (.xx b z (.s (pkf b z z z) z (.nil (ck 5 s z (bq b)))))))
  intro W s
  cases h
  exact .qn z (.ret (aa () (rt z rn) z (s.to [])))
 refine .g (.q z (.q z (.nil ?_)))
 refine .cs z h ?_ ?_ <;> intro h
 ·refine .g (.s (ld t70 s z z z z z) z (bv h λy8 hy8 h=>.c (.cO s func201 (cG hy8) z z ?_)))
  intro W s
  refine .q z (bv h λb3 hb3 h=>.cu 4 72 (b3) s ?_ ?_)
  ·refine .both (y8) (λb=>?_) (λb=>?_)
   ·have hg8:=b
    have h:=aC b hb3
    refine .g hg8 (.s (fa f70_4 z z z) z (.g hg8 (.s (ld t3 s z z z z z) z (bv h λy9 hy9 h=>.g hg8 (.c (.cO s func32 (bk hy9) z z ?_))))))
    intro W s
    refine .s (pkt hg8 z z z) z ?_
    cases h
    exact .nil (ck 4 s)
   refine .xx b z (.xx b z (.xx b z ?_))
   cases aD b hb3
   exact .s (pkf b z z z) z (.nil (ck 4 s))
  intro W s
  obtain rfl:=o9 h
  exact .qn z (.ret (aa () (rt z rn) z (s.to [])))
 refine .g (.q z (.q z (.nil ?_)))
 refine .cs z h ?_ ?_ <;> intro h
 ·refine .g (.s (ld t70 s z z z z z) z (bv h λy10 hy10 h=>.c (.cO s func201 (cG hy10) z z ?_)))
  intro W s
  refine .q z (bv h λb4 hb4 h=>.cu 4 81 (b4) s ?_ ?_)
  ·refine .both (y10) (λb=>?_) (λb=>?_)
   ·have hg9:=b
    have h:=aC b hb4
    refine .g hg9 (.s (fa f70_4 z z z) z (.g hg9 (.s (ld t3 s z z z z z) z (bv h λy11 hy11 h=>.g hg9 (.c (.cO s func32 (bk hy11) z z ?_))))))
    intro W s
    refine .s (pkt hg9 z z z) z ?_
    cases h
    exact .nil (ck 4 s)
   refine .xx b z (.xx b z (.xx b z ?_))
   cases aD b hb4
   exact .s (pkf b z z z) z (.nil (ck 4 s))
  intro W s
  obtain rfl:=o9 h
  exact .qn z (.ret (aa () (rt z rn) z (s.to [])))
 refine .g (.q z (.q z (.nil ?_)))
 refine .cs z h ?_ ?_ <;> intro h
 ·refine .g (.s (ld t70 s z z z z z) z (bv h λy12 hy12 h=>.c (.cO s func201 (cG hy12) z z ?_)))
  intro W s
  refine .q z (.cu 4 90 (y12&&(a0.N==0)) s ?_ ?_)
  ·refine .both (y12) (λb=>?_) (λb=>?_)
   ·have hg10:=b
    exact .g hg10 (.s (fa f70_4 z z z) z (.g hg10 (.s (ld t3 s z z z z z) z (.g hg10 (.q z (.s (pkt hg10 z z z) z (.nil (ck 4 s z (bp hg10)))))))))
   exact .xx b z (.xx b z (.xx b z (.s (pkf b z z z) z (.nil (ck 4 s z (bq b))))))
  intro W s
  cases h
  exact .qn z (.ret (aa () (rt z rn) z (s.to [])))
 refine bv h λy13 hy13 h=>?_
 refine .seq (CW.via (R':=λx E' W'=>x=.normal/\al E' [(2,Pt g1),(91,.bool y13)]/\Sep No w W' [.box g1 70 [vi a0.Op,vi a0.Dst,vi a0.A,vi a0.B,vi a0.N]]) ?_ ?_)
 ·have h:=hy13
  refine .g (.q z (.q z (.nil ?_)))
  refine .cs z h ?_ ?_ <;> intro h
  ·refine .skip ?_
   cases h
   exact ⟨z,sb z,s.tk [0]⟩
  refine .region (.q z (.q z (.nil ?_)))
  cases h
  exact ⟨z,sb z,s.tk [0]⟩
 intro x E W hJ
 obtain ⟨rfl,hE,s⟩:=hJ
 refine ⟨_,hE.sub,?_⟩
 refine .cs z h ?_ ?_ <;> intro h
 ·refine .g (.s (ld t70 s z z z z z) z (bv h λy14 hy14 h=>.c (.cO s func201 (cG hy14) z z ?_)))
  intro W s
  refine .q z (.cu 4 100 (y14&&(a0.N==0)) s ?_ ?_)
  ·refine .both (y14) (λb=>?_) (λb=>?_)
   ·have hg11:=b
    exact .g hg11 (.s (fa f70_4 z z z) z (.g hg11 (.s (ld t3 s z z z z z) z (.g hg11 (.q z (.s (pkt hg11 z z z) z (.nil (ck 4 s z (bp hg11)))))))))
   exact .xx b z (.xx b z (.xx b z (.s (pkf b z z z) z (.nil (ck 4 s z (bq b))))))
  intro W s
  cases h
  exact .qn z (.ret (aa () (rt z rn) z (s.to [])))
 obtain rfl:=o9 h
 exact .skip (.g (.qn z (.ret (aa () (rt z rn) z (s.to [])))))
def tD (w:World) (r:Bool):Env->World->Prop:=Fin Tryz.prog Tryz.f106 No w (λs:Unit=>.bool r) (λs=>[]) .ret
theorem bx {a0:List ab} {v_0:Hd} {w:World} {r:Bool} (h:aV a0=some r) (q_0:RO w v_0 70 5 ae a0):CL 106 #[sv v_0] w (RU w (.bool r)):=by
 unfold aV at h
 refine ao func106 z z ?_
 have s:=Sep.start w
 refine .g (.qn z (.g (.q z (.s (aJ (s.keep q_0) u38 z z) z (.qn z (.seq (.g (.q z (bv h λy1 hy1 h=>.c (.cO s func32 (bk hy1) z z ?_))))))))))
 intro W s
 refine .q z (.nil ?_)
 refine .cs z h ?_ ?_ <;> intro h
 ·obtain rfl:=o9 h
  exact .g (.qn z (.ret (aa () (rt z rn) z (s.to []))))
 refine .skip (.seq (.g (.qn z (.block (bv h λy2 hy2 h=>?_)))))
 refine .via (.iter (λs1 E' W'=>al E' [(0,(sv v_0)),(3,vi (a0.length:Int)),(4,vi s1)]/\Sep No w W' []) (λy3 x E' W'=>(match y3 with | .inl o1=>x=.ret/\tD w o1 E' W' | .inr o2=>x=.exit 0/\al E' [(0,(sv v_0)),(3,vi (a0.length:Int))]/\Sep No w W' [])) hy2 ⟨sb rfl,s.to [] rfl⟩ ?_) ?_
 ·intro s1 y4 E W h hI
  obtain ⟨hE,s⟩:=hI
  refine CW.sub hE ?_
  unfold lO at h
  refine .seq (.g (.q z (.q z (.q z (.nil ?_)))))
  refine .cs z h ?_ ?_ <;> intro h
  ·refine .skip (.seq (.block (.g (.q z (.q z (bv h λx1 hx1 h=>.s (ixv (s.keep q_0) hx1 u38 t70 z z z) z (.s (lde (RV.flat (s.keep q_0) hx1 z) t70 z z z z z) z (.q z (bv h λy5 hy5 h=>.c (.cO s func154 (l8 hy5) z z ?_))))))))))
   intro W s
   refine .q z (.nil ?_)
   refine .cs z h ?_ ?_ <;> intro h
   ·refine .g (.qn z (.ret ?_))
    cases h
    exact ⟨by simp,z,aa (vs:=[_]) () (rt z rn) z (s.to [])⟩
   refine .skip (.region (.q z (.q z (.q z (.nil ?_)))))
   cases h
   exact ⟨z,sb z,s.to []⟩
  refine .exit ?_
  cases h
  exact ⟨by simp,z,sb z,s.to []⟩
 intro x E W hJ
 rcases y2 with o3 | o4
 ·have h:=dG h
  obtain ⟨rfl,hF⟩:=hJ
  refine ⟨_,λ_ _ h=>h,?_⟩
  cases h
  exact hF
 have h:=dH h
 obtain ⟨rfl,hE,s⟩:=hJ
 refine ⟨_,hE.sub,?_⟩
 refine .g (.q z (.q z (.q z (bv h λx2 hx2 h=>.s (ixv (s.keep q_0) hx2 u38 t70 z z z) z (.s (fe f70_0 z z z) z (.s (lde (RV.flat (s.keep q_0) hx2 z) t3 z z z z z) z (.q z (.q z (bv h λb1 hb1 h=>.cu 8 37 (b1) s ?_ ?_)))))))))
 ·refine .both (x2.Op==10) (λb=>?_) (λb=>?_)
  ·refine .xx b z (.xx b z (.xx b z (.xx b z (.xx b z (.xx b z (.xx b z ?_))))))
   cases aC b hb1
   exact .s (pkt b z z z) z (.nil (ck 8 s))
  have hg1:=b
  have h:=aD b hb1
  refine .g hg1 (.q z (.g hg1 (.q z (.g hg1 (.q z (bv h λx3 hx3 h=>.g hg1 (.s (ixv (s.keep q_0) hx3 u38 t70 z z z) z (.g hg1 (.s (fe f70_0 z z z) z (.g hg1 (.s (lde (RV.flat (s.keep q_0) hx3 z) t3 z z z z z) z (.g hg1 (.q z (.s (pkf hg1 z z z) z ?_))))))))))))))
  cases h
  exact .nil (ck 8 s)
 intro W s
 obtain rfl:=o9 h
 exact .qn z (.ret (aa () (rt z rn) z (s.to [])))
theorem kU {a0:List ab} {a1:Int} {v_0:Hd} {w:World} {r:(List Int)} (h:dC a0 a1=some r) (q_0:RO w v_0 70 5 ae a0):CL 251 #[sv v_0,vi a1] w (Ret No w (λs:Hd=>(sv s)) (λs=>[ac (sv s) 3 1 (D.int .i64) r])):=by
 unfold dC at h
 refine ao func251 z z ?_
 have s:=Sep.start w
 refine .g (.qn z (.g (.q z (.q z (bv h λx1 hx1 h=>.s (ixv (s.keep q_0) hx1 u38 t70 z z z) z (.s (lde (RV.flat (s.keep q_0) hx1 z) t70 z z z z z) z (.c (.alloc t70 s ?_))))))))
 intro g1 W s
 refine .c (.st t70 s z z z ?_)
 intro W s
 refine .nil (.seq (.block (.g (.s (fa f70_0 z z z) z (.s (ld t3 s z z z z z) z (.q z (.q z (.nil ?_))))))))
 refine .cs z h ?_ ?_ <;> intro h
 ·refine .g (.c (.liv [] (D.int .i64) u23 t3 s z z z z ?_ z (λ_=>z)))
  intro v1 W s
  cases h
  exact .qn z (.ret (aa v1 (rt z rn) z (s.tk [0])))
 refine .g (.s (fa f70_0 z z z) z (.s (ld t3 s z z z z z) z (.q z (.q z (.nil ?_)))))
 refine .cs z h ?_ ?_ <;> intro h
 ·refine .g (.s (fa f70_4 z z z) z (.s (ld t3 s z z z z z) z (.c (.liv [x1.N] (D.int .i64) u23 t3 s z z z z ?_ z (λ_=>z)))))
  intro v2 W s
  cases h
  exact .qn z (.ret (aa v2 (rt z rn) z (s.tk [0])))
 refine .g (.s (fa f70_0 z z z) z (.s (ld t3 s z z z z z) z (.q z (.q z (.cu 6 32 ((x1.Op==5)&&(decide (x1.N<(w64 (a1+1))))) s ?_ ?_)))))
 ·refine .both (x1.Op==5) (λb=>?_) (λb=>?_)
  ·have hg1:=b
   exact .g hg1 (.s (fa f70_4 z z z) z (.g hg1 (.s (ld t3 s z z z z z) z (.g hg1 (.q z (.g hg1 (.q z (.g hg1 (.q z (.s (pkt hg1 z z z) z (.nil (ck 6 s z (bp hg1)))))))))))))
  exact .xx b z (.xx b z (.xx b z (.xx b z (.xx b z (.s (pkf b z z z) z (.nil (ck 6 s z (bq b))))))))
 intro W s
 refine .q z (.nil ?_)
 refine .cs z h ?_ ?_ <;> intro h
 ·refine .g (.s (fa f70_4 z z z) z (.s (ld t3 s z z z z z) z (.q z (.q z (.c (.liv [x1.N,w64 (a1+1)] (D.int .i64) u23 t3 s z z z z ?_ z (λ_=>z)))))))
  intro v3 W s
  cases h
  exact .qn z (.ret (aa v3 (rt z rn) z (s.tk [0])))
 refine .g (.s (fa f70_0 z z z) z (.s (ld t3 s z z z z z) z (.q z (.q z (.cu 6 48 ((x1.Op==5)&&(decide (x1.N>(w64 (a1+1))))) s ?_ ?_)))))
 ·refine .both (x1.Op==5) (λb=>?_) (λb=>?_)
  ·have hg2:=b
   exact .g hg2 (.s (fa f70_4 z z z) z (.g hg2 (.s (ld t3 s z z z z z) z (.g hg2 (.q z (.g hg2 (.q z (.g hg2 (.q z (.s (pkt hg2 z z z) z (.nil (ck 6 s z (bp hg2)))))))))))))
  exact .xx b z (.xx b z (.xx b z (.xx b z (.xx b z (.s (pkf b z z z) z (.nil (ck 6 s z (bq b))))))))
 intro W s
 refine .q z (.nil ?_)
 refine .cs z h ?_ ?_ <;> intro h
 ·refine .g (.q z (.q z (.s (fa f70_4 z z z) z (.s (ld t3 s z z z z z) z (.c (.liv [w64 (a1+1),x1.N] (D.int .i64) u23 t3 s z z z z ?_ z (λ_=>z)))))))
  intro v4 W s
  cases h
  exact .qn z (.ret (aa v4 (rt z rn) z (s.tk [0])))
 refine .skip (.g (.q z (.q z (.c (.liv [w64 (a1+1)] (D.int .i64) u23 t3 s z z z z ?_ z (λ_=>z))))))
 intro v5 W s
 cases h
 exact .qn z (.ret (aa v5 (rt z rn) z (s.tk [0])))
theorem tE {a0:List ab} {a1:List aj} {a2:Int} {v_0:Hd} {v_1:Hd} {w:World} {r:(List Int)} (h:f9 a0 a1 a2=some r) (q_0:RO w v_0 70 5 ae a0) (q_1:RO w v_1 179 2 a8 a1):CL 276 #[sv v_0,sv v_1,vi a2] w (Ret No w (λs:Hd=>(sv s)) (λs=>[ac (sv s) 3 1 (D.int .i64) r])):=by
 unfold f9 at h
 refine ao func276 z z ?_
 have s:=Sep.start w
 refine .g (.qn z (.g (.q z (.q z (bv h λx1 hx1 h=>.s (ixv (s.keep q_0) hx1 u38 t70 z z z) z (.s (lde (RV.flat (s.keep q_0) hx1 z) t70 z z z z z) z (.c (.alloc t70 s ?_))))))))
 intro g1 W s
 refine .c (.st t70 s z z z ?_)
 intro W s
 refine .nil (.seq (.g (.s (fa f70_0 z z z) z (.s (ld t3 s z z z z z) z (.q z (.q z (bv h λb1 hb1 h=>.cu 8 23 (b1) s ?_ ?_)))))))
 ·refine .both (x1.Op !=5) (λb=>?_) (λb=>?_)
  ·refine .xx b z (.xx b z (.xx b z (.xx b z (.xx b z (.xx b z (.xx b z ?_))))))
   cases aC b hb1
   exact .s (pkt b z z z) z (.nil (ck 8 s))
  have hg1:=b
  have h:=aD b hb1
  refine .g hg1 (.q z (.g hg1 (.s (fa f70_2 z z z) z (.g hg1 (.s (ld t3 s z z z z z) z (bv h λx2 hx2 h=>.g hg1 (.s (ixv (s.keep q_1) hx2 u229 t179 z z z) z (.g hg1 (.s (fe f179_0 z z z) z (.g hg1 (.s (lde (RV.flat (s.keep q_1) hx2 z) t3 z z z z z) z (.g hg1 (.q z (.s (pkf hg1 z z z) z ?_))))))))))))))
  cases h
  exact .nil (ck 8 s)
 intro W s
 refine .nil ?_
 refine .cs z h ?_ ?_ <;> intro h
 ·refine .g (.q z (.q z (bv h λy1 hy1 h=>.c (.cV s func251 (kU hy1 (s.keep q_0)) z z ?_))))
  intro v1 W s
  obtain rfl:=o9 h
  exact .qn z (.ret (aa v1 (rt z rn) z (s.tk [0])))
 refine .skip (.seq (.g (.q z (.s (fa f70_2 z z z) z (.s (ld t3 s z z z z z) z (bv h λx3 hx3 h=>.s (ixv (s.keep q_1) hx3 u229 t179 z z z) z (.s (fe f179_1 z z z) z (.s (lde (RV.flat (s.keep q_1) hx3 z) t3 z z z z z) z (.q z (.nil ?_))))))))))
 refine .cs z h ?_ ?_ <;> intro h
 ·refine .g (.s (fa f70_4 z z z) z (.s (ld t3 s z z z z z) z (.c (.liv [x1.N] (D.int .i64) u23 t3 s z z z z ?_ z (λ_=>z)))))
  intro v2 W s
  cases h
  exact .qn z (.ret (aa v2 (rt z rn) z (s.tk [0])))
 refine .skip (.g (.q z (.q z (.c (.liv [w64 (a2+1)] (D.int .i64) u23 t3 s z z z z ?_ z (λ_=>z))))))
 intro v3 W s
 cases h
 exact .qn z (.ret (aa v3 (rt z rn) z (s.tk [0])))
theorem j5 {a0:Int} {w:World} {r:Int} (h:du a0=some r):CL 137 #[vi a0] w (RU w (.int .i64 r)):=by
 unfold du at h
 refine ao func137 z z ?_
 have s:=Sep.start w
 refine .g (.qn z (.g (.q z (.q z (.qn z (.seq (.g (.q z (.q z (.nil ?_))))))))))
 refine .cs z h ?_ ?_ <;> intro h
 ·cases h
  exact .g (.q z (.q z (.qn z (.ret (aa () (rt z rn) z (s.to []))))))
 refine .skip (.seq (.g (.q z (.q z (.nil ?_)))))
 refine .cs z h ?_ ?_ <;> intro h
 ·cases h
  exact .g (.q z (.q z (.qn z (.ret (aa () (rt z rn) z (s.to []))))))
 cases h
 exact .skip (.g (.q z (.qn z (.ret (aa () (rt z rn) z (s.to []))))))
theorem qb {a0:Bool} {w:World} {r:Int} (h:lr a0=some r):CL 287 #[.bool a0] w (RU w (.int .i64 r)):=by
 unfold lr at h
 refine ao func287 z z ?_
 have s:=Sep.start w
 refine .g (.qn z (.seq (.g (.q z (.nil ?_)))))
 refine .cs z h ?_ ?_ <;> intro h
 ·cases h
  exact .g (.qn z (.ret (aa () (rt z rn) z (s.to []))))
 cases h
 exact .skip (.g (.qn z (.ret (aa () (rt z rn) z (s.to [])))))
theorem pb {a0:Int} {a1:Int} {a2:Bool} {w:World} {r:Int} (h:ig a0 a1 a2=some r):CL 288 #[vi a0,vi a1,.bool a2] w (RU w (.int .i64 r)):=by
 unfold ig at h
 refine ao func288 z z ?_
 have s:=Sep.start w
 refine .g (.qn z (.seq (.g (.q z (.nil ?_)))))
 refine .cs z h ?_ ?_ <;> intro h
 ·refine .g (.q z (.q z (.q z (bv h λd1 hd1 h=>.s (fr hd1 z z z) z (.qn z (.ret ?_))))))
  obtain rfl:=o9 h
  exact aa () (rt z rn) z (s.to [])
 refine .skip (.g (.q z (.q z (.q z (bv h λd2 hd2 h=>.s (fr hd2 z z z) z (bv h λy1 hy1 h=>.c (.cO s func137 (j5 hy1) z z ?_)))))))
 intro W s
 obtain rfl:=o9 h
 exact .qn z (.ret (aa () (rt z rn) z (s.to [])))
theorem tG {a0:Int} {a1:Int} {w:World} {r:Int} (h:kz a0 a1=some r):CL 289 #[vi a0,vi a1] w (RU w (.int .i64 r)):=by
 unfold kz at h
 refine ao func289 z z ?_
 have s:=Sep.start w
 refine .g (.qn z (.seq (.g (.q z (.q z (.nil ?_))))))
 refine .cs z h ?_ ?_ <;> intro h
 ·cases h
  exact .g (.qn z (.ret (aa () (rt z rn) z (s.to []))))
 refine .skip (.g (.q z (.q z (bv h λd1 hd1 h=>.s (dq hd1 z z z) z (bv h λy1 hy1 h=>.c (.cO s func137 (j5 hy1) z z ?_))))))
 intro W s
 obtain rfl:=o9 h
 exact .qn z (.ret (aa () (rt z rn) z (s.to [])))
theorem tH {a0:Int} {a1:Int} {w:World} {r:Int} (h:kA a0 a1=some r):CL 290 #[vi a0,vi a1] w (RU w (.int .i64 r)):=by
 unfold kA at h
 refine ao func290 z z ?_
 have s:=Sep.start w
 refine .g (.qn z (.seq (.g (.q z (.q z (.nil ?_))))))
 refine .cs z h ?_ ?_ <;> intro h
 ·obtain rfl:=o9 h
  exact .g (.q z (.qn z (.ret (aa () (rt z rn) z (s.to [])))))
 refine .skip (.g (.q z (.q z (bv h λd1 hd1 h=>.s (dr hd1 z z z) z (.qn z (.ret ?_))))))
 obtain rfl:=o9 h
 exact aa () (rt z rn) z (s.to [])
theorem wa {a0:Int} {a1:Int} {a2:Int} {w:World} {r:Int×Bool} (h:jv a0 a1 a2=some r):CL 285 #[vi a0,vi a1,vi a2] w (RU w (.tuple #[vi r.1,.bool r.2])):=by
 unfold jv at h
 refine ao func285 z z ?_
 have s:=Sep.start w
 refine .g (.q z (.qn z (.seq (.g (.q z (bv h λy1 hy1 h=>.c (.cO s func203 (mV hy1) z z ?_)))))))
 intro W s
 refine .q z (.q z (bv h λb1 hb1 h=>.cu 4 15 (b1) s ?_ ?_))
 ·refine .both (!y1) (λb=>?_) (λb=>?_)
  ·refine .xx b z (.xx b z (.xx b z ?_))
   cases aC b hb1
   exact .s (pkt b z z z) z (.nil (ck 4 s))
  have hg1:=b
  have h:=aD b hb1
  refine .g hg1 (.q z (bv h λy2 hy2 h=>.g hg1 (.c (.cO s func202 (jc hy2) z z ?_))))
  intro W s
  refine .g hg1 (.q z (.s (pkf hg1 z z z) z ?_))
  cases h
  exact .nil (ck 4 s)
 intro W s
 refine .q z (bv h λb2 hb2 h=>.cu 4 20 (b2) s ?_ ?_)
 ·refine .both (b1) (λb=>?_) (λb=>?_)
  ·refine .xx b z (.xx b z (.xx b z ?_))
   cases aC b hb2
   exact .s (pkt b z z z) z (.nil (ck 4 s))
  have hg2:=b
  have h:=aD b hb2
  refine .g hg2 (.q z (bv h λy3 hy3 h=>.g hg2 (.c (.cO s func202 (jc hy3) z z ?_))))
  intro W s
  refine .g hg2 (.q z (.s (pkf hg2 z z z) z ?_))
  cases h
  exact .nil (ck 4 s)
 intro W s
 refine .nil ?_
 refine .cs z h ?_ ?_ <;> intro h
 ·cases h
  exact .g (.q z (.qn z (.ret (aa (vs:=[_,_]) () (rt z (rt z rn)) z (s.to [])))))
 refine .skip (.seq (.g (.qn z (.block (.g (.q z (.q z (.nil ?_))))))))
 refine .cs z h ?_ ?_ <;> intro h
 ·cases h
  exact .g (.q z (.q z (.q z (.q z (.qn z (.ret (aa (vs:=[_,_]) () (rt z (rt z rn)) z (s.to []))))))))
 refine .g (.q z (.q z (.nil ?_)))
 refine .cs z h ?_ ?_ <;> intro h
 ·cases h
  exact .g (.q z (.q z (.q z (.q z (.qn z (.ret (aa (vs:=[_,_]) () (rt z (rt z rn)) z (s.to []))))))))
 refine .g (.q z (.q z (.nil ?_)))
 refine .cs z h ?_ ?_ <;> intro h
 ·cases h
  exact .g (.q z (.q z (.q z (.q z (.qn z (.ret (aa (vs:=[_,_]) () (rt z (rt z rn)) z (s.to []))))))))
 refine .g (.q z (.q z (.nil ?_)))
 refine .cs z h ?_ ?_ <;> intro h
 ·refine .g (.q z (.q z (.q z (bv h λy4 hy4 h=>.c (.cO s func287 (qb hy4) z z ?_)))))
  intro W s
  cases h
  exact .q z (.qn z (.ret (aa (vs:=[_,_]) () (rt z (rt z rn)) z (s.to []))))
 refine .g (.q z (.q z (.nil ?_)))
 refine .cs z h ?_ ?_ <;> intro h
 ·refine .g (.q z (.q z (.q z (bv h λy5 hy5 h=>.c (.cO s func287 (qb hy5) z z ?_)))))
  intro W s
  cases h
  exact .q z (.qn z (.ret (aa (vs:=[_,_]) () (rt z (rt z rn)) z (s.to []))))
 refine .g (.q z (.q z (.nil ?_)))
 refine .cs z h ?_ ?_ <;> intro h
 ·refine .g (.q z (.q z (bv h λy6 hy6 h=>.c (.cO s func288 (pb hy6) z z ?_))))
  intro W s
  cases h
  exact .q z (.qn z (.ret (aa (vs:=[_,_]) () (rt z (rt z rn)) z (s.to []))))
 refine .g (.q z (.q z (.nil ?_)))
 refine .cs z h ?_ ?_ <;> intro h
 ·refine .g (.q z (.q z (bv h λy7 hy7 h=>.c (.cO s func288 (pb hy7) z z ?_))))
  intro W s
  cases h
  exact .q z (.qn z (.ret (aa (vs:=[_,_]) () (rt z (rt z rn)) z (s.to []))))
 refine .g (.q z (.q z (.nil ?_)))
 refine .cs z h ?_ ?_ <;> intro h
 ·refine .g (.q z (.q z (.q z (bv h λy8 hy8 h=>.c (.cO s func137 (j5 hy8) z z ?_)))))
  intro W s
  cases h
  exact .q z (.qn z (.ret (aa (vs:=[_,_]) () (rt z (rt z rn)) z (s.to []))))
 refine .g (.q z (.q z (.nil ?_)))
 refine .cs z h ?_ ?_ <;> intro h
 ·refine .g (.q z (.q z (.q z (bv h λy9 hy9 h=>.c (.cO s func137 (j5 hy9) z z ?_)))))
  intro W s
  cases h
  exact .q z (.qn z (.ret (aa (vs:=[_,_]) () (rt z (rt z rn)) z (s.to []))))
 refine .g (.q z (.q z (.nil ?_)))
 refine .cs z h ?_ ?_ <;> intro h
 ·refine .g (.q z (.q z (.q z (bv h λy10 hy10 h=>.c (.cO s func137 (j5 hy10) z z ?_)))))
  intro W s
  cases h
  exact .q z (.qn z (.ret (aa (vs:=[_,_]) () (rt z (rt z rn)) z (s.to []))))
 refine .g (.q z (.q z (.nil ?_)))
 refine .cs z h ?_ ?_ <;> intro h
 ·refine .g (.q z (.q z (bv h λy11 hy11 h=>.c (.cO s func289 (tG hy11) z z ?_))))
  intro W s
  cases h
  exact .q z (.qn z (.ret (aa (vs:=[_,_]) () (rt z (rt z rn)) z (s.to []))))
 refine .skip (.g (.q z (.q z (bv h λy12 hy12 h=>.c (.cO s func290 (tH hy12) z z ?_)))))
 intro W s
 cases h
 exact .q z (.qn z (.ret (aa (vs:=[_,_]) () (rt z (rt z rn)) z (s.to []))))
theorem nX {a0:ab} {a1:aj} {a2:aj} {w:World} {r:aj} (h:cw a0 a1 a2=some r):CL 279 #[.agg #[vi a0.Op,vi a0.Dst,vi a0.A,vi a0.B,vi a0.N],.agg #[vi a1.Kind,vi a1.N],.agg #[vi a2.Kind,vi a2.N]] w (RU w (.agg #[vi r.Kind,vi r.N])):=by
 unfold cw at h
 refine ao func279 z z ?_
 have s:=Sep.start w
 refine .g (.c (.box s z z ?_))
 intro g1 W s
 refine .c (.box s z z ?_)
 intro g2 W s
 refine .c (.box s z z ?_)
 intro g3 W s
 refine .c (.alloc t179 s ?_)
 intro g4 W s
 refine .nil (.seq (.g (.s (fa f179_0 z z z) z (.s (ld t3 s.p2 z z z z z) z (.q z (.q z (.cu 4 16 ((a1.Kind !=1)||(a2.Kind !=1)) s ?_ ?_)))))))
 ·refine .both (a1.Kind !=1) (λb=>?_) (λb=>?_)
  ·exact .xx b z (.xx b z (.xx b z (.s (pkt b z z z) z (.nil (ck 4 s z (gY b))))))
  have hg1:=b
  exact .g hg1 (.s (fa f179_0 z z z) z (.g hg1 (.s (ld t3 s.p1 z z z z z) z (.g hg1 (.q z (.s (pkf hg1 z z z) z (.nil (ck 4 s z (gr hg1)))))))))
 intro W s
 refine .nil ?_
 refine .cs z h ?_ ?_ <;> intro h
 ·refine .g (.s (bs T.s179 z z) z (.c (.st t179 s z z z ?_)))
  intro W s
  cases h
  exact .nil (.ret (aa () (rc s t179 z rn z z) z (s.to [])))
 refine .skip (.g (.s (fa f70_4 z z z) z (.s (ld t3 s.p3 z z z z z) z (.s (fa f179_1 z z z) z (.s (ld t3 s.p2 z z z z z) z (.s (fa f179_1 z z z) z (.s (ld t3 s.p1 z z z z z) z (bv h λy1 hy1 h=>.c (.cO s func285 (wa hy1) z z ?_)))))))))
 intro W s
 refine .q z (.q z (.q z (.q z (.qn z (.g (.q z (.s (bs T.s179 z z) z (.c (.st t179 s z z z ?_)))))))))
 intro W s
 cases h
 exact .nil (.ret (aa () (rc s t179 z rn z z) z (s.to [])))
theorem tI {a0:ab} {a1:List aj} {v_1:Hd} {w:World} {r:(List aj)} (h:ga a0 a1=some r) (q_1:RO w v_1 179 2 a8 a1):CL 277 #[.agg #[vi a0.Op,vi a0.Dst,vi a0.A,vi a0.B,vi a0.N],sv v_1] w (Ret No w (λs:Hd=>(sv s)) (λs=>[ac (sv s) 179 2 a8 r])):=by
 unfold ga at h
 refine ao func277 z z ?_
 have s:=Sep.start w
 refine .g (.c (.box s z z ?_))
 intro g1 W s
 refine .qn z (.g (.c (.liv [] a8 u229 t179 s z z z z ?_ z (λ_=>z))))
 intro v1 W s
 refine .q z (bv h λr1 hr1 h=>.c (.av hr1 s (s.keep q_1) (λ_=>z) u229 t179 z z z ?_))
 intro v2 W s
 refine .qn z (.seq (.g (.s (fa f70_0 z z z) z (.s (ld t3 s.p1 z z z z z) z (.nil (.block (.g (.q z (.q z (.nil ?_))))))))))
 refine .cs z h ?_ ?_ <;> intro h
 ·refine .region (.q z (.s (fa f70_1 z z z) z (.s (ld t3 s.p1 z z z z z) z (.s (fa f70_4 z z z) z (.s (ld t3 s.p1 z z z z z) z (.s (bs T.s179 z z) z (bv h λx1 hx1 h=>.s (ixv s.lv hx1 u229 t179 z z z) z (bv h λr2 hr2 h=>.c (.sev hr2 hx1 s t179 z z z z z z ?_)))))))))
  intro W s
  obtain rfl:=o9 h
  exact .nil (.g (.q z (.qn z (.ret (aa v2 (rt z rn) z (s.tk [0]))))))
 refine .g (.q z (.q z (.nil ?_)))
 refine .cs z h ?_ ?_ <;> intro h
 ·refine .rk 9 s [0,0] T.mix ?_
  intro W s
  have t:=s.to [0,0]
  refine .tp' 0 z z t (.ts' 1 z (λW t=>fa f70_1 z z z) t z (.ts' 2 z (λW t=>ld t3 t.p1 z z z z z) t z (.tp' 3 z z t (.ts' 4 z (λW t=>fa f70_2 z z z) t z (.ts' 5 z (λW t=>ld t3 t.p1 z z z z z) t z (bv h λx2 hx2 h=>.ts' 6 z (λW t=>ixv (s.keep q_1) hx2 u229 t179 z z z) t z (.ts' 7 z (λW t=>lde (RV.flat (t.keep q_1) hx2 z) t179 z z z z z) t z (bv h λx3 hx3 h=>.ts' 8 z (λW t=>ixv s.lv hx3 u229 t179 z z z) t z (bv h λr3 hr3 h=>.by1 9 z (.sev hr3 hx3 s t179 z z z z z z ?_))))))))))
  intro W s
  refine ⟨λh=>absurd z h,?_⟩
  obtain rfl:=o9 h
  exact .done (.g (.q z (.qn z (.ret (aa v2 (rt z rn) z (s.tk [0]))))))
 refine .g (.q z (.q z (.nil ?_)))
 refine .cs z h ?_ ?_ <;> intro h
 ·refine .region (.q z (.s (fa f70_1 z z z) z (.s (ld t3 s.p1 z z z z z) z (.s (bs T.s179 z z) z (bv h λx4 hx4 h=>.s (ixv s.lv hx4 u229 t179 z z z) z (bv h λr4 hr4 h=>.c (.sev hr4 hx4 s t179 z z z z z z ?_)))))))
  intro W s
  obtain rfl:=o9 h
  exact .nil (.g (.q z (.qn z (.ret (aa v2 (rt z rn) z (s.tk [0]))))))
 refine .g (.q z (.q z (.nil ?_)))
 refine .cs z h ?_ ?_ <;> intro h
 ·refine .rk 16 s [0,0] T.mix ?_
  intro W s
  have t:=s.to [0,0]
  refine .tp' 0 z z t (.ts' 1 z (λW t=>fa f70_1 z z z) t z (.ts' 2 z (λW t=>ld t3 t.p1 z z z z z) t z (.ts' 3 z (λW t=>ld t70 t.p1 z z z z z) t z (.tp' 4 z z t (.ts' 5 z (λW t=>fa f70_2 z z z) t z (.ts' 6 z (λW t=>ld t3 t.p1 z z z z z) t z (bv h λx5 hx5 h=>.ts' 7 z (λW t=>ixv (s.keep q_1) hx5 u229 t179 z z z) t z (.ts' 8 z (λW t=>lde (RV.flat (t.keep q_1) hx5 z) t179 z z z z z) t z (.tp' 9 z z t (.ts' 10 z (λW t=>fa f70_3 z z z) t z (.ts' 11 z (λW t=>ld t3 t.p1 z z z z z) t z (bv h λx6 hx6 h=>.ts' 12 z (λW t=>ixv (s.keep q_1) hx6 u229 t179 z z z) t z (.ts' 13 z (λW t=>lde (RV.flat (t.keep q_1) hx6 z) t179 z z z z z) t z (bv h λy1 hy1 h=>.by1 14 z (.cO s func279 (nX hy1) z z ?_)))))))))))))))
  intro W s
  refine s.an [0,0] λt=>bv h λx7 hx7 h=>.ts' 15 z (λW t=>ixv s.lv hx7 u229 t179 z z z) t z (bv h λr5 hr5 h=>.by1 16 z (.sev hr5 hx7 s t179 z z z z z z ?_))
  intro W s
  refine ⟨λh=>absurd z h,?_⟩
  obtain rfl:=o9 h
  exact .done (.g (.q z (.qn z (.ret (aa v2 (rt z rn) z (s.tk [0]))))))
 obtain rfl:=o9 h
 exact .skip (.g (.q z (.qn z (.ret (aa v2 (rt z rn) z (s.tk [0]))))))
theorem pd {a0:aj} {a1:aj} {w:World} {r:aj} (h:ij a0 a1=some r):CL 284 #[.agg #[vi a0.Kind,vi a0.N],.agg #[vi a1.Kind,vi a1.N]] w (RU w (.agg #[vi r.Kind,vi r.N])):=by
 unfold ij at h
 refine ao func284 z z ?_
 have s:=Sep.start w
 refine .g (.c (.box s z z ?_))
 intro g1 W s
 refine .c (.box s z z ?_)
 intro g2 W s
 refine .c (.alloc t179 s ?_)
 intro g3 W s
 refine .nil (.seq (.g (.s (fa f179_0 z z z) z (.s (ld t3 s.p2 z z z z z) z (.q z (.nil ?_))))))
 refine .cs z h ?_ ?_ <;> intro h
 ·refine .g (.s (ld t179 s.p1 z z z z z) z (.c (.st t179 s z z z ?_)))
  intro W s
  obtain rfl:=o9 h
  exact .nil (.ret (aa () (rc s t179 z rn z z) z (s.to [])))
 refine .skip (.seq (.g (.s (fa f179_0 z z z) z (.s (ld t3 s.p1 z z z z z) z (.q z (.q z (.cu 4 16 ((a1.Kind==0)||((a0.Kind==a1.Kind)&&((a0.N==a1.N)&&true))) s ?_ ?_)))))))
 ·refine .both (a1.Kind==0) (λb=>?_) (λb=>?_)
  ·exact .xx b z (.xx b z (.xx b z (.s (pkt b z z z) z (.nil (ck 4 s z (gY b))))))
  have hg1:=b
  exact .g hg1 (.s (ld t179 s.p2 z z z z z) z (.g hg1 (.s (ld t179 s.p1 z z z z z) z (.g hg1 (.s (eqs T.e179 z z z z) z (.s (pkf hg1 z z z) z (.nil (ck 4 s z (gr hg1)))))))))
 intro W s
 refine .nil ?_
 refine .cs z h ?_ ?_ <;> intro h
 ·refine .g (.s (ld t179 s.p2 z z z z z) z (.c (.st t179 s z z z ?_)))
  intro W s
  obtain rfl:=o9 h
  exact .nil (.ret (aa () (rc s t179 z rn z z) z (s.to [])))
 refine .skip (.g (.s (bs T.s179 z z) z (.c (.st t179 s z z z ?_))))
 intro W s
 cases h
 exact .nil (.ret (aa () (rc s t179 z rn z z) z (s.to [])))
theorem tJ {a0:List (List aj)} {a1:Int} {a2:List aj} {v_0:Hd} {v_2:Hd} {S:Nat->Prop} {w:World} {r:Bool×(List (List aj))} (h:gb a0 a1 a2=some r) (q_2:RV w (Old S w) (sv v_2) 179 2 a8 a2) (hO:bw w [ac (sv v_0) 229 1 (λ(l:List aj)=>D.row 179 2 (l.map a8)) a0] S) (hlt:∀ b,S b->b<w.heap.size):CL 278 #[sv v_0,vi a1,sv v_2] w (Ret S w (λs:Unit=>.bool r.1) (λs=>[ac (sv v_0) 229 1 (λ(l:List aj)=>D.row 179 2 (l.map a8)) r.2])):=by
 unfold gb at h
 refine ao func278 z z ?_
 have s:=Sep.sm hO hlt
 refine .g (.qn z (.g (.qn z (.seq (.g (.qn z (.block (bv h λy1 hy1 h=>?_))))))))
 refine .via (.iter (λs1 E' W'=>al E' [(0,(sv v_0)),(1,vi a1),(2,(sv v_2)),(7,.bool s1.1),(8,vi s1.2.1)]/\Sep S w W' [ac (sv v_0) 229 1 (λ(l:List aj)=>D.row 179 2 (l.map a8)) s1.2.2]) (λy2 x E' W'=>x=.exit 0/\al E' [(7,.bool y2.1)]/\Sep S w W' [ac (sv v_0) 229 1 (λ(l:List aj)=>D.row 179 2 (l.map a8)) y2.2]) hy1 ⟨sb z,s.tk [0]⟩ ?_) ?_
 ·intro s1 y3 E W h hI
  obtain ⟨hE,s⟩:=hI
  refine CW.sub hE ?_
  unfold jM at h
  refine .seq (.g (.q z (.q z (.nil ?_))))
  refine .cs z h ?_ ?_ <;> intro h
  ·refine .skip (bv h λy4 hy4 h=>?_)
   refine .seq (CW.via (R':=λx E' W'=>x=.normal/\al E' [(0,(sv v_0)),(1,vi a1),(2,(sv v_2)),(7,.bool y4.1),(8,vi s1.2.1)]/\Sep S w W' [ac (sv v_0) 229 1 (λ(l:List aj)=>D.row 179 2 (l.map a8)) y4.2]) ?_ ?_)
   ·have h:=hy4
    refine .block (.seq (bv h λx1 hx1 h=>?_))
    obtain ⟨k1,s⟩:=Sep.ov s hx1
    obtain ⟨v1,k1,rfl,s⟩:=s.ow
    obtain ⟨rfl,s⟩:=s.oN
    refine bv h λx4 hx4 h=>bv h λx5 hx5 h=>bv h λy6 hy6 h=>?_
    refine .via (R':=λx E' W'=>x=.normal/\∃ (g2:Nat),al E' [(0,(sv v_0)),(1,vi a1),(2,(sv v_2)),(7,.bool s1.1),(8,vi s1.2.1),(9,Pt g2)]/\Sep S w W' [ac (sv v_0) 229 1 (λ(l:List aj)=>D.row 179 2 (l.map a8)) s1.2.2,.box g2 179 [vi y6.Kind,vi y6.N]]) ?_ ?_
    ·refine .rk 13 s [0,0] T.mix ?_
     intro W s
     have t:=s.to [0,0]
     refine .tp' 0 z z t (.tp' 1 z z t (.ts' 2 z (λW t=>ixh t.p1 hx1 u226 t229 z z z) t z (.ts' 3 z (λW t=>lde (t.p1.hcellsv) t229 z z z z z) t z (.tp' 4 z z t (.ts' 5 z (λW t=>ixv s.lv hx4 u229 t179 z z z) t z (.ts' 6 z (λW t=>lde (RV.flat t.lv hx4 z) t179 z z z z z) t z (.tp' 7 z z t (.tp' 8 z z t (.ts' 9 z (λW t=>ixv (s.keep q_2) hx5 u229 t179 z z z) t z (.ts' 10 z (λW t=>lde (RV.flat (t.keep q_2) hx5 z) t179 z z z z z) t z (.by [11,12] ⟨⟨_,z,?_⟩,⟨_,z,?_⟩,trivial⟩)))))))))))
     ·refine (.cO s func284 (pd hy6) z z ?_)
      intro W s
      refine s.an [0,0] λt=>.by1 12 z (.alloc t179 s ?_)
      intro g3 W s
      refine s.an [1,1] λt=>.by1 13 z (.st t179 s z z z ?_)
      intro W s
      refine ⟨λh=>absurd z h,?_⟩
      refine .done ?_
      have s:=Sep.gat (ds:=[.row 179 2 (x1.map a8)]) (cs:=[sv v1]) (L1:=[ac (sv v1) 179 2 a8 x1]) (.row (.nil)) (s.to [1,1,0])
      have s:Sep _ _ _ [ac (sv v_0) 229 1 (λ(l:List aj)=>D.row 179 2 (l.map a8)) s1.2.2,.box g3 179 [vi y6.Kind,vi y6.N]]:=Sep.back0v hx1 s
      exact ⟨z,g3,sb z,s.tk [0,0]⟩
     refine (.alloc t179 s ?_)
     intro g4 W s
     refine s.an [1,1] λt=>.by1 11 z (.cO s func284 (pd hy6) z z ?_)
     intro W s
     refine s.an [1,1] λt=>.by1 13 z (.st t179 s z z z ?_)
     intro W s
     refine ⟨λh=>absurd z h,?_⟩
     refine .done ?_
     have s:=Sep.gat (ds:=[.row 179 2 (x1.map a8)]) (cs:=[sv v1]) (L1:=[ac (sv v1) 179 2 a8 x1]) (.row (.nil)) (s.to [1,1,0])
     have s:Sep _ _ _ [ac (sv v_0) 229 1 (λ(l:List aj)=>D.row 179 2 (l.map a8)) s1.2.2,.box g4 179 [vi y6.Kind,vi y6.N]]:=Sep.back0v hx1 s
     exact ⟨z,g4,sb z,s.tk [0,0]⟩
    intro x E W hJ
    obtain ⟨rfl,g5,hE,s⟩:=hJ
    refine ⟨_,hE.sub,?_⟩
    refine .seq (bv h λx6 hx6 h=>?_)
    obtain ⟨k2,s⟩:=Sep.ov s hx6
    obtain ⟨v2,k2,rfl,s⟩:=s.ow
    obtain ⟨rfl,s⟩:=s.oN
    refine .rk 9 s [0,0,0] T.mix ?_
    intro W s
    have t:=s.to [0,0,0]
    refine .ts' 0 z (λW t=>ld t179 t.p2 z z z z z) t z (.tp' 1 z z t (.tp' 2 z z t (.ts' 3 z (λW t=>ixh t.p1 hx6 u226 t229 z z z) t z (.ts' 4 z (λW t=>lde (t.p1.hcellsv) t229 z z z z z) t z (.tp' 5 z z t (bv h λx8 hx8 h=>.ts' 6 z (λW t=>ixv s.lv hx8 u229 t179 z z z) t z (.ts' 7 z (λW t=>lde (RV.flat t.lv hx8 z) t179 z z z z z) t z (.ts' 8 z (λW t=>nes T.e179 z z z z) t z (.done ?_)))))))))
    refine .cs z h ?_ ?_ <;> intro h
    ·refine .seq (.rk 7 s [0,0,0] T.mix ?_)
     intro W s
     have t:=s.to [0,0,0]
     refine .tp' 0 z z t (.tp' 1 z z t (.ts' 2 z (λW t=>ixh t.p1 hx6 u226 t229 z z z) t z (.ts' 3 z (λW t=>lde (t.p1.hcellsv) t229 z z z z z) t z (.tp' 4 z z t (.ts' 5 z (λW t=>ld t179 t.p2 z z z z z) t z (bv h λx9 hx9 h=>.ts' 6 z (λW t=>ixv s.lv hx9 u229 t179 z z z) t z (bv h λr1 hr1 h=>.by1 7 z (.sev hr1 hx9 s t179 z z z z z z ?_))))))))
     intro W s
     refine ⟨λh=>absurd z h,?_⟩
     refine .done (.region (.q z (.nil ?_)))
     have s:=Sep.gat (ds:=[.row 179 2 (r1.map a8)]) (cs:=[sv v2]) (L1:=[ac (sv v2) 179 2 a8 r1]) (.row (.nil)) (s.to [0,0,0])
     have s:Sep _ _ _ [ac (sv v_0) 229 1 (λ(l:List aj)=>D.row 179 2 (l.map a8)) (s1.2.2.set (Int.toNat a1) r1),.box g5 179 [vi y6.Kind,vi y6.N]]:=s.bv
     cases h
     exact ⟨z,sb z,s.tk [0]⟩
    refine .skip ?_
    have s:=Sep.gat (ds:=[.row 179 2 (x6.map a8)]) (cs:=[sv v2]) (L1:=[ac (sv v2) 179 2 a8 x6]) (.row (.nil)) (s.to [0,0,0])
    have s:Sep _ _ _ [ac (sv v_0) 229 1 (λ(l:List aj)=>D.row 179 2 (l.map a8)) s1.2.2,.box g5 179 [vi y6.Kind,vi y6.N]]:=Sep.back0v hx6 s
    cases h
    exact ⟨z,sb z,s.tk [0]⟩
   intro x E W hJ
   obtain ⟨rfl,hE,s⟩:=hJ
   refine ⟨_,hE.sub,?_⟩
   refine .region (.q z (.q z (.q z (.nil ?_))))
   cases h
   exact ⟨z,sb z,s.tk [0]⟩
  refine .exit ?_
  cases h
  exact ⟨by simp,z,sb z,s.tk [0]⟩
 intro x E W hJ
 obtain ⟨rfl,hE,s⟩:=hJ
 refine ⟨_,hE.sub,?_⟩
 cases h
 exact .g (.q z (.qn z (.ret (aa () (rt z rn) z (s.tk [0])))))
theorem tK {a0:List ab} {a1:List (List aj)} {v_0:Hd} {v_1:Hd} {S:Nat->Prop} {w:World} {r:Bool×(List (List aj))} (h:gc a0 a1=some r) (q_0:RV w (Old S w) (sv v_0) 70 5 ae a0) (hO:bw w [ac (sv v_1) 229 1 (λ(l:List aj)=>D.row 179 2 (l.map a8)) a1] S) (hlt:∀ b,S b->b<w.heap.size):CL 264 #[sv v_0,sv v_1] w (Ret S w (λs:Unit=>.bool r.1) (λs=>[ac (sv v_1) 229 1 (λ(l:List aj)=>D.row 179 2 (l.map a8)) r.2])):=by
 unfold gc at h
 refine ao func264 z z ?_
 have s:=Sep.sm hO hlt
 refine .g (.qn z (.g (.qn z (.seq (.g (.qn z (.block (bv h λy1 hy1 h=>?_))))))))
 refine .via (.iter (λs1 E' W'=>al E' [(0,(sv v_0)),(1,(sv v_1)),(5,.bool s1.1),(6,vi s1.2.1)]/\Sep S w W' [ac (sv v_1) 229 1 (λ(l:List aj)=>D.row 179 2 (l.map a8)) s1.2.2]) (λy2 x E' W'=>x=.exit 0/\al E' [(5,.bool y2.1)]/\Sep S w W' [ac (sv v_1) 229 1 (λ(l:List aj)=>D.row 179 2 (l.map a8)) y2.2]) hy1 ⟨sb z,s.tk [0]⟩ ?_) ?_
 ·intro s1 y3 E W h hI
  obtain ⟨hE,s⟩:=hI
  refine CW.sub hE ?_
  unfold jO at h
  refine .seq (.g (.q z (.q z (.s (aJ (s.keep q_0) u38 z z) z (.q z (.nil ?_))))))
  refine .cs z h ?_ ?_ <;> intro h
  ·refine .skip (bv h λy4 hy4 h=>?_)
   refine .seq (CW.via (R':=λx E' W'=>x=.normal/\al E' [(0,(sv v_0)),(1,(sv v_1)),(5,.bool y4.1),(6,vi s1.2.1)]/\Sep S w W' [ac (sv v_1) 229 1 (λ(l:List aj)=>D.row 179 2 (l.map a8)) y4.2]) ?_ ?_)
   ·have h:=hy4
    refine .block (.seq (.g (.q z (.q z (bv h λx1 hx1 h=>.s (ixv s.lv hx1 u226 t229 z z z) z ?_)))))
    obtain ⟨k1,s⟩:=Sep.ov s hx1
    obtain ⟨v1,k1,rfl,s⟩:=s.ow
    obtain ⟨rfl,s⟩:=s.oN
    refine .s (lde (s.p1.hcellsv) t229 z z z z z) z (bv h λx2 hx2 h=>.s (ixv s.lv hx2 u229 t179 z z z) z (.s (fe f179_0 z z z) z (.s (lde (RV.flat s.lv hx2 z) t3 z z z z z) z (.q z (.nil ?_)))))
    refine .cs z h ?_ ?_ <;> intro h
    ·refine .exit ?_
     have s:=Sep.gat (ds:=[.row 179 2 (x1.map a8)]) (cs:=[sv v1]) (L1:=[ac (sv v1) 179 2 a8 x1]) (.row (.nil)) (s.to [0,0])
     have s:Sep _ _ _ [ac (sv v_1) 229 1 (λ(l:List aj)=>D.row 179 2 (l.map a8)) s1.2.2]:=Sep.back0v hx1 s
     cases h
     exact ⟨z,sb z,s.tk [0]⟩
    refine .skip (.g (.q z (.q z (.q z (.s (ixh s.p1 hx1 u226 t229 z z z) z (.s (lde (s.p1.hcellsv) t229 z z z z z) z (.q z (bv h λy5 hy5 h=>.c (.cV s func276 (tE hy5 (s.keep q_0) s.lv) z z ?_)))))))))
    intro v2 W s
    refine .qn z (.seq (.rk 10 s [0,0,0] T.mix ?_))
    intro W s
    have t:=s.to [0,0,0]
    refine .tp' 0 z z t (.tp' 1 z z t (bv h λx3 hx3 h=>.ts' 2 z (λW t=>ixv (s.keep q_0) hx3 u38 t70 z z z) t z (.ts' 3 z (λW t=>lde (RV.flat (t.keep q_0) hx3 z) t70 z z z z z) t z (.tp' 4 z z t (.tp' 5 z z t (.ts' 6 z (λW t=>ixh t.p2 hx1 u226 t229 z z z) t z (.ts' 7 z (λW t=>lde (t.p2.hcellsv) t229 z z z z z) t z (bv h λy6 hy6 h=>.by1 8 z (.cV s func277 (tI hy6 s.p1.lv) z z ?_)))))))))
    intro v3 W s
    refine s.an [1,1,1] λt=>.tp' 9 z z t (.done (.g (.qn z (.block ?_))))
    have s:=Sep.gat (ds:=[.row 179 2 (x1.map a8)]) (cs:=[sv v1]) (L1:=[ac (sv v1) 179 2 a8 x1]) (.row (.nil)) (s.to [2,2,0,0])
    have s:Sep _ _ _ [ac (sv v_1) 229 1 (λ(l:List aj)=>D.row 179 2 (l.map a8)) s1.2.2,ac (sv v3) 179 2 a8 y6,ac (sv v2) 3 1 (D.int .i64) y5]:=Sep.back0v hx1 s
    refine bv h λy7 hy7 h=>?_
    refine .via (.iter (λs2 E' W'=>al E' [(0,(sv v_0)),(1,(sv v_1)),(5,.bool s2.1),(6,vi s1.2.1),(7,(sv v2)),(8,(sv v3)),(9,vi s2.2.1)]/\Sep S w W' [ac (sv v_1) 229 1 (λ(l:List aj)=>D.row 179 2 (l.map a8)) s2.2.2,ac (sv v3) 179 2 a8 y6,ac (sv v2) 3 1 (D.int .i64) y5]) (λy8 x E' W'=>x=.exit 2/\al E' [(0,(sv v_0)),(1,(sv v_1)),(5,.bool y8.1),(6,vi s1.2.1)]/\Sep S w W' [ac (sv v_1) 229 1 (λ(l:List aj)=>D.row 179 2 (l.map a8)) y8.2,ac (sv v3) 179 2 a8 y6,ac (sv v2) 3 1 (D.int .i64) y5]) hy7 ⟨sb z,s.tk [0,0,0]⟩ ?_) ?_
    ·intro s2 y9 E W h hI
     obtain ⟨hE,s⟩:=hI
     refine CW.sub hE ?_
     unfold jN at h
     refine .seq (.g (.q z (.q z (.s (aJ s.p2.lv u23 z z) z (.qn z (.cond z (λb=>?_) (λb=>?_)))))))
     ·have h:=aC b h
      refine .skip (bv h λy10 hy10 h=>?_)
      refine .seq (CW.via (R':=λx E' W'=>x=.normal/\al E' [(0,(sv v_0)),(1,(sv v_1)),(5,.bool y10.1),(6,vi s1.2.1),(7,(sv v2)),(8,(sv v3)),(9,vi s2.2.1)]/\Sep S w W' [ac (sv v_1) 229 1 (λ(l:List aj)=>D.row 179 2 (l.map a8)) y10.2,ac (sv v3) 179 2 a8 y6,ac (sv v2) 3 1 (D.int .i64) y5]) ?_ ?_)
      ·have h:=hy10
       refine .block (.g (.q z (.q z (.q z (bv h λx4 hx4 h=>.s (ixv s.p2.lv hx4 u23 t3 z z z) z (.s (lde (RV.flat s.p2.lv hx4 z) t3 z z z z z) z (.q z (bv h λy11 hy11 h=>.c (.cS (L0:=[ac (sv v_1) 229 1 (λ(l:List aj)=>D.row 179 2 (l.map a8)) s2.2.2]) s func278 (λS h1 h2 h3=>(tJ hy11 (h3.rdv (k:=0) z) h2 (zz h1))) z z ?_)))))))))
       rintro ⟨⟩ W s
       refine .nil ?_
       refine .cs z h ?_ ?_ <;> intro h
       ·refine .region (.q z (.nil ?_))
        cases h
        exact ⟨z,sb z,s.tk [0,0,0]⟩
       refine .skip ?_
       cases h
       exact ⟨z,sb z,s.tk [0,0,0]⟩
      intro x E W hJ
      obtain ⟨rfl,hE,s⟩:=hJ
      refine ⟨_,hE.sub,?_⟩
      refine .region (.q z (.q z (.q z (.nil ?_))))
      cases h
      exact ⟨z,sb z,s.tk [0,0,0]⟩
     have h:=aD b h
     refine .exit ?_
     cases h
     exact ⟨by simp,z,sb z,s.tk [0,0,0]⟩
    intro x E W hJ
    obtain ⟨rfl,hE,s⟩:=hJ
    refine ⟨_,hE.sub,?_⟩
    cases h
    exact ⟨z,sb z,s.tk [0]⟩
   intro x E W hJ
   obtain ⟨rfl,hE,s⟩:=hJ
   refine ⟨_,hE.sub,?_⟩
   refine .region (.q z (.q z (.q z (.nil ?_))))
   cases h
   exact ⟨z,sb z,s.tk [0]⟩
  refine .exit ?_
  cases h
  exact ⟨by simp,z,sb z,s.tk [0]⟩
 intro x E W hJ
 obtain ⟨rfl,hE,s⟩:=hJ
 refine ⟨_,hE.sub,?_⟩
 cases h
 exact .g (.q z (.qn z (.ret (aa () (rt z rn) z (s.tk [0])))))
theorem uw {a0:List ab} {v_0:Hd} {w:World} {r:(List (List aj))} (h:fU a0=some r) (q_0:RO w v_0 70 5 ae a0):CL 240 #[sv v_0] w (Ret No w (λs:Hd=>(sv s)) (λs=>[ac (sv s) 229 1 (λ(l:List aj)=>D.row 179 2 (l.map a8)) r])):=by
 unfold fU at h
 refine ao func240 z z ?_
 have s:=Sep.start w
 refine .g (.qn z (.g (.c (.lg (L1:=[]) [] (λ(l:List aj)=>D.row 179 2 (l.map a8)) u226 t229 (s.to []) z z z (.nil) ?_ z (λ_=>z)))))
 intro v1 W s
 refine .qn z (.seq (.g (.q z (bv h λy1 hy1 h=>.c (.cO s func106 (bx hy1 (s.keep q_0)) z z ?_)))))
 intro W s
 refine .qn z (.cond z (λb=>?_) (λb=>?_))
 ·have h:=aC b h
  cases h
  exact .g (.q z (.qn z (.ret (aa v1 (rt z rn) z (s.tk [0])))))
 have h:=aD b h
 refine .skip (.seq (.g (.qn z (.block (bv h λy2 hy2 h=>?_)))))
 refine .via (.iter (λs1 E' W'=>∃ (v4:Hd),al E' [(0,(sv v_0)),(3,(sv v4)),(4,vi s1.2)]/\Sep No w W' [ac (sv v4) 229 1 (λ(l:List aj)=>D.row 179 2 (l.map a8)) s1.1]) (λy3 x E' W'=>x=.exit 0/\∃ (v5:Hd),al E' [(0,(sv v_0)),(3,(sv v5))]/\Sep No w W' [ac (sv v5) 229 1 (λ(l:List aj)=>D.row 179 2 (l.map a8)) y3]) hy2 ⟨v1,sb z,s.tk [0]⟩ ?_) ?_
 ·intro s1 y4 E W h hI
  obtain ⟨v3,hE,s⟩:=hI
  refine CW.sub hE ?_
  unfold kK at h
  refine .seq (.g (.q z (.q z (.s (aJ (s.keep q_0) u38 z z) z (.q z (.nil ?_))))))
  refine .cs z h ?_ ?_ <;> intro h
  ·refine .skip (.seq (.block (.region (.q z (bv h λr1 hr1 h=>.c (.mkv (aj.mk 0 0) a8 hr1 u229 t179 s z z z z z (λ_=>z) ?_))))))
   intro v6 W s
   refine .c (.lg (L1:=[ac (sv v6) 179 2 a8 r1]) [r1] (λ(l:List aj)=>D.row 179 2 (l.map a8)) u226 t229 (s.to [0,0]) z z z (.row (.nil)) ?_ z (λ_=>z))
   intro v7 W s
   refine bv h λr2 hr2 h=>.c (.appv hr2 (s.to [1,0]) u226 t229 z z z ?_)
   intro v8 W s
   refine .qn z (.region (.q z (.q z (.q z (.nil ?_)))))
   cases h
   exact ⟨z,v8,sb z,s.tk [0]⟩
  refine .exit ?_
  cases h
  exact ⟨by simp,z,v3,sb z,s.tk [0]⟩
 intro x E W hJ
 obtain ⟨rfl,v9,hE,s⟩:=hJ
 refine ⟨_,hE.sub,?_⟩
 refine .seq (.g (.qn z (.block (bv h λy5 hy5 h=>?_))))
 refine .via (.iter (λs2 E' W'=>al E' [(0,(sv v_0)),(3,(sv v9)),(5,vi s2.1)]/\Sep No w W' [ac (sv v9) 229 1 (λ(l:List aj)=>D.row 179 2 (l.map a8)) s2.2]) (λy6 x E' W'=>x=.exit 2/\al E' [(0,(sv v_0)),(3,(sv v9))]/\Sep No w W' [ac (sv v9) 229 1 (λ(l:List aj)=>D.row 179 2 (l.map a8)) y6]) hy5 ⟨sb z,s.tk [0]⟩ ?_) ?_
 ·intro s2 y7 E W h hI
  obtain ⟨hE,s⟩:=hI
  refine CW.sub hE ?_
  unfold kL at h
  refine .seq (.g (.q z (.q z (.nil ?_))))
  refine .cs z h ?_ ?_ <;> intro h
  ·refine .skip (.seq (.block (.region (.q z (bv h λx1 hx1 h=>.s (ixv s.lv hx1 u226 t229 z z z) z ?_)))))
   obtain ⟨k1,s⟩:=Sep.ov s hx1
   obtain ⟨v10,k1,rfl,s⟩:=s.ow
   obtain ⟨rfl,s⟩:=s.oN
   refine .s (lde (s.p1.hcellsv) t229 z z z z z) z (.q z (.s (bs T.s179 z z) z (bv h λx2 hx2 h=>.s (ixv s.lv hx2 u229 t179 z z z) z (bv h λr3 hr3 h=>.c (.sev hr3 hx2 s t179 z z z z z z ?_)))))
   intro W s
   refine .nil (.region (.q z (.q z (.q z (.nil ?_)))))
   have s:=Sep.gat (ds:=[.row 179 2 (r3.map a8)]) (cs:=[sv v10]) (L1:=[ac (sv v10) 179 2 a8 r3]) (.row (.nil)) (s.to [0,0])
   have s:Sep _ _ _ [ac (sv v9) 229 1 (λ(l:List aj)=>D.row 179 2 (l.map a8)) (s2.2.set (Int.toNat 0) r3)]:=s.bv
   cases h
   exact ⟨z,sb z,s.tk [0]⟩
  refine .exit ?_
  cases h
  exact ⟨by simp,z,sb z,s.tk [0]⟩
 intro x E W hJ
 obtain ⟨rfl,hE,s⟩:=hJ
 refine ⟨_,hE.sub,?_⟩
 refine .seq (.block (bv h λy8 hy8 h=>?_))
 refine .via (.iter (λs3 E' W'=>al E' [(0,(sv v_0)),(3,(sv v9))]/\Sep No w W' [ac (sv v9) 229 1 (λ(l:List aj)=>D.row 179 2 (l.map a8)) s3]) (λy9 x E' W'=>x=.exit 4/\al E' [(3,(sv v9))]/\Sep No w W' [ac (sv v9) 229 1 (λ(l:List aj)=>D.row 179 2 (l.map a8)) y9]) hy8 ⟨sb z,s.tk [0]⟩ ?_) ?_
 ·intro s3 y10 E W h hI
  obtain ⟨hE,s⟩:=hI
  refine CW.sub hE ?_
  unfold kM at h
  refine .seq (.g (.q z (.q z (bv h λy11 hy11 h=>.c (.cS (L0:=[ac (sv v9) 229 1 (λ(l:List aj)=>D.row 179 2 (l.map a8)) s3]) s func264 (λS h1 h2 h3=>(tK hy11 (s.ks q_0 h1) h2 (zz h1))) z z ?_)))))
  rintro ⟨⟩ W s
  refine .nil ?_
  refine .cs z h ?_ ?_ <;> intro h
  ·refine .skip (.block (.skip ?_))
   cases h
   exact ⟨z,sb z,s.tk [0]⟩
  refine .exit ?_
  cases h
  exact ⟨by simp,z,sb z,s.tk [0]⟩
 intro x E W hJ
 obtain ⟨rfl,hE,s⟩:=hJ
 refine ⟨_,hE.sub,?_⟩
 obtain rfl:=o9 h
 exact .g (.q z (.qn z (.ret (aa v9 (rt z rn) z (s.tk [0])))))
theorem gq {a0:aj} {a1:Int} {w:World} {r:Bool} (h:gf a0 a1=some r):CL 266 #[.agg #[vi a0.Kind,vi a0.N],vi a1] w (RU w (.bool r)):=by
 unfold gf at h
 refine ao func266 z z ?_
 have s:=Sep.start w
 refine .g (.c (.box s z z ?_))
 intro g1 W s
 refine .qn z (.g (.s (fa f179_0 z z z) z (.s (ld t3 s z z z z z) z (.q z (.q z (.cu 5 13 ((a0.Kind==1)&&(a0.N==a1)) s ?_ ?_))))))
 ·refine .both (a0.Kind==1) (λb=>?_) (λb=>?_)
  ·have hg1:=b
   exact .g hg1 (.s (fa f179_1 z z z) z (.g hg1 (.s (ld t3 s z z z z z) z (.g hg1 (.q z (.g hg1 (.q z (.s (pkt hg1 z z z) z (.nil (ck 5 s z (bp hg1)))))))))))
  exact .xx b z (.xx b z (.xx b z (.xx b z (.s (pkf b z z z) z (.nil (ck 5 s z (bq b)))))))
 intro W s
 cases h
 exact .qn z (.ret (aa () (rt z rn) z (s.to [])))
def wb (w:World) (r:Bool):Env->World->Prop:=Fin Tryz.prog Tryz.f286 No w (λs:Unit=>.bool r) (λs=>[]) .ret
theorem vR {a0:List Int} {a1:Int} {v_0:Hd} {w:World} {r:Bool} (h:mI a0 a1=some r) (q_0:RO w v_0 3 1 (D.int .i64) a0):CL 286 #[sv v_0,vi a1] w (RU w (.bool r)):=by
 unfold mI at h
 refine ao func286 z z ?_
 have s:=Sep.start w
 refine .g (.qn z (.seq (.g (.qn z (.block (bv h λy1 hy1 h=>?_))))))
 refine .via (.iter (λs1 E' W'=>al E' [(0,(sv v_0)),(1,vi a1),(5,vi s1)]/\Sep No w W' []) (λy2 x E' W'=>(match y2 with | .inl o1=>x=.ret/\wb w o1 E' W' | .inr o2=>x=.exit 0/\al E' []/\Sep No w W' [])) hy1 ⟨sb rfl,s.to [] rfl⟩ ?_) ?_
 ·intro s1 y3 E W h hI
  obtain ⟨hE,s⟩:=hI
  refine CW.sub hE ?_
  unfold nv at h
  refine .seq (.g (.q z (.q z (.s (aJ (s.keep q_0) u23 z z) z (.q z (.nil ?_))))))
  refine .cs z h ?_ ?_ <;> intro h
  ·refine .skip (.seq (.block (.g (.q z (.q z (bv h λx1 hx1 h=>.s (ixv (s.keep q_0) hx1 u23 t3 z z z) z (.s (lde (RV.flat (s.keep q_0) hx1 z) t3 z z z z z) z (.q z (.q z (.nil ?_))))))))))
   refine .cs z h ?_ ?_ <;> intro h
   ·refine .g (.qn z (.ret ?_))
    cases h
    exact ⟨by simp,z,aa (vs:=[_]) () (rt z rn) z (s.to [])⟩
   refine .skip (.region (.q z (.q z (.q z (.nil ?_)))))
   cases h
   exact ⟨z,sb z,s.to []⟩
  refine .exit ?_
  cases h
  exact ⟨by simp,z,sb z,s.to []⟩
 intro x E W hJ
 rcases y1 with o3 | o4
 ·have h:=dG h
  obtain ⟨rfl,hF⟩:=hJ
  refine ⟨_,λ_ _ h=>h,?_⟩
  cases h
  exact hF
 have h:=dH h
 obtain ⟨rfl,hE,s⟩:=hJ
 refine ⟨_,hE.sub,?_⟩
 obtain rfl:=o9 h
 exact .g (.qn z (.ret (aa () (rt z rn) z (s.to []))))
theorem l9 {a0:Int} {a1:List Int} {v_1:Hd} {w:World} {r:Bool} (h:fV a0 a1=some r) (q_1:RO w v_1 3 1 (D.int .i64) a1):CL 280 #[vi a0,sv v_1] w (RU w (.bool r)):=by
 unfold fV at h
 refine ao func280 z z ?_
 have s:=Sep.start w
 refine .g (.qn z (.g (.q z (.q z (bv h λy1 hy1 h=>.c (.cO s func286 (vR hy1 (s.keep q_1)) z z ?_))))))
 intro W s
 obtain rfl:=o9 h
 exact .qn z (.ret (aa () (rt z rn) z (s.to [])))
theorem vS {a0:ab} {a1:aj} {a2:aj} {w:World} {r:ab} (h:jw a0 a1 a2=some r):CL 265 #[.agg #[vi a0.Op,vi a0.Dst,vi a0.A,vi a0.B,vi a0.N],.agg #[vi a1.Kind,vi a1.N],.agg #[vi a2.Kind,vi a2.N]] w (RU w (.agg #[vi r.Op,vi r.Dst,vi r.A,vi r.B,vi r.N])):=by
 unfold jw at h
 refine ao func265 z z ?_
 have s:=Sep.start w
 refine .g (.c (.box s z z ?_))
 intro g1 W s
 refine .c (.box s z z ?_)
 intro g2 W s
 refine .c (.box s z z ?_)
 intro g3 W s
 refine .c (.alloc t70 s ?_)
 intro g4 W s
 refine .nil (.g (.s (ld t70 s.p3 z z z z z) z (.s (ld t179 s.p2 z z z z z) z (.s (ld t179 s.p1 z z z z z) z (bv h λy1 hy1 h=>.c (.cO s func279 (nX hy1) z z ?_))))))
 intro W s
 refine .c (.alloc t179 s ?_)
 intro g5 W s
 refine .c (.st t179 s z z z ?_)
 intro W s
 refine .nil (.seq (.block (.g (.s (fa f179_0 z z z) z (.s (ld t3 s z z z z z) z (.q z (.q z (.nil ?_))))))))
 refine .cs z h ?_ ?_ <;> intro h
 ·refine .g (.s (fa f70_1 z z z) z (.s (ld t3 s.p4 z z z z z) z (.s (fa f179_1 z z z) z (.s (ld t3 s z z z z z) z (.s (bs T.s70 z z) z (.c (.st t70 s.p1 z z z ?_)))))))
  intro W s
  cases h
  exact .nil (.ret (aa () (rc s t70 z rn z z) z (s.to [])))
 refine .g (.s (ld t179 s.p2 z z z z z) z (bv h λy2 hy2 h=>.c (.cO s func266 (gq hy2) z z ?_)))
 intro W s
 refine .q z (bv h λb1 hb1 h=>.cu 5 29 (b1) s ?_ ?_)
 ·refine .both (y2) (λb=>?_) (λb=>?_)
  ·have hg1:=b
   have h:=aC b hb1
   refine .g hg1 (.s (fa f70_4 z z z) z (.g hg1 (.s (ld t3 s.p4 z z z z z) z (.g hg1 (.c (.liv [1,2,6,7,8,9] (D.int .i64) u23 t3 s z z z z ?_ z (λ_=>z)))))))
   intro v1 W s
   refine bv h λy3 hy3 h=>.g hg1 (.c (.cO s func280 (l9 hy3 s.lv) z z ?_))
   intro W s
   refine .s (pkt hg1 z z z) z ?_
   cases h
   exact .nil (ck 5 (s.to [1,1,1,1,1]))
  refine .xx b z (.xx b z (.xx b z (.xx b z ?_)))
  cases aD b hb1
  exact .s (pkf b z z z) z (.nil (ck 5 s))
 intro W s
 refine .q z (.nil ?_)
 refine .cs z h ?_ ?_ <;> intro h
 ·refine .g (.s (fa f70_1 z z z) z (.s (ld t3 s.p4 z z z z z) z (.s (fa f70_2 z z z) z (.s (ld t3 s.p4 z z z z z) z (.s (bs T.s70 z z) z (.c (.st t70 s.p1 z z z ?_)))))))
  intro W s
  cases h
  exact .nil (.ret (aa () (rc s t70 z rn z z) z (s.to [])))
 refine .g (.s (ld t179 s.p2 z z z z z) z (bv h λy4 hy4 h=>.c (.cO s func266 (gq hy4) z z ?_)))
 intro W s
 refine .q z (bv h λb2 hb2 h=>.cu 5 43 (b2) s ?_ ?_)
 ·refine .both (y4) (λb=>?_) (λb=>?_)
  ·have hg2:=b
   have h:=aC b hb2
   refine .g hg2 (.s (fa f70_4 z z z) z (.g hg2 (.s (ld t3 s.p4 z z z z z) z (.g hg2 (.c (.liv [10,11] (D.int .i64) u23 t3 s z z z z ?_ z (λ_=>z)))))))
   intro v2 W s
   refine bv h λy5 hy5 h=>.g hg2 (.c (.cO s func280 (l9 hy5 s.lv) z z ?_))
   intro W s
   refine .s (pkt hg2 z z z) z ?_
   cases h
   exact .nil (ck 5 (s.to [1,1,1,1,1]))
  refine .xx b z (.xx b z (.xx b z (.xx b z ?_)))
  cases aD b hb2
  exact .s (pkf b z z z) z (.nil (ck 5 s))
 intro W s
 refine .q z (.nil ?_)
 refine .cs z h ?_ ?_ <;> intro h
 ·refine .g (.s (fa f70_1 z z z) z (.s (ld t3 s.p4 z z z z z) z (.s (fa f70_2 z z z) z (.s (ld t3 s.p4 z z z z z) z (.s (bs T.s70 z z) z (.c (.st t70 s.p1 z z z ?_)))))))
  intro W s
  cases h
  exact .nil (.ret (aa () (rc s t70 z rn z z) z (s.to [])))
 refine .g (.s (ld t179 s.p3 z z z z z) z (bv h λy6 hy6 h=>.c (.cO s func266 (gq hy6) z z ?_)))
 intro W s
 refine .q z (bv h λb3 hb3 h=>.cu 5 57 (b3) s ?_ ?_)
 ·refine .both (y6) (λb=>?_) (λb=>?_)
  ·have hg3:=b
   have h:=aC b hb3
   refine .g hg3 (.s (fa f70_4 z z z) z (.g hg3 (.s (ld t3 s.p4 z z z z z) z (.g hg3 (.c (.liv [1,2,8] (D.int .i64) u23 t3 s z z z z ?_ z (λ_=>z)))))))
   intro v3 W s
   refine bv h λy7 hy7 h=>.g hg3 (.c (.cO s func280 (l9 hy7 s.lv) z z ?_))
   intro W s
   refine .s (pkt hg3 z z z) z ?_
   cases h
   exact .nil (ck 5 (s.to [1,1,1,1,1]))
  refine .xx b z (.xx b z (.xx b z (.xx b z ?_)))
  cases aD b hb3
  exact .s (pkf b z z z) z (.nil (ck 5 s))
 intro W s
 refine .q z (.nil ?_)
 refine .cs z h ?_ ?_ <;> intro h
 ·refine .g (.s (fa f70_1 z z z) z (.s (ld t3 s.p4 z z z z z) z (.s (fa f70_3 z z z) z (.s (ld t3 s.p4 z z z z z) z (.s (bs T.s70 z z) z (.c (.st t70 s.p1 z z z ?_)))))))
  intro W s
  cases h
  exact .nil (.ret (aa () (rc s t70 z rn z z) z (s.to [])))
 refine .g (.s (ld t179 s.p3 z z z z z) z (bv h λy8 hy8 h=>.c (.cO s func266 (gq hy8) z z ?_)))
 intro W s
 refine .q z (.cu 4 70 (y8&&(a0.N==10)) s ?_ ?_)
 ·refine .both (y8) (λb=>?_) (λb=>?_)
  ·have hg4:=b
   exact .g hg4 (.s (fa f70_4 z z z) z (.g hg4 (.s (ld t3 s.p4 z z z z z) z (.g hg4 (.q z (.s (pkt hg4 z z z) z (.nil (ck 4 s z (bp hg4)))))))))
  exact .xx b z (.xx b z (.xx b z (.s (pkf b z z z) z (.nil (ck 4 s z (bq b))))))
 intro W s
 refine .q z (.nil ?_)
 refine .cs z h ?_ ?_ <;> intro h
 ·refine .g (.s (fa f70_1 z z z) z (.s (ld t3 s.p4 z z z z z) z (.s (fa f70_3 z z z) z (.s (ld t3 s.p4 z z z z z) z (.s (bs T.s70 z z) z (.c (.st t70 s.p1 z z z ?_)))))))
  intro W s
  cases h
  exact .nil (.ret (aa () (rc s t70 z rn z z) z (s.to [])))
 refine .g (.s (ld t179 s.p3 z z z z z) z (bv h λy9 hy9 h=>.c (.cO s func266 (gq hy9) z z ?_)))
 intro W s
 refine .q z (bv h λb4 hb4 h=>.cu 3 82 (b4) s ?_ ?_)
 ·refine .both (y9) (λb=>?_) (λb=>?_)
  ·refine .xx b z (.xx b z ?_)
   cases aC b hb4
   exact .s (pkt b z z z) z (.nil (ck 3 s))
  have hg5:=b
  have h:=aD b hb4
  refine .g hg5 (.s (ld t179 s.p2 z z z z z) z (bv h λy10 hy10 h=>.g hg5 (.c (.cO s func266 (gq hy10) z z ?_))))
  intro W s
  refine .s (pkf hg5 z z z) z ?_
  cases h
  exact .nil (ck 3 s)
 intro W s
 refine .q z (bv h λb5 hb5 h=>.cu 5 88 (b5) s ?_ ?_)
 ·refine .both (b4) (λb=>?_) (λb=>?_)
  ·have hg6:=b
   have h:=aC b hb5
   refine .g hg6 (.s (fa f70_4 z z z) z (.g hg6 (.s (ld t3 s.p4 z z z z z) z (.g hg6 (.c (.liv [3,10] (D.int .i64) u23 t3 s z z z z ?_ z (λ_=>z)))))))
   intro v4 W s
   refine bv h λy11 hy11 h=>.g hg6 (.c (.cO s func280 (l9 hy11 s.lv) z z ?_))
   intro W s
   refine .s (pkt hg6 z z z) z ?_
   cases h
   exact .nil (ck 5 (s.to [1,1,1,1,1]))
  refine .xx b z (.xx b z (.xx b z (.xx b z ?_)))
  cases aD b hb5
  exact .s (pkf b z z z) z (.nil (ck 5 s))
 intro W s
 refine .q z (.nil ?_)
 refine .cs z h ?_ ?_ <;> intro h
 ·refine .g (.s (fa f70_1 z z z) z (.s (ld t3 s.p4 z z z z z) z (.s (bs T.s70 z z) z (.c (.st t70 s.p1 z z z ?_)))))
  intro W s
  cases h
  exact .nil (.ret (aa () (rc s t70 z rn z z) z (s.to [])))
 refine .skip (.g (.s (ld t70 s.p4 z z z z z) z (.c (.st t70 s.p1 z z z ?_))))
 intro W s
 obtain rfl:=o9 h
 exact .nil (.ret (aa () (rc s t70 z rn z z) z (s.to [])))
theorem ux {a0:ab} {a1:List aj} {a2:Int} {v_1:Hd} {w:World} {r:ab} (h:ew a0 a1 a2=some r) (q_1:RO w v_1 179 2 a8 a1):CL 241 #[.agg #[vi a0.Op,vi a0.Dst,vi a0.A,vi a0.B,vi a0.N],sv v_1,vi a2] w (RU w (.agg #[vi r.Op,vi r.Dst,vi r.A,vi r.B,vi r.N])):=by
 unfold ew at h
 refine ao func241 z z ?_
 have s:=Sep.start w
 refine .g (.c (.box s z z ?_))
 intro g1 W s
 refine .c (.alloc t70 s ?_)
 intro g2 W s
 refine .nil (.seq (.g (.q z (bv h λx1 hx1 h=>.s (ixv (s.keep q_1) hx1 u229 t179 z z z) z (.s (fe f179_0 z z z) z (.s (lde (RV.flat (s.keep q_1) hx1 z) t3 z z z z z) z (.q z (.nil ?_))))))))
 refine .cs z h ?_ ?_ <;> intro h
 ·refine .g (.s (ld t70 s.p1 z z z z z) z (.c (.st t70 s z z z ?_)))
  intro W s
  obtain rfl:=o9 h
  exact .nil (.ret (aa () (rc s t70 z rn z z) z (s.to [])))
 refine .skip (.seq (.g (.s (fa f70_0 z z z) z (.s (ld t3 s.p1 z z z z z) z (.nil (.block (.g (.q z (.q z (.nil ?_))))))))))
 refine .cs z h ?_ ?_ <;> intro h
 ·refine .g (.q z (.s (fa f70_2 z z z) z (.s (ld t3 s.p1 z z z z z) z (bv h λx2 hx2 h=>.s (ixv (s.keep q_1) hx2 u229 t179 z z z) z (.s (fe f179_0 z z z) z (.s (lde (RV.flat (s.keep q_1) hx2 z) t3 z z z z z) z (.q z (.nil ?_))))))))
  refine .cs z h ?_ ?_ <;> intro h
  ·refine .seq (.rk 9 s [0,0] T.mix ?_)
   intro W s
   have t:=s.to [0,0]
   refine .ts' 0 z (λW t=>fa f70_1 z z z) t z (.ts' 1 z (λW t=>ld t3 t.p1 z z z z z) t z (.tp' 2 z z t (.ts' 3 z (λW t=>fa f70_2 z z z) t z (.ts' 4 z (λW t=>ld t3 t.p1 z z z z z) t z (bv h λx3 hx3 h=>.ts' 5 z (λW t=>ixv (s.keep q_1) hx3 u229 t179 z z z) t z (.ts' 6 z (λW t=>fe f179_1 z z z) t z (.ts' 7 z (λW t=>lde (RV.flat (t.keep q_1) hx3 z) t3 z z z z z) t z (.ts' 8 z (λW t=>bs T.s70 z z) t z (.by1 9 z (.st t70 s z z z ?_))))))))))
   intro W s
   refine ⟨λh=>absurd z h,?_⟩
   cases h
   exact .done (.ret (aa () (rc s t70 z rn z z) z (s.to [])))
  refine .skip (.g (.s (ld t70 s.p1 z z z z z) z (.c (.st t70 s z z z ?_))))
  intro W s
  obtain rfl:=o9 h
  exact .nil (.ret (aa () (rc s t70 z rn z z) z (s.to [])))
 refine .g (.q z (.q z (.nil ?_)))
 refine .cs z h ?_ ?_ <;> intro h
 ·refine .seq (.rk 12 s [0,0] T.mix ?_)
  intro W s
  have t:=s.to [0,0]
  refine .ts' 0 z (λW t=>ld t70 t.p1 z z z z z) t z (.tp' 1 z z t (.ts' 2 z (λW t=>fa f70_2 z z z) t z (.ts' 3 z (λW t=>ld t3 t.p1 z z z z z) t z (bv h λx4 hx4 h=>.ts' 4 z (λW t=>ixv (s.keep q_1) hx4 u229 t179 z z z) t z (.ts' 5 z (λW t=>lde (RV.flat (t.keep q_1) hx4 z) t179 z z z z z) t z (.tp' 6 z z t (.ts' 7 z (λW t=>fa f70_3 z z z) t z (.ts' 8 z (λW t=>ld t3 t.p1 z z z z z) t z (bv h λx5 hx5 h=>.ts' 9 z (λW t=>ixv (s.keep q_1) hx5 u229 t179 z z z) t z (.ts' 10 z (λW t=>lde (RV.flat (t.keep q_1) hx5 z) t179 z z z z z) t z (bv h λy1 hy1 h=>.by1 11 z (.cO s func265 (vS hy1) z z ?_))))))))))))
  intro W s
  refine s.an [0,0] λt=>.by1 12 z (.st t70 s z z z ?_)
  intro W s
  refine ⟨λh=>absurd z h,?_⟩
  obtain rfl:=o9 h
  exact .done (.ret (aa () (rc s t70 z rn z z) z (s.to [])))
 refine .g (.q z (.q z (.nil ?_)))
 refine .cs z h ?_ ?_ <;> intro h
 ·refine .seq (.g (.q z (.s (fa f70_2 z z z) z (.s (ld t3 s.p1 z z z z z) z (bv h λx6 hx6 h=>.s (ixv (s.keep q_1) hx6 u229 t179 z z z) z (.s (lde (RV.flat (s.keep q_1) hx6 z) t179 z z z z z) z (bv h λy2 hy2 h=>.c (.cO s func266 (gq hy2) z z ?_))))))))
  intro W s
  refine .nil ?_
  refine .cs z h ?_ ?_ <;> intro h
  ·refine .g (.s (fa f70_4 z z z) z (.s (ld t3 s.p1 z z z z z) z (.s (bs T.s70 z z) z (.c (.st t70 s z z z ?_)))))
   intro W s
   cases h
   exact .nil (.ret (aa () (rc s t70 z rn z z) z (s.to [])))
  refine .skip (.g (.q z (.s (fa f70_2 z z z) z (.s (ld t3 s.p1 z z z z z) z (bv h λx7 hx7 h=>.s (ixv (s.keep q_1) hx7 u229 t179 z z z) z (.s (fe f179_0 z z z) z (.s (lde (RV.flat (s.keep q_1) hx7 z) t3 z z z z z) z (.q z (.nil ?_)))))))))
  refine .cs z h ?_ ?_ <;> intro h
  ·refine .g (.q z (.q z (.s (bs T.s70 z z) z (.c (.st t70 s z z z ?_)))))
   intro W s
   cases h
   exact .nil (.ret (aa () (rc s t70 z rn z z) z (s.to [])))
  refine .skip (.g (.s (ld t70 s.p1 z z z z z) z (.c (.st t70 s z z z ?_))))
  intro W s
  obtain rfl:=o9 h
  exact .nil (.ret (aa () (rc s t70 z rn z z) z (s.to [])))
 refine .skip (.g (.s (ld t70 s.p1 z z z z z) z (.c (.st t70 s z z z ?_))))
 intro W s
 obtain rfl:=o9 h
 exact .nil (.ret (aa () (rc s t70 z rn z z) z (s.to [])))
theorem tM {a0:List ab} {v_0:Hd} {w:World} {r:(List ab)×Bool} (h:gg a0=some r) (q_0:RO w v_0 70 5 ae a0):CL 196 #[sv v_0] w (Ret No w (λs:Hd=>.tuple #[sv s,.bool r.2]) (λs=>[ac (sv s) 70 5 ae r.1])):=by
 unfold gg at h
 refine ao func196 z z ?_
 have s:=Sep.start w
 refine .g (.q z (.qn z (.g (.c (.liv [] ae u38 t70 s z z z z ?_ z (λ_=>z))))))
 intro v1 W s
 refine .qn z (.seq (.g (.q z (bv h λy1 hy1 h=>.c (.cO s func106 (bx hy1 (s.keep q_0)) z z ?_)))))
 intro W s
 refine .q z (.nil ?_)
 refine .cs z h ?_ ?_ <;> intro h
 ·cases h
  exact .g (.q z (.q z (.qn z (.ret (aa (vs:=[_,_]) v1 (rt z (rt z rn)) z (s.tk [0]))))))
 refine .skip (.g (.q z (bv h λy2 hy2 h=>.c (.cV s func240 (uw hy2 (s.keep q_0)) z z ?_))))
 intro v2 W s
 refine .qn z (.seq (.g (.qn z (.block (bv h λy3 hy3 h=>?_)))))
 refine .via (.iter (λs1 E' W'=>∃ (v5:Hd),al E' [(0,(sv v_0)),(4,(sv v5)),(5,(sv v2)),(6,vi s1.2)]/\Sep No w W' [ac (sv v2) 229 1 (λ(l:List aj)=>D.row 179 2 (l.map a8)) y2,ac (sv v5) 70 5 ae s1.1]) (λy4 x E' W'=>x=.exit 0/\∃ (v6:Hd),al E' [(4,(sv v6))]/\Sep No w W' [ac (sv v2) 229 1 (λ(l:List aj)=>D.row 179 2 (l.map a8)) y2,ac (sv v6) 70 5 ae y4]) hy3 ⟨v1,sb z,s.tk [0,0]⟩ ?_) ?_
 ·intro s1 y5 E W h hI
  obtain ⟨v4,hE,s⟩:=hI
  refine CW.sub hE ?_
  unfold dv at h
  refine .seq (.g (.q z (.q z (.s (aJ (s.keep q_0) u38 z z) z (.q z (.nil ?_))))))
  refine .cs z h ?_ ?_ <;> intro h
  ·refine .skip (.seq (.block (bv h λx1 hx1 h=>?_)))
   obtain ⟨k1,s⟩:=Sep.ov s hx1
   obtain ⟨v7,k1,rfl,s⟩:=s.ow
   obtain ⟨rfl,s⟩:=s.oN
   refine .rk 14 s [0,0] T.mix ?_
   intro W s
   have t:=s.to [0,0]
   refine .tp' 0 z z t (.tp' 1 z z t (.tp' 2 z z t (bv h λx3 hx3 h=>.ts' 3 z (λW t=>ixv (s.keep q_0) hx3 u38 t70 z z z) t z (.ts' 4 z (λW t=>lde (RV.flat (t.keep q_0) hx3 z) t70 z z z z z) t z (.tp' 5 z z t (.tp' 6 z z t (.ts' 7 z (λW t=>ixh t.p1 hx1 u226 t229 z z z) t z (.ts' 8 z (λW t=>lde (t.p1.hcellsv) t229 z z z z z) t z (.tp' 9 z z t (bv h λy7 hy7 h=>.by1 10 z (.cO s func241 (ux hy7 s.lv) z z ?_)))))))))))
   intro W s
   refine s.an [0,0] λt=>.by1 11 z (.liv [y7] ae u38 t70 s z z z z ?_ z (λ_=>z))
   intro v10 W s
   refine s.an [1,1] λt=>bv h λr2 hr2 h=>?_
   have hT0:=s.p3
   refine .by1 12 z (.av hr2 hT0 hT0.p1.lv (λ_=>z) u38 t70 z z z ?_)
   intro v11 W s
   refine s.an [2,2] λt=>.tp' 13 z z t (.done (.region (.q z (.q z (.q z (.nil ?_))))))
   have s:=Sep.gat (ds:=[.row 179 2 (x1.map a8)]) (cs:=[sv v7]) (L1:=[ac (sv v7) 179 2 a8 x1]) (.row (.nil)) (s.to [2,2,0,0])
   have s:Sep _ _ _ [ac (sv v2) 229 1 (λ(l:List aj)=>D.row 179 2 (l.map a8)) y2,ac (sv v11) 70 5 ae r2,ac (sv v10) 70 5 ae [y7]]:=Sep.back0v hx1 s
   cases h
   exact ⟨z,v11,sb z,s.tk [0,0]⟩
  refine .exit ?_
  cases h
  exact ⟨by simp,z,v4,sb z,s.tk [0,0]⟩
 intro x E W hJ
 obtain ⟨rfl,v12,hE,s⟩:=hJ
 refine ⟨_,hE.sub,?_⟩
 cases h
 exact .g (.q z (.q z (.qn z (.ret (aa (vs:=[_,_]) v12 (rt z (rt z rn)) z (s.tk [1]))))))
theorem pe {w:World} {r:(List Int)} (h:fW=some r):CL 267 #[] w (Ret No w (λs:Hd=>(sv s)) (λs=>[ac (sv s) 3 1 (D.int .i64) r])):=by
 unfold fW at h
 refine ao func267 z z ?_
 have s:=Sep.start w
 refine .g (.qn z (.g (.c (.liv [] (D.int .i64) u23 t3 s z z z z ?_ z (λ_=>z)))))
 intro v1 W s
 refine .qn z (.seq (.g (.qn z (.block (bv h λy1 hy1 h=>?_)))))
 refine .via (.iter (λs1 E' W'=>∃ (v4:Hd),al E' [(1,(sv v4)),(2,vi s1.2)]/\Sep No w W' [ac (sv v4) 3 1 (D.int .i64) s1.1]) (λy2 x E' W'=>x=.exit 0/\∃ (v5:Hd),al E' [(1,(sv v5))]/\Sep No w W' [ac (sv v5) 3 1 (D.int .i64) y2]) hy1 ⟨v1,sb z,s.tk [0]⟩ ?_) ?_
 ·intro s1 y3 E W h hI
  obtain ⟨v3,hE,s⟩:=hI
  refine CW.sub hE ?_
  unfold kN at h
  refine .seq (.g (.q z (.q z (.nil ?_))))
  refine .cs z h ?_ ?_ <;> intro h
  ·refine .skip (.seq (.block (.region (.q z (.q z (.c (.liv [s1.2] (D.int .i64) u23 t3 s z z z z ?_ z (λ_=>z))))))))
   intro v6 W s
   refine bv h λr1 hr1 h=>?_
   have hT0:=s.p1
   refine .c (.av hr1 hT0 hT0.p1.lv (λ_=>z) u23 t3 z z z ?_)
   intro v7 W s
   refine .qn z (.region (.q z (.q z (.q z (.nil ?_)))))
   cases h
   exact ⟨z,v7,sb z,s.tk [0]⟩
  refine .exit ?_
  cases h
  exact ⟨by simp,z,v3,sb z,s.tk [0]⟩
 intro x E W hJ
 obtain ⟨rfl,v8,hE,s⟩:=hJ
 refine ⟨_,hE.sub,?_⟩
 obtain rfl:=o9 h
 exact .g (.q z (.qn z (.ret (aa v8 (rt z rn) z (s.tk [0])))))
theorem gX {a0:ab} {w:World} {r:Int} (h:cy a0=some r):CL 157 #[.agg #[vi a0.Op,vi a0.Dst,vi a0.A,vi a0.B,vi a0.N]] w (RU w (.int .i64 r)):=by
 unfold cy at h
 refine ao func157 z z ?_
 have s:=Sep.start w
 refine .g (.c (.box s z z ?_))
 intro g1 W s
 refine .qn z (.seq (.g (.s (ld t70 s z z z z z) z (bv h λy1 hy1 h=>.c (.cO s func154 (l8 hy1) z z ?_)))))
 intro W s
 refine .q z (.nil ?_)
 refine .cs z h ?_ ?_ <;> intro h
 ·cases h
  exact .g (.qn z (.ret (aa () (rt z rn) z (s.to []))))
 refine .skip (.seq (.g (.s (fa f70_0 z z z) z (.s (ld t3 s z z z z z) z (.nil (.block (bv h λy2 hy2 h=>?_)))))))
 refine .seq (CW.via (R':=λx E' W'=>x=.normal/\al E' [(1,Pt g1),(8,.bool y2)]/\Sep No w W' [.box g1 70 [vi a0.Op,vi a0.Dst,vi a0.A,vi a0.B,vi a0.N]]) ?_ ?_)
 ·have h:=hy2
  refine .g (.q z (.q z (.nil ?_)))
  refine .cs z h ?_ ?_ <;> intro h
  ·refine .skip ?_
   cases h
   exact ⟨z,sb z,s.tk [0]⟩
  refine .g (.q z (.q z (.nil ?_)))
  refine .cs z h ?_ ?_ <;> intro h
  ·refine .skip ?_
   cases h
   exact ⟨z,sb z,s.tk [0]⟩
  refine .g (.q z (.q z (.nil ?_)))
  refine .cs z h ?_ ?_ <;> intro h
  ·refine .skip ?_
   cases h
   exact ⟨z,sb z,s.tk [0]⟩
  refine .region (.q z (.q z (.nil ?_)))
  cases h
  exact ⟨z,sb z,s.tk [0]⟩
 intro x E W hJ
 obtain ⟨rfl,hE,s⟩:=hJ
 refine ⟨_,hE.sub,?_⟩
 refine .cs z h ?_ ?_ <;> intro h
 ·cases h
  exact .g (.s (fa f70_1 z z z) z (.s (ld t3 s z z z z z) z (.qn z (.ret (aa () (rt z rn) z (s.to []))))))
 cases h
 exact .skip (.g (.qn z (.ret (aa () (rt z rn) z (s.to [])))))
end

end Go.Proofs.YtfpngipcclmliaaGreatDoor.N
