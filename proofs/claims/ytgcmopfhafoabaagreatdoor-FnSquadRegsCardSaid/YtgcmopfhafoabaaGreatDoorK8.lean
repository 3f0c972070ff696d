/- Printed by a program of mine: that the program's functions compute it. What a row says of its arguments, in the program logic's words: data types in general. Wh -/
import Derived.Test.YtgcmopfhafoabaaGreatDoorK7
import Derived.RowKit
import Derived.ChangeSlices
import Derived.ChangeArms
import Derived.WideShapes
import Derived.OpenShut
import Derived.LaidMore
import Derived.LaidLaws
import GoSem.ClaimJoined
set_option linter.unusedVariables false
set_option linter.unusedSimpArgs false
set_option maxRecDepth 100000
set_option maxHeartbeats 4000000
namespace Go.Proofs.YtgcmopfhafoabaaGreatDoor.N
open Go.Proofs.YtgcmopfhafoabaaGreatDoor.X
open T Tryz
noncomputable section
theorem sD {a0:cI} {a1:cI} {bt:Hd} {aY:Hd} {ba:Hd} {bZ:Hd} {bV:Hd} {aM:Hd} {aI:Hd} {cq:Hd} {w:World} {r:Bool} (h:lh a0 a1=some r) (bz:RO w bt 78 1 (λ(l:List ah)=>D.row 102 5 (l.map aq)) a0.Codes) (aH:RO w aY 60 2 ay a0.Threads) (cR:RO w ba 95 2 aR a0.Boxes) (dU:RO w bZ 3 1 (D.int .i64) a0.Out) (bC:RO w bV 78 1 (λ(l:List ah)=>D.row 102 5 (l.map aq)) a1.Codes) (cQ:RO w aM 60 2 ay a1.Threads) (oS:RO w aI 95 2 aR a1.Boxes) (sC:RO w cq 3 1 (D.int .i64) a1.Out):CL 48 #[.agg #[sv bt,sv aY,sv ba,vi a0.Turn,vi a0.Idle,sv bZ],.agg #[sv bV,sv aM,sv aI,vi a1.Turn,vi a1.Idle,sv cq]] w (RU w (.bool r)):=by
 unfold lh at h
 refine au func48 z z ?_
 have s:=Sep.start w
 refine .g (.c (.box s z z ?_))
 intro g1 W s
 refine .c (.box s z z ?_)
 intro g2 W s
 refine .qn z (.seq (.g (.s (fa f42_1 z z z) z (.s (ld t39 s.p1 z z z z z) z (.s (a8 (s.keep aH) u39 z z) z (.s (fa f42_1 z z z) z (.s (ld t39 s z z z z z) z (.s (a8 (s.keep cQ) u39 z z) z (.q z (.nil ?_))))))))))
 refine .cs z h ?_ ?_ <;> intro h
 ·obtain rfl:=o9 h
  exact .g (.qn z (.ret (ac () (rt z rn) z (s.to []))))
 refine .skip (.seq (.g (.qn z (.block (bv h λy1 hy1 h=>?_)))))
 refine .via (.iter (λs1 E' W'=>aD E' [(2,Pt g1),(3,Pt g2),(5,vi s1)]/\Sep No w W' [.box g2 42 [sv bV,sv aM,sv aI,vi a1.Turn,vi a1.Idle,sv cq],.box g1 42 [sv bt,sv aY,sv ba,vi a0.Turn,vi a0.Idle,sv bZ]]) (λy2 x E' W'=>(match y2 with | .inl o1=>x=.ret/\tY w o1 E' W' | .inr o2=>x=.exit 0/\aD E' [(2,Pt g1),(3,Pt g2)]/\Sep No w W' [.box g2 42 [sv bV,sv aM,sv aI,vi a1.Turn,vi a1.Idle,sv cq],.box g1 42 [sv bt,sv aY,sv ba,vi a0.Turn,vi a0.Idle,sv bZ]])) hy1 ⟨sb rfl,s.to [0,0] rfl⟩ ?_) ?_
 ·intro s1 y3 E W h hI
  obtain ⟨hE,s⟩:=hI
  refine CW.sub hE ?_
  unfold fU at h
  refine .seq (.g (.q z (.s (fa f42_1 z z z) z (.s (ld t39 s.p1 z z z z z) z (.s (a8 (s.keep aH) u39 z z) z (.q z (.nil ?_)))))))
  refine .cs z h ?_ ?_ <;> intro h
  ·refine .skip (.seq (.block (.seq (.rk 12 s [0,0] T.mix ?_))))
   intro W s
   have t:=s.to [0,0]
   refine .ts' 0 z (λW t=>fa f42_1 z z z) t z (.ts' 1 z (λW t=>ld t39 t.p1 z z z z z) t z (.tp' 2 z z t (bv h λx1 hx1 h=>?_)))
   obtain ⟨k1,hd,hck1⟩:=RV.el2 aH hx1
   have hd1:=ri hd
   obtain ⟨v1,k1,rfl,q1,hd2⟩:=c9 aH hd1
   obtain ⟨k1,rfl,hd3⟩:=dJ aH z hd2
   obtain rfl:=iq aH hd3
   refine .ts' 3 z (λW t=>ixv (s.keep aH) hx1 u39 t60 z z z) t z (.ts' 4 z (λW t=>lde (hck1 _ t.agree) t60 z z z z z) t z (.ts' 5 z (λW t=>fa f42_1 z z z) t z (.ts' 6 z (λW t=>ld t39 t z z z z z) t z (.tp' 7 z z t (bv h λx2 hx2 h=>?_)))))
   obtain ⟨k2,hd,hck2⟩:=RV.el2 cQ hx2
   have hd1:=ri hd
   obtain ⟨v2,k2,rfl,q2,hd2⟩:=c9 cQ hd1
   obtain ⟨k2,rfl,hd3⟩:=dJ cQ z hd2
   obtain rfl:=iq cQ hd3
   refine .ts' 8 z (λW t=>ixv (s.keep cQ) hx2 u39 t60 z z z) t z (.ts' 9 z (λW t=>lde (hck2 _ t.agree) t60 z z z z z) t z (bv h λy4 hy4 h=>.by1 10 z (.cO s func93 (rF hy4 (s.keep (q1 _ aH)) (s.keep (q2 _ cQ))) z z ?_)))
   intro W s
   refine s.an [0,0] λt=>.tp' 11 z z t (.done ?_)
   refine .cs z h ?_ ?_ <;> intro h
   ·refine .g (.qn z (.ret ?_))
    cases h
    exact ⟨by simp,z,ac (vs:=[_]) () (rt z rn) z (s.to [])⟩
   refine .skip (.region (.q z (.q z (.q z (.nil ?_)))))
   cases h
   exact ⟨z,sb z,s.to [0,0]⟩
  refine .exit ?_
  cases h
  exact ⟨by simp,z,sb z,s.to [0,0]⟩
 intro x E W hJ
 rcases y1 with o3 | o4
 ·obtain ⟨rfl,hF⟩:=hJ
  refine ⟨_,λ_ _ h=>h,?_⟩
  cases h
  exact hF
 obtain ⟨rfl,hE,s⟩:=hJ
 refine ⟨_,hE.sub,?_⟩
 refine .g (.s (ld t42 s.p1 z z z z z) z (.s (ld t42 s z z z z z) z (bv h λy5 hy5 h=>.c (.cO s func94 (tX hy5 (s.keep bz) (s.keep aH) (s.keep cR) (s.keep dU) (s.keep bC) (s.keep cQ) (s.keep oS) (s.keep sC)) z z ?_))))
 intro W s
 obtain rfl:=o9 h
 exact .qn z (.ret (ac () (rt z rn) z (s.to [])))
theorem oT {a0:cI} {a1:cI} {bt:Hd} {aY:Hd} {ba:Hd} {bZ:Hd} {bV:Hd} {aM:Hd} {aI:Hd} {cq:Hd} {w:World} {r:Bool} (h:eS a0 a1=some r) (bz:RO w bt 78 1 (λ(l:List ah)=>D.row 102 5 (l.map aq)) a0.Codes) (aH:RO w aY 60 2 ay a0.Threads) (cR:RO w ba 95 2 aR a0.Boxes) (dU:RO w bZ 3 1 (D.int .i64) a0.Out) (bC:RO w bV 78 1 (λ(l:List ah)=>D.row 102 5 (l.map aq)) a1.Codes) (cQ:RO w aM 60 2 ay a1.Threads) (oS:RO w aI 95 2 aR a1.Boxes) (sC:RO w cq 3 1 (D.int .i64) a1.Out):CL 19 #[.agg #[sv bt,sv aY,sv ba,vi a0.Turn,vi a0.Idle,sv bZ],.agg #[sv bV,sv aM,sv aI,vi a1.Turn,vi a1.Idle,sv cq]] w (RU w (.bool r)):=by
 unfold eS at h
 refine au func19 z z ?_
 have s:=Sep.start w
 refine .g (.c (.box s z z ?_))
 intro g1 W s
 refine .c (.box s z z ?_)
 intro g2 W s
 refine .qn z (.g (.s (fa f42_0 z z z) z (.s (ld t36 s.p1 z z z z z) z (.s (fa f42_0 z z z) z (.s (ld t36 s z z z z z) z (bv h λy1 hy1 h=>.c (.cO s func47 (sA hy1 (s.keep bz) (s.keep bC)) z z ?_)))))))
 intro W s
 refine .q z (bv h λb1 hb1 h=>.cu 4 14 (b1) s ?_ ?_)
 ·refine .both (y1) (λb=>?_) (λb=>?_)
  ·have hg1:=b
   have h:=aK b hb1
   refine .g hg1 (.s (ld t42 s.p1 z z z z z) z (.g hg1 (.s (ld t42 s z z z z z) z (bv h λy2 hy2 h=>.g hg1 (.c (.cO s func48 (sD hy2 (s.keep bz) (s.keep aH) (s.keep cR) (s.keep dU) (s.keep bC) (s.keep cQ) (s.keep oS) (s.keep sC)) z z ?_))))))
   intro W s
   refine .s (pkt hg1 z z z) z ?_
   cases h
   exact .nil (ck 4 s)
  refine .xx b z (.xx b z (.xx b z ?_))
  cases aL b hb1
  exact .s (pkf b z z z) z (.nil (ck 4 s))
 intro W s
 obtain rfl:=o9 h
 exact .qn z (.ret (ac () (rt z rn) z (s.to [])))
theorem cl {a0:cy} {a1:List Instr} {cW:Hd} {g_0:Nat} {v_1:Hd} {S:Nat->Prop} {w:World} {r:(List Instr)} (h:bK a0 a1=some r) (q_1:RV w (Old S w) (sv v_1) 105 5 aJ a1) (hO:bQ w [ae (sv cW) 105 5 aJ a0.list,.box g_0 171 [vi a0.colors,sv cW]] S) (hlt:∀ b,S b->b<w.heap.size):CL 149 #[Pt g_0,sv v_1] w (Ret S w (λs:Hd=>.tuple #[]) (λs=>[.box g_0 171 [vi a0.colors,sv s],ae (sv s) 105 5 aJ r])):=by
 unfold bK at h
 refine au func149 z z ?_
 have s:=Sep.sm hO hlt
 refine .region (.q z (.q z (.q z (.s (fa f171_1 z z z) z (.s (ld t66 s.p1 z z z z z) z (.q z (bv h λr1 hr1 h=>.c (.av hr1 s (s.keep q_1) (λ_=>z) u66 t105 z z z ?_))))))))
 intro v1 W s
 refine .q z (.s (fa f171_1 z z z) z (.c (.st t66 s.p1 z z z ?_)))
 intro W s
 obtain rfl:=o9 h
 exact .nil (ac (vs:=[]) v1 (rn) z (s.to [0,0]))
theorem ft {a0:cy} {a1:Int} {a2:Int->Option (List Instr)} {cW:Hd} {g_0:Nat} {f_2:FuncId} {c_2:Array Value} {S:Nat->Prop} {w:World} {r:(List Instr)} (h:db a0 a1 a2=some r) (n_2:D9 Tryz.prog f_2) (k_2:∀ {W:World} {b0:Int} {r:List Instr},gc (Old S w) w W->Gl W->a2 b0=some r->CL f_2 (([vi b0]:List Value)++c_2.toList).toArray W (Ret No W (λs:Hd=>(sv s)) (λs=>[ae (sv s) 105 5 aJ r]))) (hO:bQ w [ae (sv cW) 105 5 aJ a0.list,.box g_0 171 [vi a0.colors,sv cW]] S) (hlt:∀ b,S b->b<w.heap.size) (hG:Gl w) (hM:∀ g,g<NGl->¬ S g):CL 142 #[Pt g_0,vi a1,.func (.func f_2) #[] c_2] w (Ret S w (λs:Hd=>.tuple #[]) (λs=>[.box g_0 171 [vi a0.colors,sv s],ae (sv s) 105 5 aJ r])):=by
 unfold db at h
 refine au func142 z z ?_
 have s:=Sep.sm hO hlt
 refine .seq (.g (.q z (.q z (.q z (.s (fa f171_0 z z z) z (.s (ld T.t3 s.p1 z z z z z) z (.qn z (.cond z (λb=>?_) (λb=>?_)))))))))
 ·have h:=aK b h
  refine .g (.q z (.q z (.q z (bv h λx1 hx1 h=>.s (ixt hx1 z u193 T.t3 z z z) z (.s (ldt (hG.at s hM).2.2.2.2 hx1 T.t3 z z z z z) z (bv h λy1 hy1 h=>.c (.callv (vs:=[vi x1]) s n_2 (k_2 s.agree (hG.at s hM) hy1) z z z ?_)))))))
  intro v1 W s
  refine bv h λy2 hy2 h=>?_
  have s:=s.p2.p2
  refine .c (.cS (L0:=[ae (sv cW) 105 5 aJ a0.list,.box g_0 171 [vi a0.colors,sv cW]]) s func149 (λS h1 h2 h3=>(cl hy2 (h3.rdv (k:=0) z) h2 (zz h1))) z z ?_)
  rintro v2 W s
  obtain rfl:=o9 h
  exact .nil (.ret (ac (vs:=[]) v2 (rn) z (s.to [0,0])))
 have h:=aL b h
 refine .skip (.g (.q z (.q z (bv h λy3 hy3 h=>.c (.callv (vs:=[vi 7]) s n_2 (k_2 s.agree (hG.at s hM) hy3) z z z ?_)))))
 intro v3 W s
 refine bv h λy4 hy4 h=>?_
 have s:=s.p2.p2
 refine .c (.cS (L0:=[ae (sv cW) 105 5 aJ a0.list,.box g_0 171 [vi a0.colors,sv cW]]) s func149 (λS h1 h2 h3=>(cl hy4 (h3.rdv (k:=0) z) h2 (zz h1))) z z ?_)
 rintro v4 W s
 refine .nil (.region (.q z (.q z (.q z (.q z (.s (fa f171_0 z z z) z (.s (ld T.t3 s z z z z z) z (.q z (.q z (.s (bs T.s105 z z) z (.c (.liv [(Instr.mk 16 0 2 7 (w64 (4*(w64 (a1-a0.colors)))))] aJ u66 t105 s z z z z ?_ z (λ_=>z)))))))))))))
 intro v5 W s
 refine bv h λy5 hy5 h=>?_
 have s:=s.p1.p2
 refine .c (.cS (L0:=[ae (sv v4) 105 5 aJ y4,.box g_0 171 [vi a0.colors,sv v4]]) s func149 (λS h1 h2 h3=>(cl hy5 (h3.rdv (k:=0) z) h2 (zz h1))) z z ?_)
 rintro v6 W s
 obtain rfl:=o9 h
 exact .nil (ac (vs:=[]) v6 (rn) z (s.to [0,0]))
theorem dM {a0:cy} {a1:Int} {a2:Int} {cW:Hd} {g_0:Nat} {S:Nat->Prop} {w:World} {r:Int×(List Instr)} (h:cN a0 a1 a2=some r) (hO:bQ w [ae (sv cW) 105 5 aJ a0.list,.box g_0 171 [vi a0.colors,sv cW]] S) (hlt:∀ b,S b->b<w.heap.size) (hG:Gl w) (hM:∀ g,g<NGl->¬ S g):CL 145 #[Pt g_0,vi a1,vi a2] w (Ret S w (λs:Hd=>.int .i64 r.1) (λs=>[.box g_0 171 [vi a0.colors,sv s],ae (sv s) 105 5 aJ r.2])):=by
 unfold cN at h
 refine au func145 z z ?_
 have s:=Sep.sm hO hlt
 refine .g (.qn z (.seq (.g (.q z (.q z (.q z (.s (fa f171_0 z z z) z (.s (ld T.t3 s.p1 z z z z z) z (.qn z (.cond z (λb=>?_) (λb=>?_)))))))))))
 ·have h:=aK b h
  refine .g (.q z (bv h λx1 hx1 h=>.s (ixt hx1 z u193 T.t3 z z z) z (.s (ldt (hG.at s hM).2.2.2.2 hx1 T.t3 z z z z z) z (.qn z (.ret ?_)))))
  cases h
  exact ac cW (rt z rn) z (s.to [1,0])
 have h:=aL b h
 refine .skip (.g (.q z (.q z (.q z (.q z (.q z (.s (fa f171_0 z z z) z (.s (ld T.t3 s.p1 z z z z z) z (.q z (.q z (.s (bs T.s105 z z) z (.c (.liv [(Instr.mk 14 a2 2 0 (w64 (4*(w64 (a1-a0.colors)))))] aJ u66 t105 s z z z z ?_ z (λ_=>z))))))))))))))
 intro v1 W s
 refine bv h λy1 hy1 h=>?_
 have s:=s.p2.p2
 refine .c (.cS (L0:=[ae (sv cW) 105 5 aJ a0.list,.box g_0 171 [vi a0.colors,sv cW]]) s func149 (λS h1 h2 h3=>(cl hy1 (h3.rdv (k:=0) z) h2 (zz h1))) z z ?_)
 rintro v2 W s
 cases h
 exact .nil (.g (.q z (.qn z (.ret (ac v2 (rt z rn) z (s.to [0,0]))))))
theorem mJ {a0:cy} {a1:Int} {cW:Hd} {g_0:Nat} {S:Nat->Prop} {w:World} {r:(List Instr)} (h:ey a0 a1=some r) (hO:bQ w [ae (sv cW) 105 5 aJ a0.list,.box g_0 171 [vi a0.colors,sv cW]] S) (hlt:∀ b,S b->b<w.heap.size):CL 148 #[Pt g_0,vi a1] w (Ret S w (λs:Hd=>.tuple #[]) (λs=>[.box g_0 171 [vi a0.colors,sv s],ae (sv s) 105 5 aJ r])):=by
 unfold ey at h
 refine au func148 z z ?_
 have s:=Sep.sm hO hlt
 refine .region (.q z (.q z (.q z (.q z (.s (fa f171_1 z z z) z (.s (ld t66 s.p1 z z z z z) z (.s (a8 s.lv u66 z z) z (.q z (.q z (.s (bs T.s105 z z) z (.c (.liv [(Instr.mk 20 0 0 0 (w64 (a1-(w64 (4*(a0.list.length:Int))))))] aJ u66 t105 s z z z z ?_ z (λ_=>z)))))))))))))
 intro v1 W s
 refine bv h λy1 hy1 h=>?_
 have s:=s.p2.p2
 refine .c (.cS (L0:=[ae (sv cW) 105 5 aJ a0.list,.box g_0 171 [vi a0.colors,sv cW]]) s func149 (λS h1 h2 h3=>(cl hy1 (h3.rdv (k:=0) z) h2 (zz h1))) z z ?_)
 rintro v2 W s
 obtain rfl:=o9 h
 exact .nil (ac (vs:=[]) v2 (rn) z (s.to [0,0]))
theorem eu {a0:cy} {a1:Int} {cW:Hd} {g_0:Nat} {S:Nat->Prop} {w:World} {r:(List Instr)} (h:cZ a0 a1=some r) (hO:bQ w [ae (sv cW) 105 5 aJ a0.list,.box g_0 171 [vi a0.colors,sv cW]] S) (hlt:∀ b,S b->b<w.heap.size):CL 150 #[Pt g_0,vi a1] w (Ret S w (λs:Hd=>.tuple #[]) (λs=>[.box g_0 171 [vi a0.colors,sv s],ae (sv s) 105 5 aJ r])):=by
 unfold cZ at h
 refine au func150 z z ?_
 have s:=Sep.sm hO hlt
 refine .region (.q z (.q z (bv h λy1 hy1 h=>.c (.cO s func64 (eP hy1) z z ?_))))
 intro W s
 refine .s (bs T.s105 z z) z (.c (.liv [y1,(Instr.mk 15 1 0 0 0)] aJ u66 t105 s z z z z ?_ z (λ_=>z)))
 intro v1 W s
 refine bv h λy2 hy2 h=>?_
 have s:=s.p2.p2
 refine .c (.cS (L0:=[ae (sv cW) 105 5 aJ a0.list,.box g_0 171 [vi a0.colors,sv cW]]) s func149 (λS h1 h2 h3=>(cl hy2 (h3.rdv (k:=0) z) h2 (zz h1))) z z ?_)
 rintro v2 W s
 obtain rfl:=o9 h
 exact .nil (ac (vs:=[]) v2 (rn) z (s.to [0,0]))
theorem qP {a0:Int} {a1:Int} {w:World} {r:(List Instr)} (h:gz a0 a1=some r):CL 144 #[vi a0,vi a1] w (Ret No w (λs:Hd=>(sv s)) (λs=>[ae (sv s) 105 5 aJ r])):=by
 unfold gz at h
 refine au func144 z z ?_
 have s:=Sep.start w
 refine .g (.qn z (.seq (.g (.q z (.q z (.q z (.cu 3 12 ((decide (a1>=(-2048)))&&(decide (a1<=2047))) s ?_ ?_)))))))
 ·refine .both (decide (a1>=(-2048))) (λb=>?_) (λb=>?_)
  ·have hg1:=b
   exact .g hg1 (.q z (.g hg1 (.q z (.s (pkt hg1 z z z) z (.nil (ck 3 s z (bi hg1)))))))
  exact .xx b z (.xx b z (.s (pkf b z z z) z (.nil (ck 3 s z (bj b)))))
 intro W s
 refine .nil ?_
 refine .cs z h ?_ ?_ <;> intro h
 ·refine .g (.q z (.q z (bv h λy1 hy1 h=>.c (.cO s func64 (eP hy1) z z ?_))))
  intro W s
  refine .c (.liv [y1] aJ u66 t105 s z z z z ?_ z (λ_=>z))
  intro v1 W s
  cases h
  exact .qn z (.ret (ac v1 (rt z rn) z (s.to [0])))
 refine .skip (.g (.q z (bv h λy2 hy2 h=>.c (.cO s func111 (fb hy2) z z ?_))))
 intro W s
 refine bv h λy3 hy3 h=>.c (.cO s func113 (bU hy3) z z ?_)
 intro W s
 refine bv h λy4 hy4 h=>.c (.cO s func181 (fq hy4) z z ?_)
 intro W s
 refine .qn z (.g (.q z (.q z (.q z (bv h λy5 hy5 h=>.c (.cO s func63 (c4 hy5) z z ?_))))))
 intro W s
 refine bv h λy6 hy6 h=>.c (.cO s func111 (fb hy6) z z ?_)
 intro W s
 refine bv h λy7 hy7 h=>.c (.cO s func113 (bU hy7) z z ?_)
 intro W s
 refine .qn z (.g (.q z (.q z (.s (bs T.s105 z z) z (.q z (.q z (.q z (bv h λy8 hy8 h=>.c (.cO s func64 (eP hy8) z z ?_)))))))))
 intro W s
 refine .c (.liv [(Instr.mk 19 a0 0 0 y7),y8] aJ u66 t105 s z z z z ?_ z (λ_=>z))
 intro v2 W s
 cases h
 exact .qn z (.ret (ac v2 (rt z rn) z (s.to [0])))
theorem qf {a0:Int} {a1:ah} {g_1:Nat} {w:World} {r:(List Instr)} (h:ir a0 a1=some r) (b_1:BR w (Old No w) g_1 102 [vi a1.Op,vi a1.Dst,vi a1.A,vi a1.B,vi a1.N]):CL 143 #[vi a0,Pt g_1] w (Ret No w (λs:Hd=>(sv s)) (λs=>[ae (sv s) 105 5 aJ r])):=by
 unfold ir at h
 refine au func143 z z ?_
 have s:=Sep.start w
 refine .g (.qn z (.g (.q z (.s (fa f102_4 z z z) z (.s (ldb T.t3 (s.keepB b_1) z z z z z) z (bv h λy1 hy1 h=>.c (.cV s func144 (qP hy1) z z ?_)))))))
 intro v1 W s
 obtain rfl:=o9 h
 exact .qn z (.ret (ac v1 (rt z rn) z (s.to [0])))
theorem qg {a0:Int} {a1:Int} {g_1:Nat} {w:World} {r:(List Instr)} (h:iu a0 a1=some r) (b_1:BR w (Old No w) g_1 3 [vi a1]):CL 146 #[vi a0,Pt g_1] w (Ret No w (λs:Hd=>(sv s)) (λs=>[ae (sv s) 105 5 aJ r])):=by
 unfold iu at h
 refine au func146 z z ?_
 have s:=Sep.start w
 refine .g (.qn z (.g (.q z (.s (ldb T.t3 (s.keepB b_1) z z z z z) z (bv h λy1 hy1 h=>.c (.cO s func64 (eP hy1) z z ?_))))))
 intro W s
 refine .c (.liv [y1] aJ u66 t105 s z z z z ?_ z (λ_=>z))
 intro v1 W s
 cases h
 exact .qn z (.ret (ac v1 (rt z rn) z (s.to [0])))
theorem qh {a0:Int} {a1:ah} {a2:Int} {a3:Int} {g_1:Nat} {g_2:Nat} {g_3:Nat} {w:World} {r:(List Instr)} (h:iv a0 a1 a2 a3=some r) (b_1:BR w (Old No w) g_1 102 [vi a1.Op,vi a1.Dst,vi a1.A,vi a1.B,vi a1.N]) (b_2:BR w (Old No w) g_2 3 [vi a2]) (b_3:BR w (Old No w) g_3 3 [vi a3]) (hG:Gl w):CL 147 #[vi a0,Pt g_1,Pt g_2,Pt g_3] w (Ret No w (λs:Hd=>(sv s)) (λs=>[ae (sv s) 105 5 aJ r])):=by
 unfold iv at h
 refine au func147 z z ?_
 have s:=Sep.start w
 refine .g (.qn z (.seq (.rk 11 s [] T.mix ?_)))
 intro W s
 have t:=s.to []
 refine .ts' 0 z (λW t=>fa f102_4 z z z) t z (.ts' 1 z (λW t=>ldb T.t3 (t.keepB b_1) z z z z z) t z (.tp' 2 z z t (bv h λx1 hx1 h=>.ts' 3 z (λW t=>ixt hx1 z u176 T.t3 z z z) t z (.ts' 4 z (λW t=>ldt (hG.at t (λ_ _ h=>h)).2.2.2.1 hx1 T.t3 z z z z z) t z (.tp' 5 z z t (.ts' 6 z (λW t=>ldb T.t3 (t.keepB b_2) z z z z z) t z (.ts' 7 z (λW t=>ldb T.t3 (t.keepB b_3) z z z z z) t z (.ts' 8 z (λW t=>bs T.s105 z z) t z (.by1 9 z (.liv [(Instr.mk x1 a0 a2 a3 0)] aJ u66 t105 s z z z z ?_ z (λ_=>z)))))))))))
 intro v1 W s
 refine s.an [] λt=>.tp' 10 z z t (.done (.seq (.g (.s (fa f102_4 z z z) z (.s (ldb T.t3 (s.keepB b_1) z z z z z) z (.q z (.nil ?_)))))))
 refine .cs z h ?_ ?_ <;> intro h
 ·refine .region (.q z (.q z (.q z (.s (bs T.s105 z z) z (.c (.liv [(Instr.mk 13 a0 a0 0 1)] aJ u66 t105 s z z z z ?_ z (λ_=>z)))))))
  intro v2 W s
  refine bv h λr1 hr1 h=>?_
  have hT0:=s.p1
  refine .c (.av hr1 hT0 hT0.p1.lv (λ_=>z) u66 t105 z z z ?_)
  intro v3 W s
  obtain rfl:=o9 h
  exact .qn z (.g (.q z (.qn z (.ret (ac v3 (rt z rn) z (s.to [0]))))))
 cases h
 exact .skip (.g (.q z (.qn z (.ret (ac v1 (rt z rn) z (s.to [0]))))))
theorem qi {a0:Int} {w:World} {r:(List Instr)} (h:iw a0=some r):CL 151 #[vi a0] w (Ret No w (λs:Hd=>(sv s)) (λs=>[ae (sv s) 105 5 aJ r])):=by
 unfold iw at h
 refine au func151 z z ?_
 have s:=Sep.start w
 refine .g (.qn z (.g (.q z (bv h λy1 hy1 h=>.c (.cO s func64 (eP hy1) z z ?_)))))
 intro W s
 refine .c (.liv [y1] aJ u66 t105 s z z z z ?_ z (λ_=>z))
 intro v1 W s
 cases h
 exact .qn z (.ret (ac v1 (rt z rn) z (s.to [0])))
theorem nH {a0:ah} {a1:Int} {a2:Int} {w:World} {r:(List Instr)} (h:fC a0 a1 a2=some r) (hG:Gl w):CL 97 #[.agg #[vi a0.Op,vi a0.Dst,vi a0.A,vi a0.B,vi a0.N],vi a1,vi a2] w (Ret No w (λs:Hd=>(sv s)) (λs=>[ae (sv s) 105 5 aJ r])):=by
 unfold fC at h
 refine au func97 z z ?_
 have s:=Sep.start w
 refine .g (.c (.box s z z ?_))
 intro g1 W s
 refine .qn z (.g (.q z (.s (bs T.s171 z z) z (.c (.box s z z ?_)))))
 intro g2 W s
 refine .qn z (bv h λy1 hy1 h=>?_)
 refine .seq (CW.via (R':=λx E' W'=>x=.normal/\∃ (v1:Hd),aD E' [(7,Pt g2)]/\Sep No w W' [.box g2 171 [vi a1,sv v1],.box g1 102 [vi a0.Op,vi a0.Dst,vi a0.A,vi a0.B,vi a0.N],ae (sv v1) 105 5 aJ y1]) ?_ ?_)
 ·have h:=hy1
  refine .g (.s (fa f102_0 z z z) z (.s (ld T.t3 s.p1 z z z z z) z (.nil (.block (.g (.q z (.qn z (.cond z (λb=>?_) (λb=>?_)))))))))
  ·have h:=aK b h
   refine .region (.q z (.s (fa f102_1 z z z) z (.s (ld T.t3 s.p1 z z z z z) z (.s (mf z z) z ?_))))
   have s:=s.nilv 105 5 aJ
   refine bv h λy2 hy2 h=>?_
   have s:=s.p1.p1
   refine .c (.cS (L0:=[ae (sv aA) 105 5 aJ [],.box g2 171 [vi a1,sv aA]]) s func142 (λS h1 h2 h3=>(ft hy2 ⟨_,func143,z,by kernel_rfl⟩ (λhA hg h=>qf h ((h3.boxS (k:=0) z).agree hA)) h2 (zz h1) (hG.at s (λ_ _ h=>h)) (hG.noS (λ_ _ h=>h) h1))) z z ?_)
   rintro v2 W s
   refine .nil ?_
   obtain rfl:=o9 h
   exact ⟨z,v2,sb z,s.to [0,1,0]⟩
  have h:=aL b h
  refine .g (.q z (.qn z (.cond z (λb=>?_) (λb=>?_))))
  ·have h:=aK b h
   refine .g (.q z (.s (fa f102_2 z z z) z (.s (ld T.t3 s.p1 z z z z z) z ?_)))
   have s:=s.nilv 105 5 aJ
   refine bv h λy3 hy3 h=>?_
   have s:=s.p1.p1
   refine .c (.cS (L0:=[ae (sv aA) 105 5 aJ [],.box g2 171 [vi a1,sv aA]]) s func145 (λS h1 h2 h3=>(dM hy3 h2 (zz h1) (hG.at s (λ_ _ h=>h)) (hG.noS (λ_ _ h=>h) h1))) z z ?_)
   rintro v3 W s
   refine .c (.alloc T.t3 s ?_)
   intro g3 W s
   refine .c (.st T.t3 s z z z ?_)
   intro W s
   refine .nil (.region (.q z (.s (fa f102_1 z z z) z (.s (ld T.t3 s.p3 z z z z z) z (.s (mf z z) z (bv h λy4 hy4 h=>?_))))))
   have s:=s.p1.p2
   refine .c (.cS (L0:=[ae (sv v3) 105 5 aJ y3.2,.box g2 171 [vi a1,sv v3]]) s func142 (λS h1 h2 h3=>(ft hy4 ⟨_,func146,z,by kernel_rfl⟩ (λhA hg h=>qg h ((h3.boxS (k:=0) z).agree hA)) h2 (zz h1) (hG.at s (λ_ _ h=>h)) (hG.noS (λ_ _ h=>h) h1))) z z ?_)
   rintro v4 W s
   refine .nil ?_
   obtain rfl:=o9 h
   exact ⟨z,v4,sb z,s.to [0,2,0]⟩
  have h:=aL b h
  refine .g (.q z (.qn z (.cond z (λb=>?_) (λb=>?_))))
  ·have h:=aK b h
   refine .g (.q z (.s (fa f102_2 z z z) z (.s (ld T.t3 s.p1 z z z z z) z ?_)))
   have s:=s.nilv 105 5 aJ
   refine bv h λy5 hy5 h=>?_
   have s:=s.p1.p1
   refine .c (.cS (L0:=[ae (sv aA) 105 5 aJ [],.box g2 171 [vi a1,sv aA]]) s func145 (λS h1 h2 h3=>(dM hy5 h2 (zz h1) (hG.at s (λ_ _ h=>h)) (hG.noS (λ_ _ h=>h) h1))) z z ?_)
   rintro v5 W s
   refine .c (.alloc T.t3 s ?_)
   intro g4 W s
   refine .c (.st T.t3 s z z z ?_)
   intro W s
   refine .nil (.g (.q z (.s (fa f102_3 z z z) z (.s (ld T.t3 s.p3 z z z z z) z (bv h λy6 hy6 h=>?_)))))
   have s:=s.p1.p2
   refine .c (.cS (L0:=[ae (sv v5) 105 5 aJ y5.2,.box g2 171 [vi a1,sv v5]]) s func145 (λS h1 h2 h3=>(dM hy6 h2 (zz h1) (hG.at s (λ_ _ h=>h)) (hG.noS (λ_ _ h=>h) h1))) z z ?_)
   rintro v6 W s
   refine .c (.alloc T.t3 s ?_)
   intro g5 W s
   refine .c (.st T.t3 s z z z ?_)
   intro W s
   refine .nil (.region (.q z (.s (fa f102_1 z z z) z (.s (ld T.t3 s.p4 z z z z z) z (.s (mf z z) z (bv h λy7 hy7 h=>?_))))))
   have s:=s.p1.p2
   refine .c (.cS (L0:=[ae (sv v6) 105 5 aJ y6.2,.box g2 171 [vi a1,sv v6]]) s func142 (λS h1 h2 h3=>(ft hy7 ⟨_,func147,z,by kernel_rfl⟩ (λhA hg h=>qh h ((h3.boxS (k:=2) z).agree hA) ((h3.boxS (k:=1) z).agree hA) ((h3.boxS (k:=0) z).agree hA) hg) h2 (zz h1) (hG.at s (λ_ _ h=>h)) (hG.noS (λ_ _ h=>h) h1))) z z ?_)
   rintro v7 W s
   refine .nil ?_
   obtain rfl:=o9 h
   exact ⟨z,v7,sb z,s.to [0,3,0]⟩
  have h:=aL b h
  refine .g (.q z (.qn z (.cond z (λb=>?_) (λb=>?_))))
  ·have h:=aK b h
   refine .region (.q z (.q z ?_))
   have s:=s.nilv 105 5 aJ
   refine bv h λy8 hy8 h=>?_
   have s:=s.p1.p1
   refine .c (.cS (L0:=[ae (sv aA) 105 5 aJ [],.box g2 171 [vi a1,sv aA]]) s func148 (λS h1 h2 h3=>(mJ hy8 h2 (zz h1))) z z ?_)
   rintro v8 W s
   refine .nil ?_
   obtain rfl:=o9 h
   exact ⟨z,v8,sb z,s.to [0,1,0]⟩
  have h:=aL b h
  refine .g (.q z (.qn z (.cond z (λb=>?_) (λb=>?_))))
  ·have h:=aK b h
   refine .g (.q z (.q z (.s (fa f102_2 z z z) z (.s (ld T.t3 s.p1 z z z z z) z ?_))))
   have s:=s.nilv 105 5 aJ
   refine bv h λy9 hy9 h=>?_
   have s:=s.p1.p1
   refine .c (.cS (L0:=[ae (sv aA) 105 5 aJ [],.box g2 171 [vi a1,sv aA]]) s func145 (λS h1 h2 h3=>(dM hy9 h2 (zz h1) (hG.at s (λ_ _ h=>h)) (hG.noS (λ_ _ h=>h) h1))) z z ?_)
   rintro v9 W s
   refine .s (bs T.s105 z z) z (.c (.liv [(Instr.mk 18 0 y9.1 0 8)] aJ u66 t105 s z z z z ?_ z (λ_=>z)))
   intro v10 W s
   refine bv h λy10 hy10 h=>?_
   have s:=s.p1.p2
   refine .c (.cS (L0:=[ae (sv v9) 105 5 aJ y9.2,.box g2 171 [vi a1,sv v9]]) s func149 (λS h1 h2 h3=>(cl hy10 (h3.rdv (k:=0) z) h2 (zz h1))) z z ?_)
   rintro v11 W s
   refine .nil (.region (.q z (.q z (bv h λy11 hy11 h=>?_))))
   have s:=s.p1
   refine .c (.cS (L0:=[ae (sv v11) 105 5 aJ y10,.box g2 171 [vi a1,sv v11]]) s func148 (λS h1 h2 h3=>(mJ hy11 h2 (zz h1))) z z ?_)
   rintro v12 W s
   refine .nil ?_
   obtain rfl:=o9 h
   exact ⟨z,v12,sb z,s.to [0,2,0]⟩
  have h:=aL b h
  refine .g (.q z (.qn z (.cond z (λb=>?_) (λb=>?_))))
  ·have h:=aK b h
   refine .seq (.rk 11 s [1] T.mix ?_)
   intro W s
   have t:=s.to [1]
   refine .tp' 0 z z t (.tp' 1 z z t (.ts' 2 z (λW t=>fa f102_2 z z z) t z (.ts' 3 z (λW t=>ld T.t3 t z z z z z) t z (.ts' 6 z (λW t=>fa f102_4 z z z) t z (.ts' 7 z (λW t=>ld T.t3 t z z z z z) t z ?_)))))
   have s:=s.nilv 105 5 aJ
   refine bv h λy12 hy12 h=>?_
   have s:=s.p1.p1
   refine .by1 4 z (.cS (L0:=[ae (sv aA) 105 5 aJ [],.box g2 171 [vi a1,sv aA]]) s func145 (λS h1 h2 h3=>(dM hy12 h2 (zz h1) (hG.at s (λ_ _ h=>h)) (hG.noS (λ_ _ h=>h) h1))) z z ?_)
   rintro v13 W s
   refine s.an [2] λt=>bv h λy13 hy13 h=>.by1 5 z (.cO s func64 (eP hy13) z z ?_)
   intro W s
   refine s.an [2] λt=>bv h λy14 hy14 h=>.by1 8 z (.cO s func64 (eP hy14) z z ?_)
   intro W s
   refine s.an [2] λt=>.by1 9 z (.liv [y13,y14] aJ u66 t105 s z z z z ?_ z (λ_=>z))
   intro v14 W s
   refine s.an [3] λt=>bv h λy15 hy15 h=>?_
   have s:=s.p1.p2
   refine .by1 10 z (.cS (L0:=[ae (sv v13) 105 5 aJ y12.2,.box g2 171 [vi a1,sv v13]]) s func149 (λS h1 h2 h3=>(cl hy15 (h3.rdv (k:=0) z) h2 (zz h1))) z z ?_)
   rintro v15 W s
   refine s.an [3] λt=>.done (.region (.q z (bv h λy16 hy16 h=>?_)))
   have s:=s.p1
   refine .c (.cS (L0:=[ae (sv v15) 105 5 aJ y15,.box g2 171 [vi a1,sv v15]]) s func150 (λS h1 h2 h3=>(eu hy16 h2 (zz h1))) z z ?_)
   rintro v16 W s
   refine .nil ?_
   obtain rfl:=o9 h
   exact ⟨z,v16,sb z,s.to [0,2,0]⟩
  have h:=aL b h
  refine .g (.q z (.qn z (.cond z (λb=>?_) (λb=>?_))))
  ·have h:=aK b h
   refine .g (.q z (.s (fa f102_4 z z z) z (.s (ld T.t3 s.p1 z z z z z) z (bv h λy17 hy17 h=>.c (.cO s func64 (eP hy17) z z ?_)))))
   intro W s
   refine .c (.liv [y17] aJ u66 t105 s z z z z ?_ z (λ_=>z))
   intro v17 W s
   have s:=s.nilv 105 5 aJ
   refine bv h λy18 hy18 h=>?_
   have s:=s.p2.p1
   refine .c (.cS (L0:=[ae (sv aA) 105 5 aJ [],.box g2 171 [vi a1,sv aA]]) s func149 (λS h1 h2 h3=>(cl hy18 (h3.rdv (k:=0) z) h2 (zz h1))) z z ?_)
   rintro v18 W s
   refine .nil (.g (.q z (bv h λy19 hy19 h=>?_)))
   have s:=s.p1
   refine .c (.cS (L0:=[ae (sv v18) 105 5 aJ y18,.box g2 171 [vi a1,sv v18]]) s func150 (λS h1 h2 h3=>(eu hy19 h2 (zz h1))) z z ?_)
   rintro v19 W s
   refine .nil (.region (.q z (.s (fa f102_1 z z z) z (.s (ld T.t3 s.p3 z z z z z) z (bv h λy20 hy20 h=>?_)))))
   have s:=s.p1
   refine .c (.cS (L0:=[ae (sv v19) 105 5 aJ y19,.box g2 171 [vi a1,sv v19]]) s func142 (λS h1 h2 h3=>(ft hy20 ⟨_,func151,z,by kernel_rfl⟩ (λhA hg h=>qi h) h2 (zz h1) (hG.at s (λ_ _ h=>h)) (hG.noS (λ_ _ h=>h) h1))) z z ?_)
   rintro v20 W s
   refine .nil ?_
   obtain rfl:=o9 h
   exact ⟨z,v20,sb z,s.to [0,2,0]⟩
  have h:=aL b h
  refine .g (.q z (.qn z (.cond z (λb=>?_) (λb=>?_))))
  ·have h:=aK b h
   refine .region (.q z ?_)
   have s:=s.nilv 105 5 aJ
   refine bv h λy21 hy21 h=>?_
   have s:=s.p1.p1
   refine .c (.cS (L0:=[ae (sv aA) 105 5 aJ [],.box g2 171 [vi a1,sv aA]]) s func150 (λS h1 h2 h3=>(eu hy21 h2 (zz h1))) z z ?_)
   rintro v21 W s
   refine .nil ?_
   obtain rfl:=o9 h
   exact ⟨z,v21,sb z,s.to [0,1,0]⟩
  have h:=aL b h
  refine .g (.q z (.qn z (.cond z (λb=>?_) (λb=>?_))))
  ·have h:=aK b h
   refine .g (.q z (.q z (.s (fa f102_2 z z z) z (.s (ld T.t3 s.p1 z z z z z) z ?_))))
   have s:=s.nilv 105 5 aJ
   refine bv h λy22 hy22 h=>?_
   have s:=s.p1.p1
   refine .c (.cS (L0:=[ae (sv aA) 105 5 aJ [],.box g2 171 [vi a1,sv aA]]) s func145 (λS h1 h2 h3=>(dM hy22 h2 (zz h1) (hG.at s (λ_ _ h=>h)) (hG.noS (λ_ _ h=>h) h1))) z z ?_)
   rintro v22 W s
   refine bv h λy23 hy23 h=>.c (.cO s func64 (eP hy23) z z ?_)
   intro W s
   refine .c (.liv [y23] aJ u66 t105 s z z z z ?_ z (λ_=>z))
   intro v23 W s
   refine bv h λy24 hy24 h=>?_
   have s:=s.p1.p2
   refine .c (.cS (L0:=[ae (sv v22) 105 5 aJ y22.2,.box g2 171 [vi a1,sv v22]]) s func149 (λS h1 h2 h3=>(cl hy24 (h3.rdv (k:=0) z) h2 (zz h1))) z z ?_)
   rintro v24 W s
   refine .nil (.region (.q z (bv h λy25 hy25 h=>?_)))
   have s:=s.p1
   refine .c (.cS (L0:=[ae (sv v24) 105 5 aJ y24,.box g2 171 [vi a1,sv v24]]) s func150 (λS h1 h2 h3=>(eu hy25 h2 (zz h1))) z z ?_)
   rintro v25 W s
   refine .nil ?_
   obtain rfl:=o9 h
   exact ⟨z,v25,sb z,s.to [0,2,0]⟩
  have h:=aL b h
  refine .g (.q z (.qn z (.cond z (λb=>?_) (λb=>?_))))
  ·have h:=aK b h
   refine .region (.q z ?_)
   have s:=s.nilv 105 5 aJ
   refine bv h λy26 hy26 h=>?_
   have s:=s.p1.p1
   refine .c (.cS (L0:=[ae (sv aA) 105 5 aJ [],.box g2 171 [vi a1,sv aA]]) s func150 (λS h1 h2 h3=>(eu hy26 h2 (zz h1))) z z ?_)
   rintro v26 W s
   refine .nil ?_
   obtain rfl:=o9 h
   exact ⟨z,v26,sb z,s.to [0,1,0]⟩
  have h:=aL b h
  refine .skip ?_
  have s:=s.nilv 105 5 aJ
  cases h
  exact ⟨z,aA,sb z,s.to [1,1,0]⟩
 intro x E W hJ
 obtain ⟨rfl,v27,hE,s⟩:=hJ
 refine ⟨_,hE.sub,?_⟩
 obtain rfl:=o9 h
 exact .g (.q z (.q z (.s (fa f171_1 z z z) z (.s (ld t66 s z z z z z) z (.qn z (.ret (ac v27 (rt z rn) z (s.to [2]))))))))
theorem rG {a0:List ah} {a1:Int} {v_0:Hd} {w:World} {r:(List Int)} (h:hP a0 a1=some r) (q_0:RO w v_0 102 5 aq a0) (hG:Gl w):CL 95 #[sv v_0,vi a1] w (Ret No w (λs:{x:Hd // vf x=List.isEmpty r}=>(sv s.1)) (λs=>[ae (sv s.1) 3 1 (D.int .i64) r])):=by
 unfold hP at h
 refine au func95 z z ?_
 have s:=Sep.start w
 refine .g (.qn z (.seq (.g (.q z (bv h λy1 hy1 h=>.c (.cO s func134 (nZ hy1 (s.keep q_0)) z z ?_))))))
 intro W s
 refine .q z (.q z (.cu 3 15 ((!y1)||(decide (a1<1))) s ?_ ?_))
 ·refine .both (!y1) (λb=>?_) (λb=>?_)
  ·exact .xx b z (.xx b z (.s (pkt b z z z) z (.nil (ck 3 s z (ff b)))))
  have hg1:=b
  exact .g hg1 (.q z (.g hg1 (.q z (.s (pkf hg1 z z z) z (.nil (ck 3 s z (fg hg1)))))))
 intro W s
 refine .q z (.cu 3 19 (((!y1)||(decide (a1<1)))||(decide (a1>8))) s ?_ ?_)
 ·refine .both ((!y1)||(decide (a1<1))) (λb=>?_) (λb=>?_)
  ·exact .xx b z (.xx b z (.s (pkt b z z z) z (.nil (ck 3 s z (ff b)))))
  have hg2:=b
  exact .g hg2 (.q z (.g hg2 (.q z (.s (pkf hg2 z z z) z (.nil (ck 3 s z (fg hg2)))))))
 intro W s
 refine .nil ?_
 refine .cs z h ?_ ?_ <;> intro h
 ·refine .g (.qn z (.ret ?_))
  have s:=s.nilv 3 1 (D.int .i64)
  cases h
  exact ac ⟨aA,z⟩ (rt z rn) z (s.to [0])
 refine .skip (.g (.qn z (.g (.qn z (.seq (.g (.q z (.s (a8 (s.keep q_0) u78 z z) z (.qn z (.block ?_))))))))))
 have s:=s.nilv 3 1 (D.int .i64)
 refine bv h λy2 hy2 h=>?_
 refine .via (.iter (λs1 E' W'=>∃ (v3:Hd),(vf v3=List.isEmpty s1.1)/\aD E' [(1,vi a1),(5,(sv v3)),(6,vi s1.2.1),(20,(sv v_0)),(21,vi (a0.length:Int)),(22,vi s1.2.2)]/\Sep No w W' [ae (sv v3) 3 1 (D.int .i64) s1.1]) (λy3 x E' W'=>x=.exit 0/\∃ (v4:Hd),(vf v4=List.isEmpty y3)/\aD E' [(5,(sv v4))]/\Sep No w W' [ae (sv v4) 3 1 (D.int .i64) y3]) hy2 ⟨aA,z,sb z,s.to [0]⟩ ?_) ?_
 ·intro s1 y4 E W h hI
  obtain ⟨v2,q2,hE,s⟩:=hI
  refine CW.sub hE ?_
  unfold ki at h
  refine .g (.qn z (.seq ?_))
  refine .cs z h ?_ ?_ <;> intro h
  ·refine .skip (.seq (.block (.g (bv h λx1 hx1 h=>.s (ixv (s.keep q_0) hx1 u78 t102 z z z) z (.s (lde (RV.flat (s.keep q_0) hx1 z) t102 z z z z z) z (.c (.alloc t102 s ?_)))))))
   intro g1 W s
   refine .c (.st t102 s z z z ?_)
   intro W s
   refine .nil (.g (.q z (.q z (.c (.liv [s1.2.1] (D.int .i64) u23 T.t3 s z z z z ?_ z (λ_=>z))))))
   intro v5 W s
   refine bv h λr1 hr1 h=>?_
   have hT0:=s.p2
   refine .c (.av hr1 hT0 hT0.p1.lv (λ_=>z) u23 T.t3 z z z ?_)
   intro v6 W s
   have hz1:=Sep.nz s (Dq hr1 (by simp))
   refine .qn z (.region (.q z (.s (ld t102 s.p2 z z z z z) z (.q z (bv h λy5 hy5 h=>.c (.cV s func97 (nH hy5 (hG.at s (λ_ _ h=>h))) z z ?_))))))
   intro v7 W s
   refine .s (a8 s.lv u66 z z) z (.q z (.qn z (.region (.q z (.q z (.nil ?_))))))
   cases h
   exact ⟨z,v6,hz1,sb z,s.to [1]⟩
  refine .exit ?_
  cases h
  exact ⟨by simp,z,v2,q2,sb z,s.to [0]⟩
 intro x E W hJ
 obtain ⟨rfl,v8,q5,hE,s⟩:=hJ
 refine ⟨_,hE.sub,?_⟩
 obtain rfl:=o9 h
 exact .g (.q z (.qn z (.ret (ac ⟨v8,q5⟩ (rt z rn) z (s.to [0])))))
theorem sE {a0:ah} {w:World} {r:Bool} (h:lj a0=some r):CL 96 #[.agg #[vi a0.Op,vi a0.Dst,vi a0.A,vi a0.B,vi a0.N]] w (RU w (.bool r)):=by
 unfold lj at h
 refine au func96 z z ?_
 have s:=Sep.start w
 refine .g (.c (.box s z z ?_))
 intro g1 W s
 refine .qn z (.g (.s (fa f102_0 z z z) z (.s (ld T.t3 s z z z z z) z (.q z (.q z (.cu 4 10 ((a0.Op==4)||(a0.Op==5)) s ?_ ?_))))))
 ·refine .both (a0.Op==4) (λb=>?_) (λb=>?_)
  ·exact .xx b z (.xx b z (.xx b z (.s (pkt b z z z) z (.nil (ck 4 s z (ff b))))))
  have hg1:=b
  exact .g hg1 (.s (fa f102_0 z z z) z (.g hg1 (.s (ld T.t3 s z z z z z) z (.g hg1 (.q z (.s (pkf hg1 z z z) z (.nil (ck 4 s z (fg hg1)))))))))
 intro W s
 cases h
 exact .qn z (.ret (ac () (rt z rn) z (s.to [])))
theorem rH {a0:List ah} {a1:Int} {v_0:Hd} {w:World} {r:(List Instr)×Bool} (h:hU a0 a1=some r) (q_0:RO w v_0 102 5 aq a0) (hG:Gl w):CL 49 #[sv v_0,vi a1] w (Ret No w (λs:Hd=>.tuple #[sv s,.bool r.2]) (λs=>[ae (sv s) 105 5 aJ r.1])):=by
 unfold hU at h
 refine au func49 z z ?_
 have s:=Sep.start w
 refine .g (.q z (.qn z (.g (.q z (.q z (bv h λy1 hy1 h=>.c (.call s func95 (rG hy1 (s.keep q_0) (hG.at s (λ_ _ h=>h))) z z ?_)))))))
 rintro ⟨v1,q1⟩ W s
 refine .qn z (.seq (.g (.q z (.s (Dp u23 z z) z (.nil (.cond z (λb=>?_) (λb=>?_)))))))
 ·have h:=aK (q1.symm.trans b) h
  refine .g (.q z (.qn z (.ret ?_)))
  have s:=s.nilv 105 5 aJ
  cases h
  exact ac (vs:=[_,_]) aA (rt z (rt z rn)) z (s.to [0])
 have h:=aL (q1.symm.trans b) h
 refine .skip (.g (.qn z (.seq (.g (.q z (.s (a8 (s.keep q_0) u78 z z) z (.qn z (.block ?_))))))))
 have s:=s.nilv 105 5 aJ
 refine bv h λy2 hy2 h=>?_
 refine .via (.iter (λs1 E' W'=>∃ (v4:Hd),aD E' [(1,vi a1),(6,(sv v1)),(7,(sv v4)),(16,(sv v_0)),(17,vi (a0.length:Int)),(18,vi s1.2)]/\Sep No w W' [ae (sv v1) 3 1 (D.int .i64) y1,ae (sv v4) 105 5 aJ s1.1]) (λy3 x E' W'=>x=.exit 0/\∃ (v5:Hd),aD E' [(7,(sv v5))]/\Sep No w W' [ae (sv v1) 3 1 (D.int .i64) y1,ae (sv v5) 105 5 aJ y3]) hy2 ⟨aA,sb z,s.to [1,0]⟩ ?_) ?_
 ·intro s1 y4 E W h hI
  obtain ⟨v3,hE,s⟩:=hI
  refine CW.sub hE ?_
  unfold kj at h
  refine .g (.qn z (.seq ?_))
  refine .cs z h ?_ ?_ <;> intro h
  ·refine .skip (.seq (.block (.g (.q z (bv h λx1 hx1 h=>.s (ixv (s.keep q_0) hx1 u78 t102 z z z) z (.s (lde (RV.flat (s.keep q_0) hx1 z) t102 z z z z z) z (.c (.alloc t102 s ?_))))))))
   intro g1 W s
   refine .q z (.c (.st t102 s z z z ?_))
   intro W s
   refine .nil (.g (.qn z (bv h λy5 hy5 h=>?_)))
   refine .seq (CW.via (R':=λx E' W'=>x=.normal/\aD E' [(1,vi a1),(6,(sv v1)),(7,(sv v3)),(9,Pt g1),(10,vi y5),(16,(sv v_0)),(17,vi (a0.length:Int)),(18,vi s1.2)]/\Sep No w W' [.box g1 102 [vi x1.Op,vi x1.Dst,vi x1.A,vi x1.B,vi x1.N],ae (sv v1) 3 1 (D.int .i64) y1,ae (sv v3) 105 5 aJ s1.1]) ?_ ?_)
   ·have h:=hy5
    refine .g (.s (ld t102 s z z z z z) z (bv h λy6 hy6 h=>.c (.cO s func96 (sE hy6) z z ?_)))
    intro W s
    refine .nil ?_
    refine .cs z h ?_ ?_ <;> intro h
    ·refine .rk 12 s [0,0,0] T.mix ?_
     intro W s
     have t:=s.to [0,0,0]
     refine .tp' 0 z z t (.ts' 1 z (λW t=>fa f102_4 z z z) t z (.ts' 2 z (λW t=>ld T.t3 t z z z z z) t z (bv h λx2 hx2 h=>.ts' 3 z (λW t=>ixv s.p1.lv hx2 u23 T.t3 z z z) t z (.ts' 4 z (λW t=>lde (RV.flat t.p1.lv hx2 z) T.t3 z z z z z) t z (.tp' 5 z z t (.tp' 6 z z t (bv h λx3 hx3 h=>.ts' 7 z (λW t=>ixv s.p1.lv hx3 u23 T.t3 z z z) t z (.ts' 8 z (λW t=>lde (RV.flat t.p1.lv hx3 z) T.t3 z z z z z) t z (.tp' 9 z z t (.tp' 10 z z t (.tp' 11 z z t (.done ?_))))))))))))
     cases h
     exact ⟨z,sb z,s.to [0,0,0]⟩
    refine .skip ?_
    cases h
    exact ⟨z,sb z,s.to [0,0,0]⟩
   intro x E W hJ
   obtain ⟨rfl,hE,s⟩:=hJ
   refine ⟨_,hE.sub,?_⟩
   refine .region (.q z (.s (ld t102 s z z z z z) z (.q z (.q z (bv h λy7 hy7 h=>.c (.cV s func97 (nH hy7 (hG.at s (λ_ _ h=>h))) z z ?_))))))
   intro v6 W s
   refine bv h λr1 hr1 h=>?_
   have hT0:=s.p3
   refine .c (.av hr1 hT0 hT0.p1.lv (λ_=>z) u66 t105 z z z ?_)
   intro v7 W s
   refine .qn z (.region (.q z (.q z (.nil ?_))))
   cases h
   exact ⟨z,v7,sb z,s.to [3,0]⟩
  refine .exit ?_
  cases h
  exact ⟨by simp,z,v3,sb z,s.to [0,0]⟩
 intro x E W hJ
 obtain ⟨rfl,v8,hE,s⟩:=hJ
 refine ⟨_,hE.sub,?_⟩
 cases h
 exact .g (.q z (.q z (.qn z (.ret (ac (vs:=[_,_]) v8 (rt z (rt z rn)) z (s.to [1]))))))
theorem uK {a0:List (List ah)} {a1:Int} {v_0:Hd} {w:World} {r:(List (List Instr))} (h:lk a0 a1=some r) (q_0:RO w v_0 78 1 (λ(l:List ah)=>D.row 102 5 (l.map aq)) a0) (hG:Gl w):CL 20 #[sv v_0,vi a1] w (Ret No w (λs:Hd=>(sv s)) (λs=>[ae (sv s) 66 1 (λ(l:List Instr)=>D.row 105 5 (l.map aJ)) r])):=by
 unfold lk at h
 refine au func20 z z ?_
 have s:=Sep.start w
 refine .g (.qn z (.g (.c (.lg (L1:=[]) [] (λ(l:List Instr)=>D.row 105 5 (l.map aJ)) u24 t66 (s.to []) z z z (.nil) ?_ z (λ_=>z)))))
 intro v1 W s
 refine .qn z (.seq (.g (.qn z (.block (bv h λy1 hy1 h=>?_)))))
 refine .via (.iter (λs1 E' W'=>∃ (v4:Hd),aD E' [(0,(sv v_0)),(1,vi a1),(5,(sv v4)),(6,vi s1.2)]/\Sep No w W' [ae (sv v4) 66 1 (λ(l:List Instr)=>D.row 105 5 (l.map aJ)) s1.1]) (λy2 x E' W'=>x=.exit 0/\∃ (v5:Hd),aD E' [(5,(sv v5))]/\Sep No w W' [ae (sv v5) 66 1 (λ(l:List Instr)=>D.row 105 5 (l.map aJ)) y2]) hy1 ⟨v1,sb z,s.to [0]⟩ ?_) ?_
 ·intro s1 y3 E W h hI
  obtain ⟨v3,hE,s⟩:=hI
  refine CW.sub hE ?_
  unfold hY at h
  refine .seq (.g (.q z (.q z (.s (a8 (s.keep q_0) u36 z z) z (.q z (.nil ?_))))))
  refine .cs z h ?_ ?_ <;> intro h
  ·refine .skip (.seq (.block (.g (.q z (.q z (bv h λx1 hx1 h=>?_))))))
   obtain ⟨k1,hd,hck1⟩:=RV.el2 q_0 hx1
   obtain ⟨v6,k1,rfl,q5,hd1⟩:=c9 q_0 hd
   obtain rfl:=iq q_0 hd1
   refine .s (ixv (s.keep q_0) hx1 u36 t78 z z z) z (.s (lde (hck1 _ s.agree) t78 z z z z z) z (.q z (bv h λy4 hy4 h=>.c (.cV s func49 (rH hy4 (s.keep (q5 _ q_0)) (hG.at s (λ_ _ h=>h))) z z ?_))))
   intro v7 W s
   refine .q z (.q z (.q z (.q z (.qn z (.region (.q z (.q z (.c (.lg (L1:=[ae (sv v7) 105 5 aJ y4.1]) [y4.1] (λ(l:List Instr)=>D.row 105 5 (l.map aJ)) u24 t66 (s.to [0,0]) z z z (.row (.nil)) ?_ z (λ_=>z))))))))))
   intro v8 W s
   refine bv h λr1 hr1 h=>.c (.appv hr1 (s.to [1,0]) u24 t66 z z z ?_)
   intro v9 W s
   refine .qn z (.region (.q z (.q z (.q z (.nil ?_)))))
   cases h
   exact ⟨z,v9,sb z,s.to [0]⟩
  refine .exit ?_
  cases h
  exact ⟨by simp,z,v3,sb z,s.to [0]⟩
 intro x E W hJ
 obtain ⟨rfl,v10,hE,s⟩:=hJ
 refine ⟨_,hE.sub,?_⟩
 obtain rfl:=o9 h
 exact .g (.q z (.qn z (.ret (ac v10 (rt z rn) z (s.to [0])))))
theorem qj {a0:al} {ao:Hd} {bc:Hd} {w:World} {r:Bool} (h:iy a0=some r) (dK:RO w ao 3 1 (D.int .i64) a0.Regs) (lC:RO w bc 3 1 (D.int .i64) a0.Mem):CL 99 #[.agg #[sv ao,vi a0.Pc,sv bc]] w (RU w (.bool r)):=by
 unfold iy at h
 refine au func99 z z ?_
 have s:=Sep.start w
 refine .g (.c (.box s z z ?_))
 intro g1 W s
 refine .qn z (.g (.s (ld t28 s z z z z z) z (bv h λy1 hy1 h=>.c (.cO s func56 (qe hy1 (s.keep dK) (s.keep lC)) z z ?_))))
 intro W s
 cases h
 exact .q z (.qn z (.ret (ac () (rt z rn) z (s.to []))))
def fr (w:World) (r:Int):Env->World->Prop:=Fin Tryz.prog Tryz.f152 No w (λs:Unit=>.int .i64 r) (λs=>[]) .ret
theorem fc {a0:List al} {v_0:Hd} {w:World} {r:Int} (h:bD a0=some r) (q_0:RO w v_0 28 3 aV a0):CL 152 #[sv v_0,.func (.func 99) #[] #[]] w (RU w (.int .i64 r)):=by
 unfold bD at h
 refine au func152 z z ?_
 have s:=Sep.start w
 refine .g (.qn z (.seq (.g (.q z (.s (a8 (s.keep q_0) u52 z z) z (.qn z (.block (bv h λy1 hy1 h=>?_))))))))
 refine .via (.iter (λs1 E' W'=>aD E' [(0,(sv v_0)),(1,.func (.func 99) #[] #[]),(7,vi (a0.length:Int)),(8,vi s1)]/\Sep No w W' []) (λy2 x E' W'=>(match y2 with | .inl o1=>x=.ret/\fr w o1 E' W' | .inr o2=>x=.exit 0/\aD E' []/\Sep No w W' [])) hy1 ⟨sb rfl,s.to [] rfl⟩ ?_) ?_
 ·intro s1 y3 E W h hI
  obtain ⟨hE,s⟩:=hI
  refine CW.sub hE ?_
  unfold aQ at h
  refine .g (.qn z (.seq ?_))
  refine .cs z h ?_ ?_ <;> intro h
  ·refine .skip (.seq (.block (.g (.q z (.qn z (.g (.q z (.q z (.q z (bv h λx1 hx1 h=>?_))))))))))
   obtain ⟨k1,hd,hck1⟩:=RV.el2 q_0 hx1
   have hd1:=ri hd
   obtain ⟨v1,k1,rfl,q1,hd2⟩:=c9 q_0 hd1
   obtain ⟨k1,rfl,hd3⟩:=dJ q_0 z hd2
   obtain ⟨v2,k1,rfl,q2,hd4⟩:=c9 q_0 hd3
   obtain rfl:=iq q_0 hd4
   refine .s (ixv (s.keep q_0) hx1 u52 t28 z z z) z (.s (lde (hck1 _ s.agree) t28 z z z z z) z (bv h λy4 hy4 h=>.c (.callv (vs:=[.agg #[sv v1,vi x1.Pc,sv v2]]) (cap:=#[]) s ⟨_,func99,z,by kernel_rfl⟩ (qj hy4 (s.keep (q1 _ q_0)) (s.keep (q2 _ q_0))) z z z ?_)))
   rintro ⟨⟩ W s
   refine .nil ?_
   refine .cs z h ?_ ?_ <;> intro h
   ·refine .g (.q z (.qn z (.ret ?_)))
    cases h
    exact ⟨by simp,z,ac (vs:=[_]) () (rt z rn) z (s.to [])⟩
   refine .skip (.region (.q z (.q z (.nil ?_))))
   cases h
   exact ⟨z,sb z,s.to []⟩
  refine .exit ?_
  cases h
  exact ⟨by simp,z,sb z,s.to []⟩
 intro x E W hJ
 rcases y1 with o3 | o4
 ·obtain ⟨rfl,hF⟩:=hJ
  refine ⟨_,λ_ _ h=>h,?_⟩
  cases h
  exact hF
 obtain ⟨rfl,hE,s⟩:=hJ
 refine ⟨_,hE.sub,?_⟩
 cases h
 exact .g (.qn z (.ret (ac () (rt z rn) z (s.to []))))
theorem eH {a0:List al} {v_0:Hd} {w:World} {r:Bool} (h:a7 a0=some r) (q_0:RO w v_0 28 3 aV a0):CL 98 #[sv v_0,.func (.func 99) #[] #[]] w (RU w (.bool r)):=by
 unfold a7 at h
 refine au func98 z z ?_
 have s:=Sep.start w
 refine .g (.qn z (.g (.q z (.q z (bv h λy1 hy1 h=>.c (.cO s func152 (fc hy1 (s.keep q_0)) z z ?_))))))
 intro W s
 cases h
 exact .q z (.qn z (.ret (ac () (rt z rn) z (s.to []))))
theorem rI {a0:cg} {jB:Hd} {ba:Hd} {bZ:Hd} {w:World} {r:Bool} (h:hZ a0=some r) (fd:RO w jB 28 3 aV a0.Harts) (cR:RO w ba 95 2 aR a0.Boxes) (dU:RO w bZ 3 1 (D.int .i64) a0.Out):CL 50 #[.agg #[sv jB,sv ba,vi a0.Turn,vi a0.Idle,sv bZ]] w (RU w (.bool r)):=by
 unfold hZ at h
 refine au func50 z z ?_
 have s:=Sep.start w
 refine .g (.c (.box s z z ?_))
 intro g1 W s
 refine .qn z (.g (.s (fa f54_0 z z z) z (.s (ld t52 s z z z z z) z (.s (a8 (s.keep fd) u52 z z) z (.s (fa f54_2 z z z) z (.s (ld T.t3 s z z z z z) z (.s (fa f54_3 z z z) z (.s (ld T.t3 s z z z z z) z (.s (fa f54_4 z z z) z (.s (ld t23 s z z z z z) z (bv h λy1 hy1 h=>.c (.cO s func84 (nF hy1 (s.keep dU)) z z ?_))))))))))))
 intro W s
 refine .q z (bv h λb1 hb1 h=>.cu 4 17 (b1) s ?_ ?_)
 ·refine .both (y1) (λb=>?_) (λb=>?_)
  ·have hg1:=b
   have h:=aK b hb1
   refine .g hg1 (.s (fa f54_1 z z z) z (.g hg1 (.s (ld t40 s z z z z z) z (bv h λy2 hy2 h=>.g hg1 (.c (.cO s func85 (nG hy2 (s.keep cR)) z z ?_))))))
   intro W s
   refine .s (pkt hg1 z z z) z ?_
   cases h
   exact .nil (ck 4 s)
  refine .xx b z (.xx b z (.xx b z ?_))
  cases aL b hb1
  exact .s (pkf b z z z) z (.nil (ck 4 s))
 intro W s
 refine .q z (bv h λb2 hb2 h=>.cu 5 23 (b2) s ?_ ?_)
 ·refine .both (b1) (λb=>?_) (λb=>?_)
  ·have hg2:=b
   have h:=aK b hb2
   refine .g hg2 (.s (fa f54_0 z z z) z (.g hg2 (.s (ld t52 s z z z z z) z (bv h λy3 hy3 h=>.g hg2 (.c (.cO s func98 (eH hy3 (s.keep fd)) z z ?_))))))
   intro W s
   refine .g hg2 (.q z (.s (pkt hg2 z z z) z ?_))
   cases h
   exact .nil (ck 5 s)
  refine .xx b z (.xx b z (.xx b z (.xx b z ?_)))
  cases aL b hb2
  exact .s (pkf b z z z) z (.nil (ck 5 s))
 intro W s
 obtain rfl:=o9 h
 exact .qn z (.ret (ac () (rt z rn) z (s.to [])))
theorem uL {a0:List Instr} {v_0:Hd} {w:World} {r:al×Bool} (h:fV a0=some r) (q_0:RO w v_0 105 5 aJ a0) (hG:Gl w):CL 100 #[sv v_0] w (Ret No w (λs:Hd×Hd=>.tuple #[.agg #[(sv s.1),vi r.1.Pc,(sv s.2)],.bool r.2]) (λs=>[ae (sv s.1) 3 1 (D.int .i64) r.1.Regs,ae (sv s.2) 3 1 (D.int .i64) r.1.Mem])):=by
 unfold fV at h
 refine au func100 z z ?_
 have s:=Sep.start w
 refine .g (.c (.alloc t28 s ?_))
 intro g1 W s
 refine .qn z (.g (.q z (bv h λy1 hy1 h=>.c (.cV s func29 (ux hy1 (s.keep q_0) (hG.at s (λ_ _ h=>h))) z z ?_))))
 intro v1 W s
 refine .q z (.q z (.q z (.q z (.qn z (.seq (.g (.q z (.q z (.q z (.cu 6 20 ((!y1.2)||(decide ((w64 ((w64 ((y1.1.length:Int)+1))+12))>10000))) s ?_ ?_))))))))))
 ·refine .both (!y1.2) (λb=>?_) (λb=>?_)
  ·exact .xx b z (.xx b z (.xx b z (.xx b z (.xx b z (.s (pkt b z z z) z (.nil (ck 6 s z (ff b))))))))
  have hg1:=b
  exact .g hg1 (.q z (.g hg1 (.s (a8 s.lv u23 z z) z (.g hg1 (.q z (.g hg1 (.q z (.g hg1 (.q z (.s (pkf hg1 z z z) z (.nil (ck 6 s z (fg hg1)))))))))))))
 intro W s
 refine .nil ?_
 refine .cs z h ?_ ?_ <;> intro h
 ·refine .g (.s (bs T.s28 z z) z (.c (.st t28 s.p1 z z z ?_)))
  intro W s
  refine .qn z (.ret ?_)
  have s:=s.nilv 3 1 (D.int .i64)
  have s:=s.nilv 3 1 (D.int .i64)
  cases h
  exact ac (vs:=[_,_]) (aA,aA) (rc s.p2 t28 z (rt z rn) z z) z (s.to [1,0])
 refine .skip (.seq (bv h λr1 hr1 h=>bv h λr2 hr2 h=>?_))
 refine .via (R':=λx E' W'=>x=.normal/\∃ (g2:Nat) (v2:Hd) (v3:Hd),aD E' [(2,Pt g1),(6,Pt g2)]/\Sep No w W' [ae (sv v1) 3 1 (D.int .i64) y1.1,.box g1 28 [sv aA,vi 0,sv aA],.box g2 28 [sv v2,vi 4,sv v3],ae (sv v2) 3 1 (D.int .i64) r1,ae (sv v3) 3 1 (D.int .i64) r2]) ?_ ?_
 ·refine .rk 6 s [0,0] T.mix ?_
  intro W s
  have t:=s.to [0,0]
  refine .memo (λE' W'=>∃ (v6:Hd) (v7:Hd),aD E' [(2,Pt g1),(22,(sv v6)),(25,(sv v7))]/\Sep No w W' [ae (sv v1) 3 1 (D.int .i64) y1.1,.box g1 28 [sv aA,vi 0,sv aA],ae (sv v6) 3 1 (D.int .i64) r1,ae (sv v7) 3 1 (D.int .i64) r2]) 3 (nQ 7 [0,1,2,3]) ?_ ?_
  ·intro E W hJ
   obtain ⟨v8,v9,hE,s⟩:=hJ
   refine .sub hE ?_
   have t:=s.to [0,0]
   refine .ts' 4 z (λW t=>bs T.s28 z z) t z (.by1 5 z (.alloc t28 s ?_))
   intro g3 W s
   refine s.an [1,1] λt=>.by1 6 z (.st t28 s z z z ?_)
   intro W s
   refine ⟨λh=>absurd z h,?_⟩
   exact .done (⟨z,g3,v8,v9,sb z,s.to [1,1,0,0,0]⟩)
  intro J1
  refine .memo (λE' W'=>∃ (g5:Nat) (v12:Hd) (v13:Hd),aD E' [(2,Pt g1),(6,Pt g5),(22,(sv v12)),(23,(sv v13)),(24,(sv v1))]/\Sep No w W' [ae (sv v1) 3 1 (D.int .i64) y1.1,.box g1 28 [sv aA,vi 0,sv aA],.box g5 28 [sv aA,vi 0,sv aA],ae (sv v12) 3 1 (D.int .i64) r1,ae (sv v13) 3 1 (D.int .i64) [0]]) 3 (nQ 7 [0,1,2,5]) ?_ ?_
  ·intro E W hJ
   obtain ⟨g6,v14,v15,hE,s⟩:=hJ
   refine .sub hE ?_
   have t:=s.to [0,0]
   have hT0:=s.p4
   refine .by1 3 z (.av hr2 hT0 hT0.p1.lv (λ_=>z) u23 T.t3 z z z ?_)
   intro v16 W s
   refine s.an [1,1] λt=>.ts' 4 z (λW t=>bs T.s28 z z) t z (.by1 6 z (.st t28 s.p3 z z z ?_))
   intro W s
   refine ⟨λh=>absurd z h,?_⟩
   exact .done (⟨z,g6,v14,v16,sb z,s.to [2,2,0,1,0]⟩)
  intro J2
  refine .memo (λE' W'=>∃ (g8:Nat) (v18:Hd),aD E' [(2,Pt g1),(6,Pt g8),(25,(sv v18))]/\Sep No w W' [ae (sv v1) 3 1 (D.int .i64) y1.1,.box g1 28 [sv aA,vi 0,sv aA],.box g8 28 [sv aA,vi 0,sv aA],ae (sv v18) 3 1 (D.int .i64) r2]) 3 (nQ 7 [1,2,3,5]) ?_ ?_
  ·intro E W hJ
   obtain ⟨g9,v19,hE,s⟩:=hJ
   refine .sub hE ?_
   have t:=s.to [0,0]
   refine .by1 0 z (.mkv 0 (D.int .i64) hr1 u23 T.t3 s z z z z z (λ_=>z) ?_)
   intro v20 W s
   refine s.an [1,1] λt=>.ts' 4 z (λW t=>bs T.s28 z z) t z (.by1 6 z (.st t28 s.p3 z z z ?_))
   intro W s
   refine ⟨λh=>absurd z h,?_⟩
   exact .done (⟨z,g9,v20,v19,sb z,s.to [2,2,0,0,0]⟩)
  intro J3
  refine .memo (λE' W'=>∃ (v23:Hd) (v24:Hd),aD E' [(2,Pt g1),(22,(sv v23)),(23,(sv v24)),(24,(sv v1))]/\Sep No w W' [ae (sv v1) 3 1 (D.int .i64) y1.1,.box g1 28 [sv aA,vi 0,sv aA],ae (sv v23) 3 1 (D.int .i64) r1,ae (sv v24) 3 1 (D.int .i64) [0]]) 4 (nQ 7 [0,1,2]) ?_ ?_
  ·intro E W hJ
   obtain ⟨v25,v26,hE,s⟩:=hJ
   refine .sub hE ?_
   have t:=s.to [0,0]
   refine .by [3,5] ⟨⟨_,z,?_⟩,⟨_,z,?_⟩,trivial⟩
   ·have hT0:=s.p3
    refine (.av hr2 hT0 hT0.p1.lv (λ_=>z) u23 T.t3 z z z ?_)
    intro v27 W s
    refine s.an [1,1] λt=>?_
    exact .atl (J1 _ _ ⟨v25,v27,sb z,s.to [1,1,1,0]⟩) (by kernel_rfl)
   refine (.alloc t28 s ?_)
   intro g10 W s
   refine s.an [1,1] λt=>?_
   exact .atl (J2 _ _ ⟨g10,v25,v26,sb z,s.to [1,1,0,0,0]⟩) (by kernel_rfl)
  intro J4
  refine .memo (λE' W'=>∃ (g12:Nat) (v29:Hd),aD E' [(2,Pt g1),(6,Pt g12),(23,(sv v29)),(24,(sv v1))]/\Sep No w W' [ae (sv v1) 3 1 (D.int .i64) y1.1,.box g1 28 [sv aA,vi 0,sv aA],.box g12 28 [sv aA,vi 0,sv aA],ae (sv v29) 3 1 (D.int .i64) [0]]) 4 (nQ 7 [1,2,5]) ?_ ?_
  ·intro E W hJ
   obtain ⟨g13,v30,hE,s⟩:=hJ
   refine .sub hE ?_
   have t:=s.to [0,0]
   refine .by [0,3] ⟨⟨_,z,?_⟩,⟨_,z,?_⟩,trivial⟩
   ·refine (.mkv 0 (D.int .i64) hr1 u23 T.t3 s z z z z z (λ_=>z) ?_)
    intro v31 W s
    refine s.an [1,1] λt=>?_
    exact .atl (J2 _ _ ⟨g13,v31,v30,sb z,s.to [1,1,1,0,0]⟩) (by kernel_rfl)
   have hT0:=s.p3
   refine (.av hr2 hT0 hT0.p1.lv (λ_=>z) u23 T.t3 z z z ?_)
   intro v32 W s
   refine s.an [1,1] λt=>?_
   exact .atl (J3 _ _ ⟨g13,v32,sb z,s.to [1,1,1,0]⟩) (by kernel_rfl)
  intro J5
  refine .tp' 2 z z t (.by [0,1,5] ⟨⟨_,z,?_⟩,⟨_,z,?_⟩,⟨_,z,?_⟩,trivial⟩)
  ·refine (.mkv 0 (D.int .i64) hr1 u23 T.t3 s z z z z z (λ_=>z) ?_)
   intro v33 W s
   refine s.an [1,1] λt=>.by [1,5] ⟨⟨_,z,?_⟩,⟨_,z,?_⟩,trivial⟩
   ·refine (.liv [0] (D.int .i64) u23 T.t3 s z z z z ?_ z (λ_=>z))
    intro v34 W s
    refine s.an [2,2] λt=>?_
    exact .atl (J4 _ _ ⟨v33,v34,sb z,s.to [2,2,1,0]⟩) (by kernel_rfl)
   refine (.alloc t28 s ?_)
   intro g14 W s
   refine s.an [2,2] λt=>.by1 1 z (.liv [0] (D.int .i64) u23 T.t3 s z z z z ?_ z (λ_=>z))
   intro v35 W s
   refine s.an [3,3] λt=>?_
   have hT0:=s
   refine .by1 3 z (.av hr2 hT0 hT0.p3.lv (λ_=>z) u23 T.t3 z z z ?_)
   intro v36 W s
   refine s.an [3,3] λt=>.ts' 4 z (λW t=>bs T.s28 z z) t z (.by1 6 z (.st t28 s.p1 z z z ?_))
   intro W s
   refine ⟨λh=>absurd z h,?_⟩
   exact .done (⟨z,g14,v33,v36,sb z,s.to [3,3,0,1,0]⟩)
  ·refine (.liv [0] (D.int .i64) u23 T.t3 s z z z z ?_ z (λ_=>z))
   intro v37 W s
   refine s.an [1,1] λt=>.by [0,3,5] ⟨⟨_,z,?_⟩,⟨_,z,?_⟩,⟨_,z,?_⟩,trivial⟩
   ·refine (.mkv 0 (D.int .i64) hr1 u23 T.t3 s z z z z z (λ_=>z) ?_)
    intro v38 W s
    refine s.an [2,2] λt=>?_
    exact .atl (J4 _ _ ⟨v38,v37,sb z,s.to [2,2,0,0]⟩) (by kernel_rfl)
   ·have hT0:=s
    refine (.av hr2 hT0 hT0.p1.lv (λ_=>z) u23 T.t3 z z z ?_)
    intro v39 W s
    refine s.an [1,1] λt=>.by [0,5] ⟨⟨_,z,?_⟩,⟨_,z,?_⟩,trivial⟩
    ·refine (.mkv 0 (D.int .i64) hr1 u23 T.t3 s z z z z z (λ_=>z) ?_)
     intro v40 W s
     refine s.an [2,2] λt=>?_
     exact .atl (J1 _ _ ⟨v40,v39,sb z,s.to [2,2,0,0]⟩) (by kernel_rfl)
    refine (.alloc t28 s ?_)
    intro g15 W s
    refine s.an [2,2] λt=>?_
    exact .atl (J3 _ _ ⟨g15,v39,sb z,s.to [2,2,0,0]⟩) (by kernel_rfl)
   refine (.alloc t28 s ?_)
   intro g16 W s
   refine s.an [2,2] λt=>?_
   exact .atl (J5 _ _ ⟨g16,v37,sb z,s.to [2,2,0,0]⟩) (by kernel_rfl)
  refine (.alloc t28 s ?_)
  intro g17 W s
  refine s.an [1,1] λt=>.by [0,1] ⟨⟨_,z,?_⟩,⟨_,z,?_⟩,trivial⟩
  ·refine (.mkv 0 (D.int .i64) hr1 u23 T.t3 s z z z z z (λ_=>z) ?_)
   intro v41 W s
   refine s.an [2,2] λt=>.by1 1 z (.liv [0] (D.int .i64) u23 T.t3 s z z z z ?_ z (λ_=>z))
   intro v42 W s
   refine s.an [3,3] λt=>?_
   have hT0:=s
   refine .by1 3 z (.av hr2 hT0 hT0.p3.lv (λ_=>z) u23 T.t3 z z z ?_)
   intro v43 W s
   refine s.an [3,3] λt=>.ts' 4 z (λW t=>bs T.s28 z z) t z (.by1 6 z (.st t28 s.p2 z z z ?_))
   intro W s
   refine ⟨λh=>absurd z h,?_⟩
   exact .done (⟨z,g17,v41,v43,sb z,s.to [3,3,0,1,0]⟩)
  refine (.liv [0] (D.int .i64) u23 T.t3 s z z z z ?_ z (λ_=>z))
  intro v44 W s
  refine s.an [2,2] λt=>?_
  exact .atl (J5 _ _ ⟨g17,v44,sb z,s.to [2,2,1,0]⟩) (by kernel_rfl)
 intro x E W hJ
 obtain ⟨rfl,g18,v45,v46,hE,s⟩:=hJ
 refine ⟨_,hE.sub,?_⟩
 refine .g (.s (fa f28_0 z z z) z (.s (ld t23 s.p2 z z z z z) z (.s (fa f28_2 z z z) z (.s (ld t23 s.p2 z z z z z) z (.s (a8 s.p4.lv u23 z z) z (.q z (bv h λx1 hx1 h=>.s (ixv s.p3.lv hx1 u23 T.t3 z z z) z (bv h λr3 hr3 h=>.c (.sev hr3 hx1 s.p3 T.t3 z z z z z z ?_)))))))))
 intro W s
 refine .nil (.g (.s (fa f28_2 z z z) z (.s (ld t23 s.p3 z z z z z) z (bv h λr4 hr4 h=>.c (.appz 0 hr4 s.p4 u23 u3 T.t3 z z z z ?_ (λ_=>z))))))
 intro v47 W s
 refine .s (fa f28_2 z z z) z (.c (.st t23 s.p4 z z z ?_))
 intro W s
 refine .nil (.g (.s (ld t28 s z z z z z) z (.c (.st t28 s.p4 z z z ?_))))
 intro W s
 cases h
 exact .qn z (.ret (ac (vs:=[_,_]) (v45,v47) (rc s t28 z (rt z rn) z z) z (s.to [3,2])))
def uM (w:World) (r:cg×Bool):Env->World->Prop:=Fin Tryz.prog Tryz.f52 No w (λs:Hd×Hd×Hd=>.tuple #[.agg #[(sv s.1),(sv s.2.1),vi r.1.Turn,vi r.1.Idle,(sv s.2.2)],.bool r.2]) (λs=>[ae (sv s.1) 28 3 aV r.1.Harts,ae (sv s.2.1) 95 2 aR r.1.Boxes,ae (sv s.2.2) 3 1 (D.int .i64) r.1.Out]) .ret
theorem tZ {a0:List Int} {a1:List (List Instr)} {v_0:Hd} {v_1:Hd} {w:World} {r:cg×Bool} (h:ip a0 a1=some r) (q_0:RO w v_0 3 1 (D.int .i64) a0) (q_1:RO w v_1 66 1 (λ(l:List Instr)=>D.row 105 5 (l.map aJ)) a1) (hG:Gl w):CL 52 #[sv v_0,sv v_1] w (Ret No w (λs:Hd×Hd×Hd=>.tuple #[.agg #[(sv s.1),(sv s.2.1),vi r.1.Turn,vi r.1.Idle,(sv s.2.2)],.bool r.2]) (λs=>[ae (sv s.1) 28 3 aV r.1.Harts,ae (sv s.2.1) 95 2 aR r.1.Boxes,ae (sv s.2.2) 3 1 (D.int .i64) r.1.Out])):=by
 unfold ip at h
 refine au func52 z z ?_
 have s:=Sep.start w
 refine .g (.c (.alloc t54 s ?_))
 intro g1 W s
 refine .qn z (.seq (.g (.q z (bv h λy1 hy1 h=>.c (.cO s func28 (nB hy1 (s.keep q_0)) z z ?_)))))
 intro W s
 refine .q z (.q z (.cu 4 18 ((!y1)||(decide ((a1.length:Int)<1))) s ?_ ?_))
 ·refine .both (!y1) (λb=>?_) (λb=>?_)
  ·exact .xx b z (.xx b z (.xx b z (.s (pkt b z z z) z (.nil (ck 4 s z (ff b))))))
  have hg1:=b
  exact .g hg1 (.q z (.g hg1 (.s (a8 (s.keep q_1) u24 z z) z (.g hg1 (.q z (.s (pkf hg1 z z z) z (.nil (ck 4 s z (fg hg1)))))))))
 intro W s
 refine .q z (.cu 4 23 (((!y1)||(decide ((a1.length:Int)<1)))||(decide ((a1.length:Int)>3))) s ?_ ?_)
 ·refine .both ((!y1)||(decide ((a1.length:Int)<1))) (λb=>?_) (λb=>?_)
  ·exact .xx b z (.xx b z (.xx b z (.s (pkt b z z z) z (.nil (ck 4 s z (ff b))))))
  have hg2:=b
  exact .g hg2 (.q z (.g hg2 (.s (a8 (s.keep q_1) u24 z z) z (.g hg2 (.q z (.s (pkf hg2 z z z) z (.nil (ck 4 s z (fg hg2)))))))))
 intro W s
 refine .nil ?_
 refine .cs z h ?_ ?_ <;> intro h
 ·refine .g (.s (bs T.s54 z z) z (.c (.st t54 s z z z ?_)))
  intro W s
  refine .qn z (.ret ?_)
  have s:=s.nilv 28 3 aV
  have s:=s.nilv 95 2 aR
  have s:=s.nilv 3 1 (D.int .i64)
  cases h
  exact ac (vs:=[_,_]) (aA,aA,aA) (rc s.p3 t54 z (rt z rn) z z) z (s.to [2,1,0])
 refine .skip (.g (.q z (bv h λy2 hy2 h=>.c (.cV s func42 (oP hy2 (s.keep q_0)) z z ?_))))
 intro v1 W s
 refine .s (bs T.s54 z z) z (.c (.alloc t54 s ?_))
 intro g2 W s
 refine .c (.st t54 s z z z ?_)
 intro W s
 refine .nil (.seq (.g (.q z (.s (a8 (s.keep q_1) u24 z z) z (.qn z (.block ?_))))))
 have s:=s.nilv 28 3 aV
 refine bv h λy3 hy3 h=>?_
 refine .via (.iter (λs1 E' W'=>∃ (v4:Hd),aD E' [(4,Pt g1),(6,Pt g2),(28,(sv v_1)),(29,vi (a1.length:Int)),(30,vi s1.1)]/\Sep No w W' [.box g2 54 [sv v4,sv v1,vi 0,vi 0,sv aA],ae (sv v1) 95 2 aR y2,.box g1 54 [sv aA,sv aA,vi 0,vi 0,sv aA],ae (sv v4) 28 3 aV s1.2]) (λy4 x E' W'=>(match y4 with | .inl o1=>x=.ret/\uM w o1 E' W' | .inr o2=>x=.exit 0/\∃ (v5:Hd),aD E' [(4,Pt g1),(6,Pt g2)]/\Sep No w W' [.box g2 54 [sv v5,sv v1,vi 0,vi 0,sv aA],ae (sv v1) 95 2 aR y2,.box g1 54 [sv aA,sv aA,vi 0,vi 0,sv aA],ae (sv v5) 28 3 aV o2])) hy3 ⟨aA,sb rfl,s.to [1,1,1,0] rfl⟩ ?_) ?_
 ·intro s1 y5 E W h hI
  obtain ⟨v3,hE,s⟩:=hI
  refine CW.sub hE ?_
  unfold gA at h
  refine .g (.qn z (.seq ?_))
  refine .cs z h ?_ ?_ <;> intro h
  ·refine .skip (.seq (.block (.g (bv h λx1 hx1 h=>?_))))
   obtain ⟨k1,hd,hck1⟩:=RV.el2 q_1 hx1
   obtain ⟨v6,k1,rfl,q5,hd1⟩:=c9 q_1 hd
   obtain rfl:=iq q_1 hd1
   refine .s (ixv (s.keep q_1) hx1 u24 t66 z z z) z (.s (lde (hck1 _ s.agree) t66 z z z z z) z (.qn z (.g (.q z (bv h λy6 hy6 h=>.c (.call s func100 (uL hy6 (s.keep (q5 _ q_1)) (hG.at s (λ_ _ h=>h))) z z ?_))))))
   rintro ⟨v7,v8⟩ W s
   refine .q z (.q z (.q z (.c (.alloc t28 s ?_))))
   intro g3 W s
   refine .c (.st t28 s z z z ?_)
   intro W s
   refine .qn z (.seq (.g (.q z (.q z (.nil ?_)))))
   refine .cs z h ?_ ?_ <;> intro h
   ·refine .g (.s (bs T.s54 z z) z (.c (.st t54 s.p5 z z z ?_)))
    intro W s
    refine .qn z (.ret ?_)
    have s:=s.nilv 28 3 aV
    have s:=s.nilv 95 2 aR
    have s:=s.nilv 3 1 (D.int .i64)
    cases h
    exact ⟨by simp,z,ac (vs:=[_,_]) (aA,aA,aA) (rc s.p3 t54 z (rt z rn) z z) z (s.to [2,1,0])⟩
   refine .skip (.region (.s (fa f54_0 z z z) z (.s (ld t52 s.p3 z z z z z) z (.s (ld t28 s z z z z z) z (.c (.lg (L1:=[ae (sv v7) 3 1 (D.int .i64) y6.1.Regs,ae (sv v8) 3 1 (D.int .i64) y6.1.Mem]) [(al.mk y6.1.Regs y6.1.Pc y6.1.Mem)] aV u52 t28 (s.to [1,1,0,0,0,0,0]) z z z (.agg (.row (.flat (c1:=[vi y6.1.Pc]) z (.row .nil)))) ?_ z (λ_=>z)))))))
   intro v9 W s
   refine bv h λr1 hr1 h=>.c (.appv hr1 (s.to [5,0,0,0,0,0]) u52 t28 z z z ?_)
   intro v10 W s
   refine .s (fa f54_0 z z z) z (.c (.st t52 s.p2 z z z ?_))
   intro W s
   refine .nil (.region (.q z (.q z (.nil ?_))))
   cases h
   exact ⟨z,v10,sb z,s.to [0,2,2,0]⟩
  refine .exit ?_
  cases h
  exact ⟨by simp,z,v3,sb z,s.to [0,0,0,0]⟩
 intro x E W hJ
 rcases y3 with o3 | o4
 ·obtain ⟨rfl,hF⟩:=hJ
  refine ⟨_,λ_ _ h=>h,?_⟩
  cases h
  exact hF
 obtain ⟨rfl,v11,hE,s⟩:=hJ
 refine ⟨_,hE.sub,?_⟩
 refine .g (.s (ld t54 s z z z z z) z (.c (.st t54 s.p2 z z z ?_)))
 intro W s
 refine .qn z (.ret ?_)
 have s:=s.nilv 3 1 (D.int .i64)
 cases h
 exact ac (vs:=[_,_]) (v11,v1,aA) (rc s.p1 t54 z (rt z rn) z z) z (s.to [4,3,0])
theorem fX {a0:List Box} {v_0:Hd} {w:World} {r:(List Box)} (h:er a0=some r) (q_0:RO w v_0 95 2 aR a0):CL 101 #[sv v_0] w (Ret No w (λs:Hd=>(sv s)) (λs=>[ae (sv s) 95 2 aR r])):=by
 unfold er at h
 refine au func101 z z ?_
 have s:=Sep.start w
 refine .g (.qn z (.g (.qn z (.seq (.g (.q z (.s (a8 (s.keep q_0) u40 z z) z (.qn z (.block ?_)))))))))
 have s:=s.nilv 95 2 aR
 refine bv h λy1 hy1 h=>?_
 refine .via (.iter (λs1 E' W'=>∃ (v3:Hd),aD E' [(3,(sv v3)),(6,(sv v_0)),(7,vi (a0.length:Int)),(8,vi s1.2)]/\Sep No w W' [ae (sv v3) 95 2 aR s1.1]) (λy2 x E' W'=>x=.exit 0/\∃ (v4:Hd),aD E' [(3,(sv v4))]/\Sep No w W' [ae (sv v4) 95 2 aR y2]) hy1 ⟨aA,sb z,s.to [0]⟩ ?_) ?_
 ·intro s1 y3 E W h hI
  obtain ⟨v2,hE,s⟩:=hI
  refine CW.sub hE ?_
  unfold dA at h
  refine .g (.qn z (.seq ?_))
  refine .cs z h ?_ ?_ <;> intro h
  ·refine .skip (.seq (.block (.g (bv h λx1 hx1 h=>?_))))
   obtain ⟨k1,hd,hck1⟩:=RV.el2 q_0 hx1
   have hd1:=ri hd
   obtain ⟨k1,rfl,hd2⟩:=dJ q_0 z hd1
   obtain ⟨v5,k1,rfl,q5,hd3⟩:=c9 q_0 hd2
   obtain rfl:=iq q_0 hd3
   refine .s (ixv (s.keep q_0) hx1 u40 t95 z z z) z (.s (lde (hck1 _ s.agree) t95 z z z z z) z (.c (.alloc t95 s ?_)))
   intro g1 W s
   refine .c (.st t95 s z z z ?_)
   intro W s
   refine .nil (.rk 10 s [0] T.mix ?_)
   intro W s
   have t:=s.to [0]
   refine .tp' 0 z z t (.ts' 1 z (λW t=>fa f95_0 z z z) t z (.ts' 2 z (λW t=>ld T.t3 t z z z z z) t z (.ts' 3 z (λW t=>fa f95_1 z z z) t z (.ts' 4 z (λW t=>ld t23 t z z z z z) t z (bv h λy4 hy4 h=>.by1 5 z (.cV s func58 (a9 hy4 (s.keep (q5 _ q_0))) z z ?_))))))
   intro v6 W s
   refine s.an [1] λt=>.ts' 6 z (λW t=>bs T.s95 z z) t z (.by1 7 z (.lg (L1:=[ae (sv v6) 3 1 (D.int .i64) y4]) [(Box.mk x1.Room y4)] aR u40 t95 (s.to [0,0,0]) z z z (.agg (.flat (c1:=[vi x1.Room]) z (.row .nil))) ?_ z (λ_=>z)))
   intro v7 W s
   refine s.an [1] λt=>bv h λr1 hr1 h=>.by1 8 z (.appv hr1 (s.to [2,0,0]) u40 t95 z z z ?_)
   intro v8 W s
   refine s.an [1] λt=>.tp' 9 z z t (.done (.region (.q z (.q z (.nil ?_)))))
   cases h
   exact ⟨z,v8,sb z,s.to [0]⟩
  refine .exit ?_
  cases h
  exact ⟨by simp,z,v2,sb z,s.to [0]⟩
 intro x E W hJ
 obtain ⟨rfl,v9,hE,s⟩:=hJ
 refine ⟨_,hE.sub,?_⟩
 obtain rfl:=o9 h
 exact .g (.q z (.qn z (.ret (ac v9 (rt z rn) z (s.to [0])))))
end
noncomputable section
theorem oU {a0:Int} {a1:Int} {a2:Int} {a3:Int} {w:World} {r:Int×Int×Bool} (h:eT a0 a1 a2 a3=some r):CL 153 #[vi a0,vi a1,vi a2,vi a3] w (RU w (.tuple #[vi r.1,vi r.2.1,.bool r.2.2])):=by
 unfold eT at h
 refine au func153 z z ?_
 have s:=Sep.start w
 refine .g (.q z (.q z (.qn z (.seq (.g (.q z (.q z (.q z (.cu 3 16 ((decide (a0<1))||(decide (a0>3))) s ?_ ?_)))))))))
 ·refine .both (decide (a0<1)) (λb=>?_) (λb=>?_)
  ·exact .xx b z (.xx b z (.s (pkt b z z z) z (.nil (ck 3 s z (ff b)))))
  have hg1:=b
  exact .g hg1 (.q z (.g hg1 (.q z (.s (pkf hg1 z z z) z (.nil (ck 3 s z (fg hg1)))))))
 intro W s
 refine .q z (.cu 3 20 (((decide (a0<1))||(decide (a0>3)))||(decide (a1<0))) s ?_ ?_)
 ·refine .both ((decide (a0<1))||(decide (a0>3))) (λb=>?_) (λb=>?_)
  ·exact .xx b z (.xx b z (.s (pkt b z z z) z (.nil (ck 3 s z (ff b)))))
  have hg2:=b
  exact .g hg2 (.q z (.g hg2 (.q z (.s (pkf hg2 z z z) z (.nil (ck 3 s z (fg hg2)))))))
 intro W s
 refine .q z (.cu 4 25 ((((decide (a0<1))||(decide (a0>3)))||(decide (a1<0)))||(decide (a1>=a0))) s ?_ ?_)
 ·refine .both (((decide (a0<1))||(decide (a0>3)))||(decide (a1<0))) (λb=>?_) (λb=>?_)
  ·exact .xx b z (.xx b z (.xx b z (.s (pkt b z z z) z (.nil (ck 4 s z (ff b))))))
  have hg3:=b
  exact .g hg3 (.q z (.g hg3 (.q z (.g hg3 (.q z (.s (pkf hg3 z z z) z (.nil (ck 4 s z (fg hg3)))))))))
 intro W s
 refine .q z (.cu 3 29 (((((decide (a0<1))||(decide (a0>3)))||(decide (a1<0)))||(decide (a1>=a0)))||(decide (a2<0))) s ?_ ?_)
 ·refine .both ((((decide (a0<1))||(decide (a0>3)))||(decide (a1<0)))||(decide (a1>=a0))) (λb=>?_) (λb=>?_)
  ·exact .xx b z (.xx b z (.s (pkt b z z z) z (.nil (ck 3 s z (ff b)))))
  have hg4:=b
  exact .g hg4 (.q z (.g hg4 (.q z (.s (pkf hg4 z z z) z (.nil (ck 3 s z (fg hg4)))))))
 intro W s
 refine .q z (.cu 4 34 ((((((decide (a0<1))||(decide (a0>3)))||(decide (a1<0)))||(decide (a1>=a0)))||(decide (a2<0)))||(decide (a2>=a0))) s ?_ ?_)
 ·refine .both (((((decide (a0<1))||(decide (a0>3)))||(decide (a1<0)))||(decide (a1>=a0)))||(decide (a2<0))) (λb=>?_) (λb=>?_)
  ·exact .xx b z (.xx b z (.xx b z (.s (pkt b z z z) z (.nil (ck 4 s z (ff b))))))
  have hg5:=b
  exact .g hg5 (.q z (.g hg5 (.q z (.g hg5 (.q z (.s (pkf hg5 z z z) z (.nil (ck 4 s z (fg hg5)))))))))
 intro W s
 refine .nil ?_
 refine .cs z h ?_ ?_ <;> intro h
 ·cases h
  exact .g (.q z (.q z (.qn z (.ret (ac (vs:=[_,_,_]) () (rt z (rt z (rt z rn))) z (s.to []))))))
 refine .skip (.seq (.g (.qn z (.block (.g (.q z (.q z (.nil ?_))))))))
 refine .cs z h ?_ ?_ <;> intro h
 ·cases h
  exact .g (.q z (.q z (.q z (.qn z (.ret (ac (vs:=[_,_,_]) () (rt z (rt z (rt z rn))) z (s.to [])))))))
 refine .g (.q z (.q z (.nil ?_)))
 refine .cs z h ?_ ?_ <;> intro h
 ·refine .g (.q z (.q z (.q z (bv h λd1 hd1 h=>.s (dr hd1 z z z) z (.q z (.q z (.qn z (.ret ?_))))))))
  cases h
  exact ac (vs:=[_,_,_]) () (rt z (rt z (rt z rn))) z (s.to [])
 refine bv h λy1 hy1 h=>?_
 refine .seq (CW.via (R':=λx E' W'=>x=.normal/\aD E' [(0,vi a0),(1,vi a1),(2,vi a2),(45,.bool y1)]/\Sep No w W' []) ?_ ?_)
 ·have h:=hy1
  refine .g (.q z (.q z (.nil ?_)))
  refine .cs z h ?_ ?_ <;> intro h
  ·refine .skip ?_
   cases h
   exact ⟨z,sb z,s.to []⟩
  refine .region (.q z (.q z (.nil ?_)))
  cases h
  exact ⟨z,sb z,s.to []⟩
 intro x E W hJ
 obtain ⟨rfl,hE,s⟩:=hJ
 refine ⟨_,hE.sub,?_⟩
 refine .cs z h ?_ ?_ <;> intro h
 ·refine .g (.q z (.q z (.q z (bv h λd2 hd2 h=>.s (dr hd2 z z z) z (.q z (.q z (.q z (.q z (.qn z (.ret ?_))))))))))
  cases h
  exact ac (vs:=[_,_,_]) () (rt z (rt z (rt z rn))) z (s.to [])
 cases h
 exact .skip (.g (.q z (.q z (.qn z (.ret (ac (vs:=[_,_,_]) () (rt z (rt z (rt z rn))) z (s.to [])))))))
theorem nI {a0:Box} {a1:Int} {dL:Hd} {h_0:Hd} {A_0:Type} {e_0:A_0->D} {l_0:List A_0} {k_0:Nat} {S:Nat->Prop} {w:World} {r:Bool×(List Int)} (h:ej a0 a1=some r) (hO:bQ w [ae (sv dL) 3 1 (D.int .i64) a0.Items,cf (sv h_0) 95 2 e_0 l_0 k_0 [vi a0.Room,sv dL]] S) (hlt:∀ b,S b->b<w.heap.size):CL 154 #[.pointer (some (cP (adr (sv h_0)) (k_0*2+0))),vi a1] w (Ret S w (λs:Hd=>.bool r.1) (λs=>[cf (sv h_0) 95 2 e_0 l_0 k_0 [vi a0.Room,sv s],ae (sv s) 3 1 (D.int .i64) r.2])):=by
 unfold ej at h
 refine au func154 z z ?_
 have s:=Sep.sm hO hlt
 refine .g (.qn z (.seq (.seq (.rk 10 s [0,0] T.mix ?_))))
 intro W s
 have t:=s.to [0,0]
 refine .tp' 0 z z t (.tp' 1 z z t (.ts' 2 z (λW t=>fe f95_1 z z z) t z (.ts' 3 z (λW t=>lde (t.p1.hcellsv) t23 z z z z z) t z (.ts' 4 z (λW t=>a8 s.lv u23 z z) t z (.tp' 5 z z t (.tp' 6 z z t (.ts' 7 z (λW t=>fe f95_0 z z z) t z (.ts' 8 z (λW t=>lde (t.p1.hcellsv) T.t3 z z z z z) t z (.tp' 9 z z t (.done ?_))))))))))
 refine .cs z h ?_ ?_ <;> intro h
 ·cases h
  exact .g (.qn z (.ret (ac dL (rt z rn) z (s.to [1,0]))))
 refine .skip (.g (.q z (.q z (.q z (.s (fe f95_1 z z z) z (.s (lde (s.p1.hcellsv) t23 z z z z z) z (.q z (.c (.liv [a1] (D.int .i64) u23 T.t3 s z z z z ?_ z (λ_=>z))))))))))
 intro v1 W s
 refine bv h λr1 hr1 h=>?_
 have hT0:=s.p1
 refine .c (.av hr1 hT0 hT0.p1.lv (λ_=>z) u23 T.t3 z z z ?_)
 intro v2 W s
 refine .q z (.s (fe f95_1 z z z) z (.c (.sthv s.p2 t23 z z z ?_)))
 intro W s
 cases h
 exact .nil (.g (.qn z (.ret (ac v2 (rt z rn) z (s.to [0,0])))))
theorem mW {a0:Box} {dL:Hd} {h_0:Hd} {A_0:Type} {e_0:A_0->D} {l_0:List A_0} {k_0:Nat} {S:Nat->Prop} {w:World} {r:Int×Bool×(List Int)} (h:dQ a0=some r) (hO:bQ w [ae (sv dL) 3 1 (D.int .i64) a0.Items,cf (sv h_0) 95 2 e_0 l_0 k_0 [vi a0.Room,sv dL]] S) (hlt:∀ b,S b->b<w.heap.size):CL 155 #[.pointer (some (cP (adr (sv h_0)) (k_0*2+0)))] w (Ret S w (λs:Hd=>.tuple #[vi r.1,.bool r.2.1]) (λs=>[cf (sv h_0) 95 2 e_0 l_0 k_0 [vi a0.Room,sv s],ae (sv s) 3 1 (D.int .i64) r.2.2])):=by
 unfold dQ at h
 refine au func155 z z ?_
 have s:=Sep.sm hO hlt
 refine .g (.q z (.qn z (.seq (.g (.q z (.q z (.s (fe f95_1 z z z) z (.s (lde (s.p1.hcellsv) t23 z z z z z) z (.s (a8 s.lv u23 z z) z (.q z (.nil ?_)))))))))))
 refine .cs z h ?_ ?_ <;> intro h
 ·cases h
  exact .g (.q z (.qn z (.ret (ac (vs:=[_,_]) dL (rt z (rt z rn)) z (s.to [1,0])))))
 refine .skip (.g (.q z (.q z (.s (fe f95_1 z z z) z (.s (lde (s.p1.hcellsv) t23 z z z z z) z (bv h λx1 hx1 h=>.s (ixv s.lv hx1 u23 T.t3 z z z) z (.s (lde (RV.flat s.lv hx1 z) T.t3 z z z z z) z (.qn z (.seq (bv h λr1 hr1 h=>bv h λr2 hr2 h=>.rm 11 (λW=>Sep S w W [cf (sv h_0) 95 2 e_0 l_0 k_0 [vi a0.Room,sv dL]]) s T.mix ?_))))))))))
 intro W s
 have t:=s.to [1]
 have hq:=s.lv
 refine .tp 0 z (λW=>pr z) t (.tp 1 z (λW=>pr z) t (.tp 2 z (λW=>pr z) t (.tp 3 z (λW=>fe f95_1 z z z) t (.t1 4 5 z (λW t=>lde (t.hcellsv) t23 z z z z z) t (.tp 6 z (λW=>pr z) t (.tp 7 z (λW=>pr z) t (.tp 8 z (λW=>fe f95_1 z z z) t (.t1 9 10 z (λW t=>lde (t.hcellsv) t23 z z z z z) t (.tp 5 z (λW=>slv AM hq u23 T.t3 z z z z) t (.tp 10 z (λW=>slv hr1 hq u23 T.t3 z z z z) t (.byd 11 z (.tak hr1 hr2 s (λ_=>z) u23 T.t3 z z z ?_)) (by kernel_rfl) z z) (by kernel_rfl) z z) (by kernel_rfl) z z) (by kernel_rfl) z z) (by kernel_rfl) z z) (by kernel_rfl) z z) (by kernel_rfl) z z) (by kernel_rfl) z z) (by kernel_rfl) z z) (by kernel_rfl) z z) (by kernel_rfl) z z
 intro v1 W s
 refine .byd 12 z (.runs (pr z) z z (.byd 13 z (.runs (fe f95_1 z z z) z z (.byd 14 z (.sthv s.p1 t23 z z z ?_)))))
 intro W s
 cases h
 exact .done (.g (.q z (.q z (.qn z (.ret (ac (vs:=[_,_]) v1 (rt z (rt z rn)) z (s.to [0,0])))))))
def pn (w:World) (S:Nat->Prop) (ao:Hd) (bc:Hd) (h_0:Hd) (A_0:Type) (e_0:A_0->D) (l_0:List A_0) (k_0:Nat) (v_1:Hd) (v_2:Hd) (g_2:Nat) (o_2_0:Value) (o_2_1:Value) (o_2_2:Value) (o_2_3:Value) (a0:al) (a1:List Box) (a2:List Int) (r:Int×(List Int)×Int×(List Int)×(List Box)):Env->World->Prop:=Fin Tryz.prog Tryz.f104 S w (λs:Hd×Hd=>.int .i64 r.1) (λs=>[cf (sv h_0) 28 3 e_0 l_0 k_0 [(sv s.1),vi r.2.2.1,sv bc],ae (sv v_1) 95 2 aR r.2.2.2.2,.box g_2 54 [o_2_0,o_2_1,o_2_2,o_2_3,(sv s.2)],ae (sv s.1) 3 1 (D.int .i64) r.2.1,ae (sv s.2) 3 1 (D.int .i64) r.2.2.2.1]) .ret
theorem oV {a0:al} {a1:List Box} {a2:List Int} {ao:Hd} {bc:Hd} {h_0:Hd} {A_0:Type} {e_0:A_0->D} {l_0:List A_0} {k_0:Nat} {v_1:Hd} {v_2:Hd} {g_2:Nat} {o_2_0 o_2_1 o_2_2 o_2_3:Value} {S:Nat->Prop} {w:World} {r:Int×(List Int)×Int×(List Int)×(List Box)} (h:cC a0 a1 a2=some r) (lC:RV w (Old S w) (sv bc) 3 1 (D.int .i64) a0.Mem) (hO:bQ w [ae (sv ao) 3 1 (D.int .i64) a0.Regs,cf (sv h_0) 28 3 e_0 l_0 k_0 [sv ao,vi a0.Pc,sv bc],ae (sv v_1) 95 2 aR a1,ae (sv v_2) 3 1 (D.int .i64) a2,.box g_2 54 [o_2_0,o_2_1,o_2_2,o_2_3,sv v_2]] S) (hlt:∀ b,S b->b<w.heap.size):CL 104 #[.pointer (some (cP (adr (sv h_0)) (k_0*3+0))),sv v_1,.pointer (some ⟨g_2,4,none⟩)] w (Ret S w (λs:Hd×Hd=>.int .i64 r.1) (λs=>[cf (sv h_0) 28 3 e_0 l_0 k_0 [(sv s.1),vi r.2.2.1,sv bc],ae (sv v_1) 95 2 aR r.2.2.2.2,.box g_2 54 [o_2_0,o_2_1,o_2_2,o_2_3,(sv s.2)],ae (sv s.1) 3 1 (D.int .i64) r.2.1,ae (sv s.2) 3 1 (D.int .i64) r.2.2.2.1])):=by
 unfold cC at h
 refine au func104 z z ?_
 have s:=Sep.sm hO hlt
 refine .g (.qn z (.seq (.rk 14 s [0,0,0,0,0] T.mix ?_)))
 intro W s
 have t:=s.to [0,0,0,0,0]
 refine .tp' 0 z z t (.tp' 1 z z t (.ts' 2 z (λW t=>fe f28_0 z z z) t z (.ts' 3 z (λW t=>lde (t.p1.hcellsv) t23 z z z z z) t z (bv h λx1 hx1 h=>.ts' 4 z (λW t=>ixv s.lv hx1 u23 T.t3 z z z) t z (.ts' 5 z (λW t=>lde (RV.flat t.lv hx1 z) T.t3 z z z z z) t z (.tp' 6 z z t (.tp' 7 z z t (.ts' 8 z (λW t=>fe f28_0 z z z) t z (.ts' 9 z (λW t=>lde (t.p1.hcellsv) t23 z z z z z) t z (bv h λx2 hx2 h=>.ts' 10 z (λW t=>ixv s.lv hx2 u23 T.t3 z z z) t z (.ts' 11 z (λW t=>lde (RV.flat t.lv hx2 z) T.t3 z z z z z) t z (.tp' 12 z z t (.tp' 13 z z t (.done (.seq (.g (.q z (.q z (.s (fe f28_1 z z z) z (.s (lde (s.p1.hcellsv) T.t3 z z z z z) z (.q z (.q z (.cu 17 46 ((a0.Pc !=0)||(((x1==1)||(x1==2))&&((decide (x2<0))||(decide (x2>=(a1.length:Int)))))) s ?_ ?_)))))))))))))))))))))))
 ·refine .both (a0.Pc !=0) (λb=>?_) (λb=>?_)
  ·exact .xx b z (.xx b z (.xx b z (.xu (.xu (.xx b z (.xx b z (.xu (.xu (.xu (.xu (.xu (.xu (.xu (.xu (.xx b z (.s (pkt b z z z) z (.nil (ck 17 s z (ff b)))))))))))))))))))
  have hg1:=b
  refine .g hg1 (.q z (.g hg1 (.q z (.g hg1 (.q z (.cu 3 35 ((x1==1)||(x1==2)) s ?_ ?_))))))
  ·refine .both (x1==1) (λb=>?_) (λb=>?_)
   ·exact .xx b z (.xx b z (.g hg1 (.s (pkt b z z z) z (.nil (ck 3 s z (ff b))))))
   have hg2:=b
   exact .g hg2 (.q z (.g hg2 (.q z (.g hg1 (.s (pkf hg2 z z z) z (.nil (ck 3 s z (fg hg2))))))))
  intro W s
  refine .g hg1 (.q z (.cu 9 45 (((x1==1)||(x1==2))&&((decide (x2<0))||(decide (x2>=(a1.length:Int))))) s ?_ ?_))
  ·refine .both ((x1==1)||(x1==2)) (λb=>?_) (λb=>?_)
   ·have hg3:=b
    refine .g hg3 (.q z (.g hg3 (.q z (.g hg3 (.q z (.cu 5 44 ((decide (x2<0))||(decide (x2>=(a1.length:Int)))) s ?_ ?_))))))
    ·refine .both (decide (x2<0)) (λb=>?_) (λb=>?_)
     ·exact .xx b z (.xx b z (.xx b z (.xx b z (.g hg3 (.s (pkt b z z z) z (.nil (ck 5 s z (ff b))))))))
     have hg4:=b
     exact .g hg4 (.q z (.g hg4 (.q z (.g hg4 (.s (a8 s.p2.lv u40 z z) z (.g hg4 (.q z (.g hg3 (.s (pkf hg4 z z z) z (.nil (ck 5 s z (fg hg4))))))))))))
    intro W s
    exact .g hg1 (.s (pkt hg3 z z z) z (.nil (ck 5 s z (bi hg3))))
   exact .xx b z (.xx b z (.xx b z (.xu (.xu (.xu (.xu (.xx b z (.g hg1 (.s (pkf b z z z) z (.nil (ck 9 s z (bj b))))))))))))
  intro W s
  exact .s (pkf hg1 z z z) z (.nil (ck 7 s z (fg hg1)))
 intro W s
 refine .nil ?_
 refine .cs z h ?_ ?_ <;> intro h
 ·cases h
  exact .g (.qn z (.ret (ac (ao,v_2) (rt z rn) z (s.to [1,1,2,0,0]))))
 refine .skip (.g (.qn z (bv h λy1 hy1 h=>?_)))
 refine .seq (CW.via (R':=λx E' W'=>(match y1 with | .inl o1=>x=.normal/\∃ (v1:Hd),aD E' [(0,.pointer (some (cP (adr (sv h_0)) (k_0*3+0)))),(9,vi o1.1)]/\Sep S w W' [ae (sv ao) 3 1 (D.int .i64) o1.2.2.1,cf (sv h_0) 28 3 e_0 l_0 k_0 [sv ao,vi a0.Pc,sv bc],ae (sv v_1) 95 2 aR o1.2.2.2,.box g_2 54 [o_2_0,o_2_1,o_2_2,o_2_3,sv v1],ae (sv v1) 3 1 (D.int .i64) o1.2.1] | .inr o2=>x=.ret/\pn w S ao bc h_0 A_0 e_0 l_0 k_0 v_1 v_2 g_2 o_2_0 o_2_1 o_2_2 o_2_3 a0 a1 a2 o2 E' W')) ?_ ?_)
 ·have h:=hy1
  refine .g (.qn z (.block (.g (.q z (.qn z (.cond z (λb=>?_) (λb=>?_)))))))
  ·have h:=aK b h
   refine .seq (.rk 11 s [0,0,1,1] T.mix ?_)
   intro W s
   have t:=s.to [0,0,1,1]
   refine .tp' 0 z z t (.tp' 1 z z t (bv h λx3 hx3 h=>.ts' 2 z (λW t=>ixv s.p2.lv hx3 u40 t95 z z z) t z (.tp' 3 z z t (.tp' 4 z z t (.ts' 5 z (λW t=>fe f28_0 z z z) t z (.ts' 6 z (λW t=>lde (t.p1.hcellsv) t23 z z z z z) t z (bv h λx4 hx4 h=>.ts' 7 z (λW t=>ixv s.lv hx4 u23 T.t3 z z z) t z (.ts' 8 z (λW t=>lde (RV.flat t.lv hx4 z) T.t3 z z z z z) t z ?_))))))))
   obtain ⟨k1,s⟩:=Sep.ov s.p2 hx3
   have s:=s.oa
   obtain ⟨k1,rfl,s⟩:=Sep.oF z s
   obtain ⟨v2,k1,rfl,s⟩:=s.ow
   obtain ⟨rfl,s⟩:=s.oN
   refine bv h λy2 hy2 h=>?_
   have s:=s.p1.p1
   refine .by1 9 z (.cS (L0:=[ae (sv v2) 3 1 (D.int .i64) x3.Items,cf (sv v_1) 95 2 aR a1 (Int.toNat x2) [vi x3.Room,sv v2]]) s func154 (λS h1 h2 h3=>(nI hy2 h2 (zz h1))) z z ?_)
   rintro v3 W s
   refine s.an [2,2,2,2] λt=>.tp' 10 z z t (.done ?_)
   refine .cs z h ?_ ?_ <;> intro h
   ·refine .g (.qn z (.ret ?_))
    have s:=Sep.gat (ds:=[aR (Box.mk x3.Room y2.2)]) (cs:=[vi x3.Room,sv v3]) (L1:=[ae (sv v3) 3 1 (D.int .i64) y2.2]) (.agg (.flat (c1:=[vi x3.Room]) z (.row .nil))) (s.to [1,0,0,0,0,0])
    have s:Sep _ _ _ [ae (sv v_1) 95 2 aR (a1.set (Int.toNat x2) (Box.mk x3.Room y2.2)),ae (sv ao) 3 1 (D.int .i64) a0.Regs,cf (sv h_0) 28 3 e_0 l_0 k_0 [sv ao,vi a0.Pc,sv bc],ae (sv v_2) 3 1 (D.int .i64) a2,.box g_2 54 [o_2_0,o_2_1,o_2_2,o_2_3,sv v_2]]:=s.bv
    cases h
    exact ⟨z,ac (vs:=[_]) (ao,v_2) (rt z rn) z (s.to [2,0,2,0,0])⟩
   refine .skip ?_
   have s:=Sep.gat (ds:=[aR (Box.mk x3.Room y2.2)]) (cs:=[vi x3.Room,sv v3]) (L1:=[ae (sv v3) 3 1 (D.int .i64) y2.2]) (.agg (.flat (c1:=[vi x3.Room]) z (.row .nil))) (s.to [1,0,0,0,0,0])
   have s:Sep _ _ _ [ae (sv v_1) 95 2 aR (a1.set (Int.toNat x2) (Box.mk x3.Room y2.2)),ae (sv ao) 3 1 (D.int .i64) a0.Regs,cf (sv h_0) 28 3 e_0 l_0 k_0 [sv ao,vi a0.Pc,sv bc],ae (sv v_2) 3 1 (D.int .i64) a2,.box g_2 54 [o_2_0,o_2_1,o_2_2,o_2_3,sv v_2]]:=s.bv
   cases h
   exact ⟨z,v_2,sb z,s.to [1,1,0,1,0]⟩
  have h:=aL b h
  refine .g (.q z (.qn z (.cond z (λb=>?_) (λb=>?_))))
  ·have h:=aK b h
   refine .g (.q z (.q z (bv h λx5 hx5 h=>.s (ixv s.p2.lv hx5 u40 t95 z z z) z ?_)))
   obtain ⟨k2,s⟩:=Sep.ov s.p2 hx5
   have s:=s.oa
   obtain ⟨k2,rfl,s⟩:=Sep.oF z s
   obtain ⟨v4,k2,rfl,s⟩:=s.ow
   obtain ⟨rfl,s⟩:=s.oN
   refine bv h λy3 hy3 h=>?_
   have s:=s.p1.p1
   refine .c (.cS (L0:=[ae (sv v4) 3 1 (D.int .i64) x5.Items,cf (sv v_1) 95 2 aR a1 (Int.toNat x2) [vi x5.Room,sv v4]]) s func155 (λS h1 h2 h3=>(mW hy3 h2 (zz h1))) z z ?_)
   rintro v5 W s
   refine .q z (.q z (.q z (.q z (.qn z (.seq (.g (.q z (.q z (.nil ?_)))))))))
   refine .cs z h ?_ ?_ <;> intro h
   ·refine .g (.qn z (.ret ?_))
    have s:=Sep.gat (ds:=[aR (Box.mk x5.Room y3.2.2)]) (cs:=[vi x5.Room,sv v5]) (L1:=[ae (sv v5) 3 1 (D.int .i64) y3.2.2]) (.agg (.flat (c1:=[vi x5.Room]) z (.row .nil))) (s.to [1,0,0,0,0,0])
    have s:Sep _ _ _ [ae (sv v_1) 95 2 aR (a1.set (Int.toNat x2) (Box.mk x5.Room y3.2.2)),ae (sv ao) 3 1 (D.int .i64) a0.Regs,cf (sv h_0) 28 3 e_0 l_0 k_0 [sv ao,vi a0.Pc,sv bc],ae (sv v_2) 3 1 (D.int .i64) a2,.box g_2 54 [o_2_0,o_2_1,o_2_2,o_2_3,sv v_2]]:=s.bv
    cases h
    exact ⟨z,ac (vs:=[_]) (ao,v_2) (rt z rn) z (s.to [2,0,2,0,0])⟩
   refine .skip (.region (.q z (.q z (.s (fe f28_0 z z z) z (.s (lde (s.p3.hcellsv) t23 z z z z z) z (.q z (bv h λx6 hx6 h=>.s (ixv s.p2.lv hx6 u23 T.t3 z z z) z (bv h λr1 hr1 h=>.c (.sev hr1 hx6 s.p2 T.t3 z z z z z z ?_)))))))))
   intro W s
   refine .nil ?_
   have s:=Sep.gat (ds:=[aR (Box.mk x5.Room y3.2.2)]) (cs:=[vi x5.Room,sv v5]) (L1:=[ae (sv v5) 3 1 (D.int .i64) y3.2.2]) (.agg (.flat (c1:=[vi x5.Room]) z (.row .nil))) (s.to [2,1,0,0,0,0])
   have s:Sep _ _ _ [ae (sv v_1) 95 2 aR (a1.set (Int.toNat x2) (Box.mk x5.Room y3.2.2)),ae (sv ao) 3 1 (D.int .i64) r1,cf (sv h_0) 28 3 e_0 l_0 k_0 [sv ao,vi a0.Pc,sv bc],ae (sv v_2) 3 1 (D.int .i64) a2,.box g_2 54 [o_2_0,o_2_1,o_2_2,o_2_3,sv v_2]]:=s.bv
   cases h
   exact ⟨z,v_2,sb z,s.to [1,1,0,1,0]⟩
  have h:=aL b h
  refine .g (.q z (.q z (.nil ?_)))
  refine .cs z h ?_ ?_ <;> intro h
  ·refine .region (.q z (.nil ?_))
   cases h
   exact ⟨z,v_2,sb z,s.to [0,0,0,1,0]⟩
  refine .g (.q z (.q z (.nil ?_)))
  refine .cs z h ?_ ?_ <;> intro h
  ·refine .rk 13 s [0,0,0,1] T.mix ?_
   intro W s
   have t:=s.to [0,0,0,1]
   refine .tp' 0 z z t (.tp' 1 z z t (.tp' 2 z z t (.ts' 3 z (λW t=>ld t23 t.p3 z z z z z) t z (.tp' 4 z z t (.tp' 5 z z t (.ts' 6 z (λW t=>fe f28_0 z z z) t z (.ts' 7 z (λW t=>lde (t.p1.hcellsv) t23 z z z z z) t z (bv h λx7 hx7 h=>.ts' 8 z (λW t=>ixv s.lv hx7 u23 T.t3 z z z) t z (.ts' 9 z (λW t=>lde (RV.flat t.lv hx7 z) T.t3 z z z z z) t z (.by1 10 z (.liv [x7] (D.int .i64) u23 T.t3 s z z z z ?_ z (λ_=>z))))))))))))
   intro v6 W s
   refine s.an [1,1,1,2] λt=>bv h λr2 hr2 h=>?_
   have hT0:=s.p4
   refine .by1 11 z (.av hr2 hT0 hT0.p1.lv (λ_=>z) u23 T.t3 z z z ?_)
   intro v7 W s
   refine s.an [2,2,2,2] λt=>.tp' 12 z z t (.by1 13 z (.st t23 s.p5 z z z ?_))
   intro W s
   refine ⟨λh=>absurd z h,?_⟩
   refine .done ?_
   cases h
   exact ⟨z,v7,sb z,s.to [3,3,3,0,0]⟩
  refine .g (.q z (.q z (.nil ?_)))
  refine .cs z h ?_ ?_ <;> intro h
  ·refine .g (.qn z (.ret ?_))
   cases h
   exact ⟨z,ac (vs:=[_]) (ao,v_2) (rt z rn) z (s.to [1,1,2,0,0])⟩
  refine .g (.qn z (.ret ?_))
  cases h
  exact ⟨z,ac (vs:=[_]) (ao,v_2) (rt z rn) z (s.to [1,1,2,0,0])⟩
 intro x E W hJ
 rcases y1 with o3 | o4
 ·obtain ⟨rfl,v8,hE,s⟩:=hJ
  refine ⟨_,hE.sub,?_⟩
  refine .g (.q z (.q z (.q z (.s (fe f28_0 z z z) z (.s (lde (s.p1.hcellsv) t23 z z z z z) z (bv h λx8 hx8 h=>.s (ixv s.lv hx8 u23 T.t3 z z z) z (.s (lde (RV.flat s.lv hx8 z) T.t3 z z z z z) z (.q z (.s (fe f28_1 z z z) z (.c (.sthv s.p1 T.t3 z z z ?_)))))))))))
  intro W s
  cases h
  exact .nil (.g (.q z (.qn z (.ret (ac (ao,v8) (rt z rn) z (s.to [0,1,1,0,0]))))))
 obtain ⟨rfl,hF⟩:=hJ
 refine ⟨_,λ_ _ h=>h,?_⟩
 cases h
 exact hF
theorem kx {a0:al} {a1:Int} {ao:Hd} {bc:Hd} {h_0:Hd} {A_0:Type} {e_0:A_0->D} {l_0:List A_0} {k_0:Nat} {S:Nat->Prop} {w:World} {r:Int} (h:dw a0 a1=some r) (dK:RV w (Old S w) (sv ao) 3 1 (D.int .i64) a0.Regs) (lC:RV w (Old S w) (sv bc) 3 1 (D.int .i64) a0.Mem) (hO:bQ w [cf (sv h_0) 28 3 e_0 l_0 k_0 [sv ao,vi a0.Pc,sv bc]] S) (hlt:∀ b,S b->b<w.heap.size):CL 124 #[.pointer (some (cP (adr (sv h_0)) (k_0*3+0))),vi a1] w (Ret S w (λs:Unit=>AL (sv bc) 1 r) (λs=>[cf (sv h_0) 28 3 e_0 l_0 k_0 [sv ao,vi a0.Pc,sv bc]])):=by
 unfold dw at h
 refine au func124 z z ?_
 have s:=Sep.sm hO hlt
 refine .g (.qn z (.seq (.g (.q z (.q z (.q z (.cu 4 11 ((decide (a1<0))||((Int.tmod a1 4) !=0)) s ?_ ?_)))))))
 ·refine .both (decide (a1<0)) (λb=>?_) (λb=>?_)
  ·exact .xx b z (.xx b z (.xx b z (.s (pkt b z z z) z (.nil (ck 4 s z (ff b))))))
  have hg1:=b
  exact .g hg1 (.q z (.g hg1 (.q z (.g hg1 (.q z (.s (pkf hg1 z z z) z (.nil (ck 4 s z (fg hg1)))))))))
 intro W s
 refine .q z (.cu 9 21 (((decide (a1<0))||((Int.tmod a1 4) !=0))||(decide ((w64 (Int.tdiv a1 4))>=(a0.Mem.length:Int)))) s ?_ ?_)
 ·refine .both ((decide (a1<0))||((Int.tmod a1 4) !=0)) (λb=>?_) (λb=>?_)
  ·exact .xx b z (.xx b z (.xx b z (.xx b z (.xx b z (.xx b z (.xx b z (.xx b z (.s (pkt b z z z) z (.nil (ck 9 s z (ff b)))))))))))
  have hg2:=b
  exact .g hg2 (.q z (.g hg2 (.q z (.g hg2 (.q z (.g hg2 (.q z (.g hg2 (.s (fe f28_2 z z z) z (.g hg2 (.s (lde (s.hcellsv) t23 z z z z z) z (.g hg2 (.s (a8 (s.keep lC) u23 z z) z (.g hg2 (.q z (.s (pkf hg2 z z z) z (.nil (ck 9 s z (fg hg2)))))))))))))))))))
 intro W s
 refine .nil ?_
 refine .cs z h ?_ ?_ <;> intro h
 ·cases h
  exact .g (.qn z (.ret (ac () (rt z rn) z (s.to [0]))))
 refine .skip (.g (.q z (.q z (.s (fe f28_2 z z z) z (.s (lde (s.hcellsv) t23 z z z z z) z (.q z (.q z (bv h λx1 hx1 h=>.s (ixv (s.keep lC) hx1 u23 T.t3 z z z) z (.qn z (.ret ?_))))))))))
 cases h
 exact ac () (rt z rn) (wX hx1).symm (s.to [0])
theorem cT {a0:al} {a1:Int} {a2:Int} {ao:Hd} {bc:Hd} {h_0:Hd} {A_0:Type} {e_0:A_0->D} {l_0:List A_0} {k_0:Nat} {S:Nat->Prop} {w:World} {r:(List Int)} (h:bh a0 a1 a2=some r) (lC:RV w (Old S w) (sv bc) 3 1 (D.int .i64) a0.Mem) (hO:bQ w [ae (sv ao) 3 1 (D.int .i64) a0.Regs,cf (sv h_0) 28 3 e_0 l_0 k_0 [sv ao,vi a0.Pc,sv bc]] S) (hlt:∀ b,S b->b<w.heap.size):CL 126 #[.pointer (some (cP (adr (sv h_0)) (k_0*3+0))),vi a1,vi a2] w (Ret S w (λs:Hd=>.tuple #[]) (λs=>[cf (sv h_0) 28 3 e_0 l_0 k_0 [sv s,vi a0.Pc,sv bc],ae (sv s) 3 1 (D.int .i64) r])):=by
 unfold bh at h
 refine au func126 z z ?_
 have s:=Sep.sm hO hlt
 refine .g (.q z (.q z (.nil ?_)))
 refine .cs z h ?_ ?_ <;> intro h
 ·refine .region (.q z (.q z (.s (fe f28_0 z z z) z (.s (lde (s.p1.hcellsv) t23 z z z z z) z (.q z (.q z (bv h λx1 hx1 h=>.s (ixv s.lv hx1 u23 T.t3 z z z) z (bv h λr1 hr1 h=>.c (.sev hr1 hx1 s T.t3 z z z z z z ?_)))))))))
  intro W s
  obtain rfl:=o9 h
  exact .nil (ac (vs:=[]) ao (rn) z (s.to [1,0]))
 cases h
 exact .skip (ac (vs:=[]) ao (rn) z (s.to [1,0]))
def po (w:World) (S:Nat->Prop) (ao:Hd) (bc:Hd) (h_0:Hd) (A_0:Type) (e_0:A_0->D) (l_0:List A_0) (k_0:Nat) (a0:al) (r:Int×(List Int)×Int×(List Int)):Env->World->Prop:=Fin Tryz.prog Tryz.f81 S w (λs:Hd×Hd=>.int .i64 r.1) (λs=>[cf (sv h_0) 28 3 e_0 l_0 k_0 [(sv s.1),vi r.2.2.1,(sv s.2)],ae (sv s.1) 3 1 (D.int .i64) r.2.1,ae (sv s.2) 3 1 (D.int .i64) r.2.2.2]) .ret
theorem oW {a0:al} {ao:Hd} {bc:Hd} {h_0:Hd} {A_0:Type} {e_0:A_0->D} {l_0:List A_0} {k_0:Nat} {S:Nat->Prop} {w:World} {r:Int×(List Int)×Int×(List Int)} (h:ew a0=some r) (hO:bQ w [ae (sv ao) 3 1 (D.int .i64) a0.Regs,ae (sv bc) 3 1 (D.int .i64) a0.Mem,cf (sv h_0) 28 3 e_0 l_0 k_0 [sv ao,vi a0.Pc,sv bc]] S) (hlt:∀ b,S b->b<w.heap.size) (hG:Gl w) (hM:∀ g,g<NGl->¬ S g):CL 81 #[.pointer (some (cP (adr (sv h_0)) (k_0*3+0)))] w (Ret S w (λs:Hd×Hd=>.int .i64 r.1) (λs=>[cf (sv h_0) 28 3 e_0 l_0 k_0 [(sv s.1),vi r.2.2.1,(sv s.2)],ae (sv s.1) 3 1 (D.int .i64) r.2.1,ae (sv s.2) 3 1 (D.int .i64) r.2.2.2])):=by
 unfold ew at h
 refine au func81 z z ?_
 have s:=Sep.sm hO hlt
 refine .g (.qn z (.g (.q z (.q z (.q z (.s (fe f28_1 z z z) z (.s (lde (s.p2.hcellsv) T.t3 z z z z z) z (bv h λy1 hy1 h=>?_))))))))
 have s:=s.p2
 refine .c (.cS (L0:=[cf (sv h_0) 28 3 e_0 l_0 k_0 [sv ao,vi a0.Pc,sv bc]]) s func124 (λS h1 h2 h3=>(kx hy1 (h3.rdv (k:=0) z) (h3.rdv (k:=1) z) h2 (zz h1))) z z ?_)
 rintro ⟨⟩ W s
 refine .qn z (.seq (.g (.q z (.s (D8 u153 z z) z (.nil ?_)))))
 refine .cs z h ?_ ?_ <;> intro h
 ·cases h
  exact .g (.qn z (.ret (ac (ao,bc) (rt z rn) z (s.to [0,0,0]))))
 refine .skip (.g (.q z (bv h λx1 hx1 h=>.eqv 19 z (wX hx1) (.s (pr z) z (.s (lde (RV.flat s.p2.lv hx1 z) T.t3 z z z z z) z (bv h λy2 hy2 h=>.c (.cO s func111 (fb hy2) z z ?_)))))))
 intro W s
 refine bv h λy3 hy3 h=>.c (.cO s func125 (qL hy3 (hG.at s hM)) z z ?_)
 intro W s
 refine .q z (.q z (.q z (.c (.alloc t105 s ?_))))
 intro g1 W s
 refine .c (.st t105 s z z z ?_)
 intro W s
 refine .qn z (.seq (.g (.q z (.q z (.nil ?_)))))
 refine .cs z h ?_ ?_ <;> intro h
 ·cases h
  exact .g (.qn z (.ret (ac (ao,bc) (rt z rn) z (s.to [1,1,1]))))
 refine .skip (.seq (.rk 18 s [0,0,0,0] T.mix ?_))
 intro W s
 have t:=s.to [0,0,0,0]
 refine .tp' 0 z z t (.tp' 1 z z t (.ts' 2 z (λW t=>fe f28_0 z z z) t z (.ts' 3 z (λW t=>lde (t.p1.hcellsv) t23 z z z z z) t z (.ts' 4 z (λW t=>fa f105_2 z z z) t z (.ts' 5 z (λW t=>ld T.t3 t z z z z z) t z (bv h λx2 hx2 h=>.ts' 6 z (λW t=>ixv s.p2.lv hx2 u23 T.t3 z z z) t z (.ts' 7 z (λW t=>lde (RV.flat t.p2.lv hx2 z) T.t3 z z z z z) t z (.tp' 8 z z t (.tp' 9 z z t (.ts' 10 z (λW t=>fe f28_0 z z z) t z (.ts' 11 z (λW t=>lde (t.p1.hcellsv) t23 z z z z z) t z (.ts' 12 z (λW t=>fa f105_3 z z z) t z (.ts' 13 z (λW t=>ld T.t3 t z z z z z) t z (bv h λx3 hx3 h=>.ts' 14 z (λW t=>ixv s.p2.lv hx3 u23 T.t3 z z z) t z (.ts' 15 z (λW t=>lde (RV.flat t.p2.lv hx3 z) T.t3 z z z z z) t z (.tp' 16 z z t (.tp' 17 z z t (.done (.g (.q z (.q z (.s (fe f28_1 z z z) z (.s (lde (s.p1.hcellsv) T.t3 z z z z z) z (.q z (bv h λy4 hy4 h=>.c (.cO s func63 (c4 hy4) z z ?_))))))))))))))))))))))))))
 intro W s
 refine .qn z (bv h λy5 hy5 h=>?_)
 refine .seq (CW.via (R':=λx E' W'=>(match y5 with | .inl o1=>x=.normal/\∃ (v1:Hd),aD E' [(0,.pointer (some (cP (adr (sv h_0)) (k_0*3+0)))),(8,vi o1.1)]/\Sep S w W' [.box g1 105 [vi y3.1.Op,vi y3.1.Rd,vi y3.1.Rs,vi y3.1.Rt,vi y3.1.Imm],cf (sv h_0) 28 3 e_0 l_0 k_0 [sv v1,vi a0.Pc,sv bc],ae (sv bc) 3 1 (D.int .i64) o1.2.2,ae (sv v1) 3 1 (D.int .i64) o1.2.1] | .inr o2=>x=.ret/\po w S ao bc h_0 A_0 e_0 l_0 k_0 a0 o2 E' W')) ?_ ?_)
 ·have h:=hy5
  refine .g (.s (fa f105_0 z z z) z (.s (ld T.t3 s z z z z z) z (.nil (.block (.g (.q z (.q z (.nil ?_))))))))
  refine .cs z h ?_ ?_ <;> intro h
  ·refine .g (.qn z (.ret ?_))
   cases h
   exact ⟨z,ac (vs:=[_]) (ao,bc) (rt z rn) z (s.to [1,1,1])⟩
  refine .g (.q z (.qn z (.cond z (λb=>?_) (λb=>?_))))
  ·have h:=aK b h
   refine .rk 9 s [0,2] T.mix ?_
   intro W s
   have t:=s.to [0,2]
   refine .tp' 0 z z t (.ts' 1 z (λW t=>fa f105_1 z z z) t z (.ts' 2 z (λW t=>ld T.t3 t z z z z z) t z (.tp' 3 z z t (.ts' 4 z (λW t=>fa f105_4 z z z) t z (.ts' 5 z (λW t=>ld T.t3 t z z z z z) t z (.tp' 6 z z t (bv h λy6 hy6 h=>.by1 7 z (.cO s func63 (c4 hy6) z z ?_))))))))
   intro W s
   refine s.an [0,2] λt=>bv h λy7 hy7 h=>?_
   have s:=s.p1.p2
   refine .by1 8 z (.cS (L0:=[ae (sv ao) 3 1 (D.int .i64) a0.Regs,cf (sv h_0) 28 3 e_0 l_0 k_0 [sv ao,vi a0.Pc,sv bc]]) s func126 (λS h1 h2 h3=>(cT hy7 (h3.rdv (k:=1) z) h2 (zz h1))) z z ?_)
   rintro v2 W s
   refine s.an [2,2] λt=>.done ?_
   cases h
   exact ⟨z,v2,sb z,s.to [2,0,1,0]⟩
  have h:=aL b h
  refine .g (.q z (.qn z (.cond z (λb=>?_) (λb=>?_))))
  ·have h:=aK b h
   refine .rk 11 s [0,2] T.mix ?_
   intro W s
   have t:=s.to [0,2]
   refine .tp' 0 z z t (.ts' 1 z (λW t=>fa f105_1 z z z) t z (.ts' 2 z (λW t=>ld T.t3 t z z z z z) t z (.tp' 3 z z t (.ts' 5 z (λW t=>fa f105_4 z z z) t z (.ts' 6 z (λW t=>ld T.t3 t z z z z z) t z (bv h λy8 hy8 h=>.by1 4 z (.cO s func111 (fb hy8) z z ?_)))))))
   intro W s
   refine s.an [0,2] λt=>bv h λy9 hy9 h=>.by1 7 z (.cO s func111 (fb hy9) z z ?_)
   intro W s
   refine s.an [0,2] λt=>.tp' 8 z z t (bv h λy10 hy10 h=>.by1 9 z (.cO s func127 (oo hy10) z z ?_))
   intro W s
   refine s.an [0,2] λt=>bv h λy11 hy11 h=>?_
   have s:=s.p1.p2
   refine .by1 10 z (.cS (L0:=[ae (sv ao) 3 1 (D.int .i64) a0.Regs,cf (sv h_0) 28 3 e_0 l_0 k_0 [sv ao,vi a0.Pc,sv bc]]) s func126 (λS h1 h2 h3=>(cT hy11 (h3.rdv (k:=1) z) h2 (zz h1))) z z ?_)
   rintro v3 W s
   refine s.an [2,2] λt=>.done ?_
   cases h
   exact ⟨z,v3,sb z,s.to [2,0,1,0]⟩
  have h:=aL b h
  refine bv h λy12 hy12 h=>?_
  refine .seq (CW.via (R':=λx E' W'=>x=.normal/\aD E' [(0,.pointer (some (cP (adr (sv h_0)) (k_0*3+0)))),(4,Pt g1),(6,vi x2),(7,vi x3),(8,vi y4),(51,vi y3.1.Op),(90,.bool y12)]/\Sep S w W' [.box g1 105 [vi y3.1.Op,vi y3.1.Rd,vi y3.1.Rs,vi y3.1.Rt,vi y3.1.Imm],cf (sv h_0) 28 3 e_0 l_0 k_0 [sv ao,vi a0.Pc,sv bc],ae (sv ao) 3 1 (D.int .i64) a0.Regs,ae (sv bc) 3 1 (D.int .i64) a0.Mem]) ?_ ?_)
  ·have h:=hy12
   refine .g (.q z (.q z (.nil ?_)))
   refine .cs z h ?_ ?_ <;> intro h
   ·refine .skip ?_
    cases h
    exact ⟨z,sb z,s.to [0,0,0,0]⟩
   refine .region (.q z (.q z (.nil ?_)))
   cases h
   exact ⟨z,sb z,s.to [0,0,0,0]⟩
  intro x E W hJ
  obtain ⟨rfl,hE,s⟩:=hJ
  refine ⟨_,hE.sub,?_⟩
  refine .cond z (λb=>?_) (λb=>?_)
  ·have h:=aK b h
   refine .g (.q z (.q z (.s (fa f105_4 z z z) z (.s (ld T.t3 s z z z z z) z (.q z (bv h λy13 hy13 h=>.c (.cO s func63 (c4 hy13) z z ?_)))))))
   intro W s
   refine bv h λy14 hy14 h=>?_
   have s:=s.p1
   refine .c (.cS (L0:=[cf (sv h_0) 28 3 e_0 l_0 k_0 [sv ao,vi a0.Pc,sv bc]]) s func124 (λS h1 h2 h3=>(kx hy14 (h3.rdv (k:=1) z) (h3.rdv (k:=2) z) h2 (zz h1))) z z ?_)
   rintro ⟨⟩ W s
   refine .qn z (.seq (.g (.q z (.s (D8 u153 z z) z (.nil ?_)))))
   refine .cs z h ?_ ?_ <;> intro h
   ·refine .g (.qn z (.ret ?_))
    cases h
    exact ⟨z,ac (vs:=[_]) (ao,bc) (rt z rn) z (s.to [0,1,1])⟩
   refine .skip (.g (.s (fa f105_0 z z z) z (.s (ld T.t3 s.p1 z z z z z) z (.qn z (.cond z (λb=>?_) (λb=>?_))))))
   ·have h:=aK b h
    refine .region (.q z (.q z (bv h λx4 hx4 h=>.eqv 105 z (wX hx4) (.s (pr z) z (bv h λr1 hr1 h=>.c (.sev hr1 hx4 s.p3 T.t3 z z z z z z ?_))))))
    intro W s
    refine .nil ?_
    cases h
    exact ⟨z,ao,sb z,s.to [2,1,0,0]⟩
   have h:=aL b h
   refine bv h λx5 hx5 h=>.eqv 9 z (wX hx5) (.rk 7 s [1,2] T.mix ?_)
   intro W s
   have t:=s.to [1,2]
   refine .tp' 0 z z t (.ts' 1 z (λW t=>fa f105_1 z z z) t z (.ts' 2 z (λW t=>ld T.t3 t z z z z z) t z (.tp' 3 z z t (.tp' 4 z z t (.ts' 5 z (λW t=>lde (RV.flat t.p1.lv hx5 z) T.t3 z z z z z) t z (bv h λy15 hy15 h=>?_))))))
   have s:=s.p2
   refine .by1 6 z (.cS (L0:=[ae (sv ao) 3 1 (D.int .i64) a0.Regs,cf (sv h_0) 28 3 e_0 l_0 k_0 [sv ao,vi a0.Pc,sv bc]]) s func126 (λS h1 h2 h3=>(cT hy15 (h3.rdv (k:=1) z) h2 (zz h1))) z z ?_)
   rintro v4 W s
   refine s.an [2,2] λt=>.done ?_
   cases h
   exact ⟨z,v4,sb z,s.to [2,0,1,0]⟩
  have h:=aL b h
  refine .g (.q z (.qn z (.cond z (λb=>?_) (λb=>?_))))
  ·have h:=aK b h
   refine .g (.q z (.s (fa f105_1 z z z) z (.s (ld T.t3 s z z z z z) z (.q z (bv h λy16 hy16 h=>?_)))))
   have s:=s.p1.p2
   refine .c (.cS (L0:=[ae (sv ao) 3 1 (D.int .i64) a0.Regs,cf (sv h_0) 28 3 e_0 l_0 k_0 [sv ao,vi a0.Pc,sv bc]]) s func126 (λS h1 h2 h3=>(cT hy16 (h3.rdv (k:=1) z) h2 (zz h1))) z z ?_)
   rintro v5 W s
   refine .nil (.region (.q z (.s (fa f105_4 z z z) z (.s (ld T.t3 s.p2 z z z z z) z (.q z (bv h λy17 hy17 h=>.c (.cO s func63 (c4 hy17) z z ?_)))))))
   intro W s
   refine .q z (.q z (.nil ?_))
   cases h
   exact ⟨z,v5,sb z,s.to [2,0,1,0]⟩
  have h:=aL b h
  refine bv h λy18 hy18 h=>?_
  refine .seq (CW.via (R':=λx E' W'=>x=.normal/\aD E' [(0,.pointer (some (cP (adr (sv h_0)) (k_0*3+0)))),(4,Pt g1),(6,vi x2),(7,vi x3),(8,vi y4),(51,vi y3.1.Op),(128,.bool y18)]/\Sep S w W' [.box g1 105 [vi y3.1.Op,vi y3.1.Rd,vi y3.1.Rs,vi y3.1.Rt,vi y3.1.Imm],cf (sv h_0) 28 3 e_0 l_0 k_0 [sv ao,vi a0.Pc,sv bc],ae (sv ao) 3 1 (D.int .i64) a0.Regs,ae (sv bc) 3 1 (D.int .i64) a0.Mem]) ?_ ?_)
  ·have h:=hy18
   refine .g (.q z (.q z (.nil ?_)))
   refine .cs z h ?_ ?_ <;> intro h
   ·refine .skip ?_
    cases h
    exact ⟨z,sb z,s.to [0,0,0,0]⟩
   refine .region (.q z (.q z (.nil ?_)))
   cases h
   exact ⟨z,sb z,s.to [0,0,0,0]⟩
  intro x E W hJ
  obtain ⟨rfl,hE,s⟩:=hJ
  refine ⟨_,hE.sub,?_⟩
  refine .cs z h ?_ ?_ <;> intro h
  ·refine .g (.q z (.q z (.q z (.s (fa f105_0 z z z) z (.s (ld T.t3 s z z z z z) z (.q z (.s (eqb u4 z z z) z (.nil ?_))))))))
   refine .cs z h ?_ ?_ <;> intro h
   ·refine .rk 9 s [0,0,0,0] T.mix ?_
    intro W s
    have t:=s.to [0,0,0,0]
    refine .tp' 0 z z t (.tp' 1 z z t (.ts' 2 z (λW t=>fe f28_1 z z z) t z (.ts' 3 z (λW t=>lde (t.p1.hcellsv) T.t3 z z z z z) t z (.ts' 4 z (λW t=>fa f105_4 z z z) t z (.ts' 5 z (λW t=>ld T.t3 t z z z z z) t z (.tp' 6 z z t (bv h λy19 hy19 h=>.by1 7 z (.cO s func63 (c4 hy19) z z ?_))))))))
    intro W s
    refine s.an [0,0,0,0] λt=>.tp' 8 z z t (.done ?_)
    cases h
    exact ⟨z,ao,sb z,s.to [0,0,1,0]⟩
   refine .skip ?_
   cases h
   exact ⟨z,ao,sb z,s.to [0,0,1,0]⟩
  refine .g (.q z (.qn z (.cond z (λb=>?_) (λb=>?_))))
  ·have h:=aK b h
   refine .rk 8 s [0,2] T.mix ?_
   intro W s
   have t:=s.to [0,2]
   refine .tp' 0 z z t (.ts' 1 z (λW t=>fa f105_1 z z z) t z (.ts' 2 z (λW t=>ld T.t3 t z z z z z) t z (.ts' 3 z (λW t=>fa f105_4 z z z) t z (.ts' 4 z (λW t=>ld T.t3 t z z z z z) t z (.tp' 5 z z t (bv h λy20 hy20 h=>.by1 6 z (.cO s func63 (c4 hy20) z z ?_)))))))
   intro W s
   refine s.an [0,2] λt=>bv h λy21 hy21 h=>?_
   have s:=s.p1.p2
   refine .by1 7 z (.cS (L0:=[ae (sv ao) 3 1 (D.int .i64) a0.Regs,cf (sv h_0) 28 3 e_0 l_0 k_0 [sv ao,vi a0.Pc,sv bc]]) s func126 (λS h1 h2 h3=>(cT hy21 (h3.rdv (k:=1) z) h2 (zz h1))) z z ?_)
   rintro v6 W s
   refine s.an [2,2] λt=>.done ?_
   cases h
   exact ⟨z,v6,sb z,s.to [2,0,1,0]⟩
  have h:=aL b h
  refine .g (.q z (.qn z (.cond z (λb=>?_) (λb=>?_))))
  ·have h:=aK b h
   refine .g (.q z (.s (fa f105_1 z z z) z (.s (ld T.t3 s z z z z z) z (.q z (bv h λy22 hy22 h=>?_)))))
   have s:=s.p1.p2
   refine .c (.cS (L0:=[ae (sv ao) 3 1 (D.int .i64) a0.Regs,cf (sv h_0) 28 3 e_0 l_0 k_0 [sv ao,vi a0.Pc,sv bc]]) s func126 (λS h1 h2 h3=>(cT hy22 (h3.rdv (k:=1) z) h2 (zz h1))) z z ?_)
   rintro v7 W s
   refine .nil (.rk 9 s [0,0,0,0] T.mix ?_)
   intro W s
   have t:=s.to [0,0,0,0]
   refine .tp' 0 z z t (.tp' 1 z z t (.ts' 2 z (λW t=>fe f28_1 z z z) t z (.ts' 3 z (λW t=>lde (t.hcellsv) T.t3 z z z z z) t z (.ts' 4 z (λW t=>fa f105_4 z z z) t z (.ts' 5 z (λW t=>ld T.t3 t.p2 z z z z z) t z (.tp' 6 z z t (bv h λy23 hy23 h=>.by1 7 z (.cO s func63 (c4 hy23) z z ?_))))))))
   intro W s
   refine s.an [0,0,0,0] λt=>.tp' 8 z z t (.done ?_)
   cases h
   exact ⟨z,v7,sb z,s.to [2,0,1,0]⟩
  have h:=aL b h
  refine .rk 12 s [0,2] T.mix ?_
  intro W s
  have t:=s.to [0,2]
  refine .tp' 0 z z t (.ts' 1 z (λW t=>fa f105_1 z z z) t z (.ts' 2 z (λW t=>ld T.t3 t z z z z z) t z (.ts' 3 z (λW t=>fa f105_0 z z z) t z (.ts' 4 z (λW t=>ld T.t3 t z z z z z) t z (.tp' 5 z z t (bv h λx6 hx6 h=>.ts' 6 z (λW t=>ixt hx6 z u159 T.t3 z z z) t z (.ts' 7 z (λW t=>ldt (hG.at t hM).2.2.1 hx6 T.t3 z z z z z) t z (.tp' 8 z z t (.tp' 9 z z t (bv h λy24 hy24 h=>.by1 10 z (.cO s func128 (q8 hy24) z z ?_)))))))))))
  intro W s
  refine s.an [0,2] λt=>bv h λy25 hy25 h=>?_
  have s:=s.p1.p2
  refine .by1 11 z (.cS (L0:=[ae (sv ao) 3 1 (D.int .i64) a0.Regs,cf (sv h_0) 28 3 e_0 l_0 k_0 [sv ao,vi a0.Pc,sv bc]]) s func126 (λS h1 h2 h3=>(cT hy25 (h3.rdv (k:=1) z) h2 (zz h1))) z z ?_)
  rintro v8 W s
  refine s.an [2,2] λt=>.done ?_
  cases h
  exact ⟨z,v8,sb z,s.to [2,0,1,0]⟩
 intro x E W hJ
 rcases y5 with o3 | o4
 ·obtain ⟨rfl,v9,hE,s⟩:=hJ
  refine ⟨_,hE.sub,?_⟩
  refine .g (.q z (.q z (.q z (.s (fe f28_1 z z z) z (.c (.sthv s.p1 T.t3 z z z ?_))))))
  intro W s
  cases h
  exact .nil (.g (.qn z (.ret (ac (v9,bc) (rt z rn) z (s.to [0,2,1])))))
 obtain ⟨rfl,hF⟩:=hJ
 refine ⟨_,λ_ _ h=>h,?_⟩
 cases h
 exact hF
theorem rJ {a0:Int} {a1:cg} {ez:Hd} {aI:Hd} {cq:Hd} {g_1:Nat} {S:Nat->Prop} {w:World} {r:Int×(List al)×(List Box)×(List Int)} (h:fD a0 a1=some r) (hO:bQ w [ae (sv ez) 28 3 aV a1.Harts,ae (sv aI) 95 2 aR a1.Boxes,ae (sv cq) 3 1 (D.int .i64) a1.Out,.box g_1 54 [sv ez,sv aI,vi a1.Turn,vi a1.Idle,sv cq]] S) (hlt:∀ b,S b->b<w.heap.size) (hG:Gl w) (hM:∀ g,g<NGl->¬ S g):CL 103 #[vi a0,Pt g_1] w (Ret S w (λs:Hd×Hd×Hd=>.int .i64 r.1) (λs=>[.box g_1 54 [(sv s.1),(sv s.2.1),vi a1.Turn,vi a1.Idle,(sv s.2.2)],ae (sv s.1) 28 3 aV r.2.1,ae (sv s.2.1) 95 2 aR r.2.2.1,ae (sv s.2.2) 3 1 (D.int .i64) r.2.2.2])):=by
 unfold fD at h
 refine au func103 z z ?_
 have s:=Sep.sm hO hlt
 refine .g (.qn z (.g (.s (fa f54_0 z z z) z (.s (ld t52 s.p3 z z z z z) z (.q z (bv h λx1 hx1 h=>.s (ixv s.lv hx1 u52 t28 z z z) z (.qn z (.seq (.block (.g (.q z (.q z (.s (fe f28_1 z z z) z ?_)))))))))))))
 obtain ⟨k1,s⟩:=Sep.ov s hx1
 have s:=s.oa
 obtain ⟨v1,k1,rfl,s⟩:=s.ow
 obtain ⟨k1,rfl,s⟩:=Sep.oF z s
 obtain ⟨v2,k1,rfl,s⟩:=s.ow
 obtain ⟨rfl,s⟩:=s.oN
 refine .s (lde (s.p2.hcellsv) T.t3 z z z z z) z (.q z (.qn z (.cond z (λb=>?_) (λb=>?_))))
 ·have h:=aK b h
  refine .g (.q z (.s (fa f54_1 z z z) z (.s (ld t40 s.p5 z z z z z) z (.s (fa f54_4 z z z) z (bv h λy1 hy1 h=>?_)))))
  have s:=s.p5.p5.p5.p5.p5
  refine .c (.cS (L0:=[ae (sv v1) 3 1 (D.int .i64) x1.Regs,cf (sv ez) 28 3 aV a1.Harts (Int.toNat a0) [sv v1,vi x1.Pc,sv v2],ae (sv aI) 95 2 aR a1.Boxes,ae (sv cq) 3 1 (D.int .i64) a1.Out,.box g_1 54 [sv ez,sv aI,vi a1.Turn,vi a1.Idle,sv cq]]) s func104 (λS h1 h2 h3=>(oV hy1 (h3.rdv (k:=0) z) h2 (zz h1))) z z ?_)
  rintro ⟨v3,v4⟩ W s
  refine .qn z (.ret ?_)
  have s:=Sep.gat (ds:=[aV (al.mk y1.2.1 y1.2.2.1 x1.Mem)]) (cs:=[sv v3,vi y1.2.2.1,sv v2]) (L1:=[ae (sv v3) 3 1 (D.int .i64) y1.2.1,ae (sv v2) 3 1 (D.int .i64) x1.Mem]) (.agg (.row (.flat (c1:=[vi y1.2.2.1]) z (.row .nil)))) (s.to [3,4,0,0,0,0])
  have s:Sep _ _ _ [ae (sv ez) 28 3 aV (a1.Harts.set (Int.toNat a0) (al.mk y1.2.1 y1.2.2.1 x1.Mem)),ae (sv aI) 95 2 aR y1.2.2.2.2,.box g_1 54 [sv ez,sv aI,vi a1.Turn,vi a1.Idle,sv v4],ae (sv v4) 3 1 (D.int .i64) y1.2.2.2.1]:=s.bv
  cases h
  exact ac (ez,aI,v4) (rt z rn) z (s.to [2,0,0,0])
 have h:=aL b h
 refine .g (.q z (bv h λy2 hy2 h=>?_))
 have s:=s.p2.p1.p2
 refine .c (.cS (L0:=[ae (sv v1) 3 1 (D.int .i64) x1.Regs,ae (sv v2) 3 1 (D.int .i64) x1.Mem,cf (sv ez) 28 3 aV a1.Harts (Int.toNat a0) [sv v1,vi x1.Pc,sv v2]]) s func81 (λS h1 h2 h3=>(oW hy2 h2 (zz h1) (hG.at s hM) (hG.noS hM h1))) z z ?_)
 rintro ⟨v5,v6⟩ W s
 refine .q z (.q z (.nil ?_))
 refine .cs z h ?_ ?_ <;> intro h
 ·refine .g (.qn z (.ret ?_))
  have s:=Sep.gat (ds:=[aV (al.mk y2.2.1 y2.2.2.1 y2.2.2.2)]) (cs:=[sv v5,vi y2.2.2.1,sv v6]) (L1:=[ae (sv v5) 3 1 (D.int .i64) y2.2.1,ae (sv v6) 3 1 (D.int .i64) y2.2.2.2]) (.agg (.row (.flat (c1:=[vi y2.2.2.1]) z (.row .nil)))) (s.to [1,1,0,0,0,0])
  have s:Sep _ _ _ [ae (sv ez) 28 3 aV (a1.Harts.set (Int.toNat a0) (al.mk y2.2.1 y2.2.2.1 y2.2.2.2)),ae (sv aI) 95 2 aR a1.Boxes,ae (sv cq) 3 1 (D.int .i64) a1.Out,.box g_1 54 [sv ez,sv aI,vi a1.Turn,vi a1.Idle,sv cq]]:=s.bv
  cases h
  exact ac (ez,aI,cq) (rt z rn) z (s.to [3,0,0,0])
 refine .skip (.g (.qn z (.ret ?_)))
 have s:=Sep.gat (ds:=[aV (al.mk y2.2.1 y2.2.2.1 y2.2.2.2)]) (cs:=[sv v5,vi y2.2.2.1,sv v6]) (L1:=[ae (sv v5) 3 1 (D.int .i64) y2.2.1,ae (sv v6) 3 1 (D.int .i64) y2.2.2.2]) (.agg (.row (.flat (c1:=[vi y2.2.2.1]) z (.row .nil)))) (s.to [1,1,0,0,0,0])
 have s:Sep _ _ _ [ae (sv ez) 28 3 aV (a1.Harts.set (Int.toNat a0) (al.mk y2.2.1 y2.2.2.1 y2.2.2.2)),ae (sv aI) 95 2 aR a1.Boxes,ae (sv cq) 3 1 (D.int .i64) a1.Out,.box g_1 54 [sv ez,sv aI,vi a1.Turn,vi a1.Idle,sv cq]]:=s.bv
 cases h
 exact ac (ez,aI,cq) (rt z rn) z (s.to [3,0,0,0])
def qQ (w:World) (S:Nat->Prop) (oX:Hd) (gL:Hd) (lF:Hd) (g_4:Nat) (a0:Int) (a1:Int) (a2:Int) (a3:Int) (a4:cg) (r:Int×Int×Bool×(List al)×(List Box)×(List Int)):Env->World->Prop:=Fin Tryz.prog Tryz.f102 S w (λs:Hd×Hd×Hd=>.tuple #[vi r.1,vi r.2.1,.bool r.2.2.1]) (λs=>[.box g_4 54 [(sv s.1),(sv s.2.1),vi a4.Turn,vi a4.Idle,(sv s.2.2)],ae (sv s.1) 28 3 aV r.2.2.2.1,ae (sv s.2.1) 95 2 aR r.2.2.2.2.1,ae (sv s.2.2) 3 1 (D.int .i64) r.2.2.2.2.2]) .ret
end
noncomputable section
theorem qk {a0:Int} {a1:Int} {a2:Int} {a3:Int} {a4:cg} {oX:Hd} {gL:Hd} {lF:Hd} {g_4:Nat} {S:Nat->Prop} {w:World} {r:Int×Int×Bool×(List al)×(List Box)×(List Int)} (h:iz a0 a1 a2 a3 a4=some r) (hO:bQ w [ae (sv oX) 28 3 aV a4.Harts,ae (sv gL) 95 2 aR a4.Boxes,ae (sv lF) 3 1 (D.int .i64) a4.Out,.box g_4 54 [sv oX,sv gL,vi a4.Turn,vi a4.Idle,sv lF]] S) (hlt:∀ b,S b->b<w.heap.size) (hG:Gl w) (hM:∀ g,g<NGl->¬ S g):CL 102 #[vi a0,vi a1,vi a2,vi a3,.func (.func 103) #[] #[Pt g_4]] w (Ret S w (λs:Hd×Hd×Hd=>.tuple #[vi r.1,vi r.2.1,.bool r.2.2.1]) (λs=>[.box g_4 54 [(sv s.1),(sv s.2.1),vi a4.Turn,vi a4.Idle,(sv s.2.2)],ae (sv s.1) 28 3 aV r.2.2.2.1,ae (sv s.2.1) 95 2 aR r.2.2.2.2.1,ae (sv s.2.2) 3 1 (D.int .i64) r.2.2.2.2.2])):=by
 unfold iz at h
 refine au func102 z z ?_
 have s:=Sep.sm hO hlt
 refine .g (.q z (.q z (.qn z (.seq (.block (bv h λy1 hy1 h=>?_))))))
 refine .via (.iter (λs1 E' W'=>∃ (v7:Hd) (v8:Hd) (v9:Hd),aD E' [(0,vi s1.1),(1,vi a1),(2,vi s1.2.1),(3,vi s1.2.2.1),(4,.func (.func 103) #[] #[Pt g_4])]/\Sep S w W' [.box g_4 54 [sv v7,sv v8,vi a4.Turn,vi a4.Idle,sv v9],ae (sv v7) 28 3 aV s1.2.2.2.1,ae (sv v8) 95 2 aR s1.2.2.2.2.1,ae (sv v9) 3 1 (D.int .i64) s1.2.2.2.2.2]) (λy2 x E' W'=>(match y2 with | .inl o1=>x=.ret/\qQ w S oX gL lF g_4 a0 a1 a2 a3 a4 o1 E' W' | .inr o2=>x=.exit 0/\∃ (v10:Hd) (v11:Hd) (v12:Hd),aD E' [(2,vi o2.1),(3,vi o2.2.1)]/\Sep S w W' [.box g_4 54 [sv v10,sv v11,vi a4.Turn,vi a4.Idle,sv v12],ae (sv v10) 28 3 aV o2.2.2.1,ae (sv v11) 95 2 aR o2.2.2.2.1,ae (sv v12) 3 1 (D.int .i64) o2.2.2.2.2])) hy1 ⟨oX,gL,lF,sb rfl,s.to [3,0,0,0] rfl⟩ ?_) ?_
 ·intro s1 y3 E W h hI
  obtain ⟨v4,v5,v6,hE,s⟩:=hI
  refine CW.sub hE ?_
  unfold dc at h
  refine .seq (.g (.q z (.q z (.q z (.cu 4 22 ((decide (s1.1>0))&&(decide (s1.2.2.1<a1))) s ?_ ?_)))))
  ·refine .both (decide (s1.1>0)) (λb=>?_) (λb=>?_)
   ·have hg1:=b
    exact .g hg1 (.q z (.g hg1 (.q z (.g hg1 (.q z (.s (pkt hg1 z z z) z (.nil (ck 4 s z (bi hg1)))))))))
   exact .xx b z (.xx b z (.xx b z (.s (pkf b z z z) z (.nil (ck 4 s z (bj b))))))
  intro W s
  refine .nil (.cond z (λb=>?_) (λb=>?_))
  ·have h:=aK b h
   refine .skip (.seq (.block (.g (.q z (.q z (.q z (.q z (.q z (bv h λy4 hy4 h=>?_)))))))))
   have s:=s.p3.p3.p3
   refine .c (.callC (L0:=[ae (sv v4) 28 3 aV s1.2.2.2.1,ae (sv v5) 95 2 aR s1.2.2.2.2.1,ae (sv v6) 3 1 (D.int .i64) s1.2.2.2.2.2,.box g_4 54 [sv v4,sv v5,vi a4.Turn,vi a4.Idle,sv v6]]) (vs:=[vi s1.2.1]) (cap:=[Pt g_4]) s func103 (λS h1 h2 h3=>(rJ hy4 h2 (zz h1) (hG.at s hM) (hG.noS hM h1))) z z z ?_)
   rintro ⟨v13,v14,v15⟩ W s
   refine bv h λy5 hy5 h=>.c (.cO s func153 (oU hy5) z z ?_)
   intro W s
   refine .q z (.q z (.q z (.q z (.q z (.q z (.qn z (.seq (.g (.q z (.q z (.nil ?_)))))))))))
   refine .cs z h ?_ ?_ <;> intro h
   ·refine .g (.q z (.q z (.qn z (.ret ?_))))
    cases h
    exact ⟨by simp,z,ac (vs:=[_,_,_]) (v13,v14,v15) (rt z (rt z (rt z rn))) z (s.to [0,0,0,0])⟩
   refine .skip (.region (.q z (.q z (.q z (.qn z (.region (.q z (.q z (.q z (.nil ?_))))))))))
   cases h
   exact ⟨z,v13,v14,v15,sb z,s.to [0,0,0,0]⟩
  have h:=aL b h
  refine .exit ?_
  cases h
  exact ⟨by simp,z,v4,v5,v6,sb z,s.to [0,0,0,0]⟩
 intro x E W hJ
 rcases y1 with o3 | o4
 ·obtain ⟨rfl,hF⟩:=hJ
  refine ⟨_,λ_ _ h=>h,?_⟩
  cases h
  exact hF
 obtain ⟨rfl,v16,v17,v18,hE,s⟩:=hJ
 refine ⟨_,hE.sub,?_⟩
 cases h
 exact .g (.q z (.q z (.q z (.q z (.qn z (.ret (ac (vs:=[_,_,_]) (v16,v17,v18) (rt z (rt z (rt z rn))) z (s.to [0,0,0,0]))))))))
theorem t0 {a0:cg} {a1:Int} {jB:Hd} {ba:Hd} {bZ:Hd} {w:World} {r:cg×Bool} (h:j3 a0 a1=some r) (fd:RO w jB 28 3 aV a0.Harts) (cR:RO w ba 95 2 aR a0.Boxes) (dU:RO w bZ 3 1 (D.int .i64) a0.Out) (hG:Gl w):CL 53 #[.agg #[sv jB,sv ba,vi a0.Turn,vi a0.Idle,sv bZ],vi a1] w (Ret No w (λs:Hd×Hd×Hd=>.tuple #[.agg #[(sv s.1),(sv s.2.1),vi r.1.Turn,vi r.1.Idle,(sv s.2.2)],.bool r.2]) (λs=>[ae (sv s.1) 28 3 aV r.1.Harts,ae (sv s.2.1) 95 2 aR r.1.Boxes,ae (sv s.2.2) 3 1 (D.int .i64) r.1.Out])):=by
 unfold j3 at h
 refine au func53 z z ?_
 have s:=Sep.start w
 refine .g (.c (.box s z z ?_))
 intro g1 W s
 refine .c (.alloc t54 s ?_)
 intro g2 W s
 refine .qn z (.seq (.g (.s (ld t54 s.p1 z z z z z) z (bv h λy1 hy1 h=>.c (.cO s func50 (rI hy1 (s.keep fd) (s.keep cR) (s.keep dU)) z z ?_)))))
 intro W s
 refine .q z (.q z (.cu 3 18 ((!y1)||(decide (a1<0))) s ?_ ?_))
 ·refine .both (!y1) (λb=>?_) (λb=>?_)
  ·exact .xx b z (.xx b z (.s (pkt b z z z) z (.nil (ck 3 s z (ff b)))))
  have hg1:=b
  exact .g hg1 (.q z (.g hg1 (.q z (.s (pkf hg1 z z z) z (.nil (ck 3 s z (fg hg1)))))))
 intro W s
 refine .q z (.cu 3 22 (((!y1)||(decide (a1<0)))||(decide (a1>1000000))) s ?_ ?_)
 ·refine .both ((!y1)||(decide (a1<0))) (λb=>?_) (λb=>?_)
  ·exact .xx b z (.xx b z (.s (pkt b z z z) z (.nil (ck 3 s z (ff b)))))
  have hg2:=b
  exact .g hg2 (.q z (.g hg2 (.q z (.s (pkf hg2 z z z) z (.nil (ck 3 s z (fg hg2)))))))
 intro W s
 refine .nil (.cond z (λb=>?_) (λb=>?_))
 ·have h:=aK b h
  refine .g (.s (bs T.s54 z z) z (.c (.st t54 s z z z ?_)))
  intro W s
  refine .qn z (.ret ?_)
  have s:=s.nilv 28 3 aV
  have s:=s.nilv 95 2 aR
  have s:=s.nilv 3 1 (D.int .i64)
  cases h
  exact ac (vs:=[_,_]) (aA,aA,aA) (rc s.p3 t54 z (rt z rn) z z) z (s.to [2,1,0])
 have h:=aL b h
 refine .skip (.seq (bv h λy2 hy2 h=>bv h λy3 hy3 h=>?_))
 refine .via (R':=λx E' W'=>x=.normal/\∃ (g3:Nat) (v1:Hd) (v2:Hd) (v3:Hd),aD E' [(1,vi a1),(2,Pt g1),(4,Pt g2),(6,Pt g3)]/\Sep No w W' [.box g2 54 [sv aA,sv aA,vi 0,vi 0,sv aA],.box g1 54 [sv jB,sv ba,vi a0.Turn,vi a0.Idle,sv bZ],.box g3 54 [sv v1,sv v2,vi 0,vi 0,sv v3],ae (sv v1) 28 3 aV [],ae (sv v2) 95 2 aR y2,ae (sv v3) 3 1 (D.int .i64) y3]) ?_ ?_
 ·refine .rk 8 s [0,0] T.mix ?_
  intro W s
  have t:=s.to [0,0]
  refine .ts' 0 z (λW t=>fa f54_1 z z z) t z (.ts' 1 z (λW t=>ld t40 t.p1 z z z z z) t z (.ts' 3 z (λW t=>fa f54_4 z z z) t z (.ts' 4 z (λW t=>ld t23 t.p1 z z z z z) t z (.by [2,7] ⟨⟨_,z,?_⟩,⟨_,z,?_⟩,trivial⟩))))
  ·refine (.cV s func101 (fX hy2 (s.keep cR)) z z ?_)
   intro v4 W s
   refine s.an [1,1] λt=>.by [5,7] ⟨⟨_,z,?_⟩,⟨_,z,?_⟩,trivial⟩
   ·refine (.cV s func58 (a9 hy3 (s.keep dU)) z z ?_)
    intro v5 W s
    refine s.an [2,2] λt=>.ts' 6 z (λW t=>bs T.s54 z z) t z (.by1 7 z (.alloc t54 s ?_))
    intro g4 W s
    refine s.an [3,3] λt=>.by1 8 z (.st t54 s z z z ?_)
    intro W s
    refine ⟨λh=>absurd z h,?_⟩
    refine .done ?_
    have s:=s.nilv 28 3 aV
    exact ⟨z,g4,aA,v4,v5,sb z,s.to [4,4,1,0,1,0]⟩
   refine (.alloc t54 s ?_)
   intro g5 W s
   refine s.an [2,2] λt=>.by1 5 z (.cV s func58 (a9 hy3 (s.keep dU)) z z ?_)
   intro v6 W s
   refine s.an [3,3] λt=>.ts' 6 z (λW t=>bs T.s54 z z) t z (.by1 8 z (.st t54 s.p1 z z z ?_))
   intro W s
   refine ⟨λh=>absurd z h,?_⟩
   refine .done ?_
   have s:=s.nilv 28 3 aV
   exact ⟨z,g5,aA,v4,v6,sb z,s.to [4,4,1,0,1,0]⟩
  refine (.alloc t54 s ?_)
  intro g6 W s
  refine s.an [1,1] λt=>.by1 2 z (.cV s func101 (fX hy2 (s.keep cR)) z z ?_)
  intro v7 W s
  refine s.an [2,2] λt=>.by1 5 z (.cV s func58 (a9 hy3 (s.keep dU)) z z ?_)
  intro v8 W s
  refine s.an [3,3] λt=>.ts' 6 z (λW t=>bs T.s54 z z) t z (.by1 8 z (.st t54 s.p2 z z z ?_))
  intro W s
  refine ⟨λh=>absurd z h,?_⟩
  refine .done ?_
  have s:=s.nilv 28 3 aV
  exact ⟨z,g6,aA,v7,v8,sb z,s.to [4,4,1,0,1,0]⟩
 intro x E W hJ
 obtain ⟨rfl,g7,v9,v10,v11,hE,s⟩:=hJ
 refine ⟨_,hE.sub,?_⟩
 refine .seq (.g (.s (fa f54_0 z z z) z (.s (ld t52 s.p1 z z z z z) z (.s (a8 (s.keep fd) u52 z z) z (.qn z (.block (bv h λy4 hy4 h=>?_)))))))
 refine .via (.iter (λs1 E' W'=>∃ (v14:Hd),aD E' [(1,vi a1),(2,Pt g1),(4,Pt g2),(6,Pt g7),(32,(sv jB)),(33,vi (a0.Harts.length:Int)),(34,vi s1.1)]/\Sep No w W' [.box g2 54 [sv aA,sv aA,vi 0,vi 0,sv aA],.box g1 54 [sv jB,sv ba,vi a0.Turn,vi a0.Idle,sv bZ],.box g7 54 [sv v14,sv v10,vi 0,vi 0,sv v11],ae (sv v10) 95 2 aR y2,ae (sv v11) 3 1 (D.int .i64) y3,ae (sv v14) 28 3 aV s1.2]) (λy5 x E' W'=>x=.exit 0/\∃ (v15:Hd),aD E' [(1,vi a1),(2,Pt g1),(4,Pt g2),(6,Pt g7)]/\Sep No w W' [.box g2 54 [sv aA,sv aA,vi 0,vi 0,sv aA],.box g1 54 [sv jB,sv ba,vi a0.Turn,vi a0.Idle,sv bZ],.box g7 54 [sv v15,sv v10,vi 0,vi 0,sv v11],ae (sv v10) 95 2 aR y2,ae (sv v11) 3 1 (D.int .i64) y3,ae (sv v15) 28 3 aV y5]) hy4 ⟨v9,sb z,s.to [0,0,0,1,1,0]⟩ ?_) ?_
 ·intro s1 y6 E W h hI
  obtain ⟨v13,hE,s⟩:=hI
  refine CW.sub hE ?_
  unfold eX at h
  refine .g (.qn z (.seq ?_))
  refine .cs z h ?_ ?_ <;> intro h
  ·refine .skip (.seq (.block (.g (bv h λx1 hx1 h=>?_))))
   obtain ⟨k1,hd,hck1⟩:=RV.el2 fd hx1
   have hd1:=ri hd
   obtain ⟨v16,k1,rfl,q13,hd2⟩:=c9 fd hd1
   obtain ⟨k1,rfl,hd3⟩:=dJ fd z hd2
   obtain ⟨v17,k1,rfl,q14,hd4⟩:=c9 fd hd3
   obtain rfl:=iq fd hd4
   refine .s (ixv (s.keep fd) hx1 u52 t28 z z z) z (.s (lde (hck1 _ s.agree) t28 z z z z z) z (.c (.alloc t28 s ?_)))
   intro g8 W s
   refine .c (.st t28 s z z z ?_)
   intro W s
   refine .nil (.rk 7 s [0,0,0,0,0,0] T.mix ?_)
   intro W s
   have t:=s.to [0,0,0,0,0,0]
   refine .ts' 0 z (λW t=>fa f54_0 z z z) t z (.ts' 1 z (λW t=>ld t52 t.p3 z z z z z) t z (.ts' 2 z (λW t=>ld t28 t z z z z z) t z (bv h λy7 hy7 h=>.by1 3 z (.call s func80 (qK hy7 (s.keep (q13 _ fd)) (s.keep (q14 _ fd))) z z ?_))))
   rintro ⟨v18,v19⟩ W s
   refine s.an [2,2,2,2,2,2] λt=>.by1 4 z (.lg (L1:=[ae (sv v18) 3 1 (D.int .i64) y7.Regs,ae (sv v19) 3 1 (D.int .i64) y7.Mem]) [(al.mk y7.Regs y7.Pc y7.Mem)] aV u52 t28 (s.to [0,0,0,0,0,0,0,0,0]) z z z (.agg (.row (.flat (c1:=[vi y7.Pc]) z (.row .nil)))) ?_ z (λ_=>z))
   intro v20 W s
   refine s.an [1,1,1,1,1,1] λt=>bv h λr1 hr1 h=>.by1 5 z (.appv hr1 (s.to [7,0,0,0,0,0,0,0]) u52 t28 z z z ?_)
   intro v21 W s
   refine s.an [1,1,1,1,1,1] λt=>.ts' 6 z (λW t=>fa f54_0 z z z) t z (.by1 7 z (.st t52 s.p4 z z z ?_))
   intro W s
   refine ⟨λh=>absurd z h,?_⟩
   refine .done (.region (.q z (.q z (.nil ?_))))
   cases h
   exact ⟨z,v21,sb z,s.to [3,3,0,2,2,0]⟩
  refine .exit ?_
  cases h
  exact ⟨by simp,z,v13,sb z,s.to [0,0,0,0,0,0]⟩
 intro x E W hJ
 obtain ⟨rfl,v22,hE,s⟩:=hJ
 refine ⟨_,hE.sub,?_⟩
 refine .g (.q z (.s (fa f54_0 z z z) z (.s (ld t52 s.p2 z z z z z) z (.s (a8 s.p5.lv u52 z z) z (.s (fa f54_2 z z z) z (.s (ld T.t3 s.p1 z z z z z) z (.s (fa f54_3 z z z) z (.s (ld T.t3 s.p1 z z z z z) z (.s (mf z z) z (bv h λy8 hy8 h=>?_))))))))))
 have s:=s.p2.p4.p4.p5
 refine .c (.cS (L0:=[ae (sv v22) 28 3 aV y4,ae (sv v10) 95 2 aR y2,ae (sv v11) 3 1 (D.int .i64) y3,.box g7 54 [sv v22,sv v10,vi 0,vi 0,sv v11]]) s func102 (λS h1 h2 h3=>(qk hy8 h2 (zz h1) (hG.at s (λ_ _ h=>h)) (hG.noS (λ_ _ h=>h) h1))) z z ?_)
 rintro ⟨v23,v24,v25⟩ W s
 refine .q z (.q z (.q z (.q z (.q z (.q z (.qn z (.seq (.g (.q z (.q z (.nil ?_)))))))))))
 refine .cs z h ?_ ?_ <;> intro h
 ·refine .g (.s (bs T.s54 z z) z (.c (.st t54 s.p4 z z z ?_)))
  intro W s
  refine .qn z (.ret ?_)
  have s:=s.nilv 28 3 aV
  have s:=s.nilv 95 2 aR
  have s:=s.nilv 3 1 (D.int .i64)
  cases h
  exact ac (vs:=[_,_]) (aA,aA,aA) (rc s.p3 t54 z (rt z rn) z z) z (s.to [2,1,0])
 refine .skip (.g (.q z (.q z (.s (fa f54_2 z z z) z (.c (.st T.t3 s z z z ?_))))))
 intro W s
 refine .s (fa f54_3 z z z) z (.c (.st T.t3 s z z z ?_))
 intro W s
 refine .nil (.g (.s (ld t54 s z z z z z) z (.c (.st t54 s.p4 z z z ?_))))
 intro W s
 cases h
 exact .qn z (.ret (ac (vs:=[_,_]) (v23,v24,v25) (rc s t54 z (rt z rn) z z) z (s.to [2,2,2])))
theorem uN {a0:List Int} {a1:List (List Instr)} {a2:Int} {v_0:Hd} {v_1:Hd} {w:World} {r:cg} (h:ll a0 a1 a2=some r) (q_0:RO w v_0 3 1 (D.int .i64) a0) (q_1:RO w v_1 66 1 (λ(l:List Instr)=>D.row 105 5 (l.map aJ)) a1) (hG:Gl w):CL 22 #[sv v_0,sv v_1,vi a2] w (Ret No w (λs:Hd×Hd×Hd=>.agg #[(sv s.1),(sv s.2.1),vi r.Turn,vi r.Idle,(sv s.2.2)]) (λs=>[ae (sv s.1) 28 3 aV r.Harts,ae (sv s.2.1) 95 2 aR r.Boxes,ae (sv s.2.2) 3 1 (D.int .i64) r.Out])):=by
 unfold ll at h
 refine au func22 z z ?_
 have s:=Sep.start w
 refine .g (.c (.alloc t54 s ?_))
 intro g1 W s
 refine .nil (.g (.q z (.q z (bv h λy1 hy1 h=>.c (.call s func52 (tZ hy1 (s.keep q_0) (s.keep q_1) (hG.at s (λ_ _ h=>h))) z z ?_)))))
 rintro ⟨v1,v2,v3⟩ W s
 refine .q z (.q z (.q z (.c (.alloc t54 s ?_))))
 intro g2 W s
 refine .c (.st t54 s z z z ?_)
 intro W s
 refine .qn z (.g (.s (ld t54 s z z z z z) z (.q z (bv h λy2 hy2 h=>.c (.call s func53 (t0 hy2 s.p1.lv s.p2.lv s.p3.lv (hG.at s (λ_ _ h=>h))) z z ?_)))))
 rintro ⟨v4,v5,v6⟩ W s
 refine .q z (.q z (.q z (.c (.alloc t54 s ?_))))
 intro g3 W s
 refine .c (.st t54 s z z z ?_)
 intro W s
 refine .qn z (.seq (.g (.q z (.q z (.q z (.cu 3 28 ((!y1.2)||(!y2.2)) s ?_ ?_))))))
 ·refine .both (!y1.2) (λb=>?_) (λb=>?_)
  ·exact .xx b z (.xx b z (.s (pkt b z z z) z (.nil (ck 3 s z (ff b)))))
  have hg1:=b
  exact .g hg1 (.q z (.g hg1 (.q z (.s (pkf hg1 z z z) z (.nil (ck 3 s z (fg hg1)))))))
 intro W s
 refine .nil ?_
 refine .cs z h ?_ ?_ <;> intro h
 ·refine .g (.s (bs T.s54 z z) z (.c (.st t54 s.p8 z z z ?_)))
  intro W s
  refine .nil (.ret ?_)
  have s:=s.nilv 28 3 aV
  have s:=s.nilv 95 2 aR
  have s:=s.nilv 3 1 (D.int .i64)
  cases h
  exact ac (aA,aA,aA) (rc s.p3 t54 z rn z z) z (s.to [2,1,0])
 refine .skip (.g (.s (ld t54 s z z z z z) z (.c (.st t54 s.p8 z z z ?_))))
 intro W s
 cases h
 exact .nil (.ret (ac (v4,v5,v6) (rc s t54 z rn z z) z (s.to [2,2,2])))
end
noncomputable section
def pH (w:World) (S:Nat->Prop) (ao:Hd) (h_0:Hd) (A_0:Type) (e_0:A_0->D) (l_0:List A_0) (k_0:Nat) (v_1:Hd) (v_2:Hd) (v_3:Hd) (g_3:Nat) (o_3_0:Value) (o_3_1:Value) (o_3_2:Value) (o_3_3:Value) (o_3_4:Value) (a0:bk) (a1:List ah) (a2:List Box) (a3:List Int) (r:Int×(List Int)×Int×(List Int)×(List Box)):Env->World->Prop:=Fin Tryz.prog Tryz.f108 S w (λs:Hd×Hd=>.int .i64 r.1) (λs=>[cf (sv h_0) 60 2 e_0 l_0 k_0 [(sv s.1),vi r.2.2.1],ae (sv v_2) 95 2 aR r.2.2.2.2,.box g_3 42 [o_3_0,o_3_1,o_3_2,o_3_3,o_3_4,(sv s.2)],ae (sv s.1) 3 1 (D.int .i64) r.2.1,ae (sv s.2) 3 1 (D.int .i64) r.2.2.2.1]) .ret
theorem du {a0:bk} {a1:List ah} {a2:List Box} {a3:List Int} {ao:Hd} {h_0:Hd} {A_0:Type} {e_0:A_0->D} {l_0:List A_0} {k_0:Nat} {v_1:Hd} {v_2:Hd} {v_3:Hd} {g_3:Nat} {o_3_0 o_3_1 o_3_2 o_3_3 o_3_4:Value} {S:Nat->Prop} {w:World} {r:Int×(List Int)×Int×(List Int)×(List Box)} (h:bu a0 a1 a2 a3=some r) (q_1:RV w (Old S w) (sv v_1) 102 5 aq a1) (hO:bQ w [ae (sv ao) 3 1 (D.int .i64) a0.Regs,cf (sv h_0) 60 2 e_0 l_0 k_0 [sv ao,vi a0.Pc],ae (sv v_2) 95 2 aR a2,ae (sv v_3) 3 1 (D.int .i64) a3,.box g_3 42 [o_3_0,o_3_1,o_3_2,o_3_3,o_3_4,sv v_3]] S) (hlt:∀ b,S b->b<w.heap.size):CL 108 #[.pointer (some (cP (adr (sv h_0)) (k_0*2+0))),sv v_1,sv v_2,.pointer (some ⟨g_3,5,none⟩)] w (Ret S w (λs:Hd×Hd=>.int .i64 r.1) (λs=>[cf (sv h_0) 60 2 e_0 l_0 k_0 [(sv s.1),vi r.2.2.1],ae (sv v_2) 95 2 aR r.2.2.2.2,.box g_3 42 [o_3_0,o_3_1,o_3_2,o_3_3,o_3_4,(sv s.2)],ae (sv s.1) 3 1 (D.int .i64) r.2.1,ae (sv s.2) 3 1 (D.int .i64) r.2.2.2.1])):=by
 unfold bu at h
 refine au func108 z z ?_
 have s:=Sep.sm hO hlt
 refine .g (.qn z (.g (.q z (.q z (.q z (.s (fe f60_1 z z z) z (.s (lde (s.p1.hcellsv) T.t3 z z z z z) z (bv h λx1 hx1 h=>.s (ixv (s.keep q_1) hx1 u78 t102 z z z) z (.s (lde (RV.flat (s.keep q_1) hx1 z) t102 z z z z z) z (.c (.alloc t102 s ?_)))))))))))
 intro g1 W s
 refine .c (.st t102 s z z z ?_)
 intro W s
 refine .nil (.g (.q z (.q z (.s (fe f60_1 z z z) z (.s (lde (s.p2.hcellsv) T.t3 z z z z z) z (.q z (.qn z (bv h λy1 hy1 h=>?_))))))))
 refine .seq (CW.via (R':=λx E' W'=>(match y1 with | .inl o1=>x=.normal/\∃ (v1:Hd),aD E' [(0,.pointer (some (cP (adr (sv h_0)) (k_0*2+0)))),(10,vi o1.1)]/\Sep S w W' [.box g1 102 [vi x1.Op,vi x1.Dst,vi x1.A,vi x1.B,vi x1.N],ae (sv ao) 3 1 (D.int .i64) o1.2.2.1,cf (sv h_0) 60 2 e_0 l_0 k_0 [sv ao,vi a0.Pc],ae (sv v_2) 95 2 aR o1.2.2.2,.box g_3 42 [o_3_0,o_3_1,o_3_2,o_3_3,o_3_4,sv v1],ae (sv v1) 3 1 (D.int .i64) o1.2.1] | .inr o2=>x=.ret/\pH w S ao h_0 A_0 e_0 l_0 k_0 v_1 v_2 v_3 g_3 o_3_0 o_3_1 o_3_2 o_3_3 o_3_4 a0 a1 a2 a3 o2 E' W')) ?_ ?_)
 ·have h:=hy1
  refine .g (.s (fa f102_0 z z z) z (.s (ld T.t3 s z z z z z) z (.nil (.block (.g (.q z (.q z (.nil ?_))))))))
  refine .cs z h ?_ ?_ <;> intro h
  ·refine .rk 9 s [0,0,0,0,0,0] T.mix ?_
   intro W s
   have t:=s.to [0,0,0,0,0,0]
   refine .tp' 0 z z t (.tp' 1 z z t (.ts' 2 z (λW t=>fe f60_0 z z z) t z (.ts' 3 z (λW t=>lde (t.p2.hcellsv) t23 z z z z z) t z (.ts' 4 z (λW t=>fa f102_1 z z z) t z (.ts' 5 z (λW t=>ld T.t3 t z z z z z) t z (.ts' 6 z (λW t=>fa f102_4 z z z) t z (.ts' 7 z (λW t=>ld T.t3 t z z z z z) t z (bv h λx2 hx2 h=>.ts' 8 z (λW t=>ixv s.p1.lv hx2 u23 T.t3 z z z) t z (bv h λr1 hr1 h=>.by1 9 z (.sev hr1 hx2 s.p1 T.t3 z z z z z z ?_))))))))))
   intro W s
   refine ⟨λh=>absurd z h,?_⟩
   refine .done ?_
   cases h
   exact ⟨z,v_3,sb z,s.to [1,0,0,0,1,0]⟩
  refine .g (.q z (.q z (.nil ?_)))
  refine .cs z h ?_ ?_ <;> intro h
  ·refine .rk 15 s [0,0,0,0,0,0] T.mix ?_
   intro W s
   have t:=s.to [0,0,0,0,0,0]
   refine .tp' 0 z z t (.tp' 1 z z t (.ts' 2 z (λW t=>fe f60_0 z z z) t z (.ts' 3 z (λW t=>lde (t.p2.hcellsv) t23 z z z z z) t z (.ts' 4 z (λW t=>fa f102_1 z z z) t z (.ts' 5 z (λW t=>ld T.t3 t z z z z z) t z (.tp' 6 z z t (.tp' 7 z z t (.ts' 8 z (λW t=>fe f60_0 z z z) t z (.ts' 9 z (λW t=>lde (t.p2.hcellsv) t23 z z z z z) t z (.ts' 10 z (λW t=>fa f102_2 z z z) t z (.ts' 11 z (λW t=>ld T.t3 t z z z z z) t z (bv h λx3 hx3 h=>.ts' 12 z (λW t=>ixv s.p1.lv hx3 u23 T.t3 z z z) t z (.ts' 13 z (λW t=>lde (RV.flat t.p1.lv hx3 z) T.t3 z z z z z) t z (bv h λx4 hx4 h=>.ts' 14 z (λW t=>ixv s.p1.lv hx4 u23 T.t3 z z z) t z (bv h λr2 hr2 h=>.by1 15 z (.sev hr2 hx4 s.p1 T.t3 z z z z z z ?_))))))))))))))))
   intro W s
   refine ⟨λh=>absurd z h,?_⟩
   refine .done ?_
   cases h
   exact ⟨z,v_3,sb z,s.to [1,0,0,0,1,0]⟩
  refine .g (.q z (.q z (.nil ?_)))
  refine .cs z h ?_ ?_ <;> intro h
  ·refine .rk 26 s [0,0,0,0,0,0] T.mix ?_
   intro W s
   have t:=s.to [0,0,0,0,0,0]
   refine .tp' 0 z z t (.tp' 1 z z t (.ts' 2 z (λW t=>fe f60_0 z z z) t z (.ts' 3 z (λW t=>lde (t.p2.hcellsv) t23 z z z z z) t z (.ts' 4 z (λW t=>fa f102_1 z z z) t z (.ts' 5 z (λW t=>ld T.t3 t z z z z z) t z (.ts' 6 z (λW t=>fa f102_4 z z z) t z (.ts' 7 z (λW t=>ld T.t3 t z z z z z) t z (.tp' 8 z z t (.tp' 9 z z t (.ts' 10 z (λW t=>fe f60_0 z z z) t z (.ts' 11 z (λW t=>lde (t.p2.hcellsv) t23 z z z z z) t z (.ts' 12 z (λW t=>fa f102_2 z z z) t z (.ts' 13 z (λW t=>ld T.t3 t z z z z z) t z (bv h λx5 hx5 h=>.ts' 14 z (λW t=>ixv s.p1.lv hx5 u23 T.t3 z z z) t z (.ts' 15 z (λW t=>lde (RV.flat t.p1.lv hx5 z) T.t3 z z z z z) t z (.tp' 16 z z t (.tp' 17 z z t (.ts' 18 z (λW t=>fe f60_0 z z z) t z (.ts' 19 z (λW t=>lde (t.p2.hcellsv) t23 z z z z z) t z (.ts' 20 z (λW t=>fa f102_3 z z z) t z (.ts' 21 z (λW t=>ld T.t3 t z z z z z) t z (bv h λx6 hx6 h=>.ts' 22 z (λW t=>ixv s.p1.lv hx6 u23 T.t3 z z z) t z (.ts' 23 z (λW t=>lde (RV.flat t.p1.lv hx6 z) T.t3 z z z z z) t z (bv h λy2 hy2 h=>.by1 24 z (.cO s func128 (q8 hy2) z z ?_)))))))))))))))))))))))))
   intro W s
   refine s.an [0,0,0,0,0,0] λt=>bv h λx7 hx7 h=>.ts' 25 z (λW t=>ixv s.p1.lv hx7 u23 T.t3 z z z) t z (bv h λr3 hr3 h=>.by1 26 z (.sev hr3 hx7 s.p1 T.t3 z z z z z z ?_))
   intro W s
   refine ⟨λh=>absurd z h,?_⟩
   refine .done ?_
   cases h
   exact ⟨z,v_3,sb z,s.to [1,0,0,0,1,0]⟩
  refine .g (.q z (.q z (.nil ?_)))
  refine .cs z h ?_ ?_ <;> intro h
  ·refine .region (.s (fa f102_4 z z z) z (.s (ld T.t3 s z z z z z) z (.q z (.nil ?_))))
   cases h
   exact ⟨z,v_3,sb z,s.to [0,0,0,0,1,0]⟩
  refine .g (.q z (.q z (.nil ?_)))
  refine .cs z h ?_ ?_ <;> intro h
  ·refine .seq (.rk 9 s [0,0,0,0,0,0] T.mix ?_)
   intro W s
   have t:=s.to [0,0,0,0,0,0]
   refine .tp' 0 z z t (.tp' 1 z z t (.ts' 2 z (λW t=>fe f60_0 z z z) t z (.ts' 3 z (λW t=>lde (t.p2.hcellsv) t23 z z z z z) t z (.ts' 4 z (λW t=>fa f102_2 z z z) t z (.ts' 5 z (λW t=>ld T.t3 t z z z z z) t z (bv h λx8 hx8 h=>.ts' 6 z (λW t=>ixv s.p1.lv hx8 u23 T.t3 z z z) t z (.ts' 7 z (λW t=>lde (RV.flat t.p1.lv hx8 z) T.t3 z z z z z) t z (.tp' 8 z z t (.done ?_)))))))))
   refine .cs z h ?_ ?_ <;> intro h
   ·refine .region (.s (fa f102_4 z z z) z (.s (ld T.t3 s z z z z z) z (.q z (.nil ?_))))
    cases h
    exact ⟨z,v_3,sb z,s.to [0,0,0,0,1,0]⟩
   refine .skip ?_
   cases h
   exact ⟨z,v_3,sb z,s.to [0,0,0,0,1,0]⟩
  refine .g (.q z (.qn z (.cond z (λb=>?_) (λb=>?_))))
  ·have h:=aK b h
   refine .seq (.rk 14 s [0,0,0,1,1] T.mix ?_)
   intro W s
   have t:=s.to [0,0,0,1,1]
   refine .tp' 0 z z t (.ts' 1 z (λW t=>fa f102_4 z z z) t z (.ts' 2 z (λW t=>ld T.t3 t z z z z z) t z (bv h λx9 hx9 h=>.ts' 3 z (λW t=>ixv s.p3.lv hx9 u40 t95 z z z) t z (.tp' 4 z z t (.tp' 5 z z t (.ts' 6 z (λW t=>fe f60_0 z z z) t z (.ts' 7 z (λW t=>lde (t.p2.hcellsv) t23 z z z z z) t z (.ts' 8 z (λW t=>fa f102_2 z z z) t z (.ts' 9 z (λW t=>ld T.t3 t z z z z z) t z (bv h λx10 hx10 h=>.ts' 10 z (λW t=>ixv s.p1.lv hx10 u23 T.t3 z z z) t z (.ts' 11 z (λW t=>lde (RV.flat t.p1.lv hx10 z) T.t3 z z z z z) t z ?_)))))))))))
   obtain ⟨k1,s⟩:=Sep.ov s.p3 hx9
   have s:=s.oa
   obtain ⟨k1,rfl,s⟩:=Sep.oF z s
   obtain ⟨v2,k1,rfl,s⟩:=s.ow
   obtain ⟨rfl,s⟩:=s.oN
   refine bv h λy3 hy3 h=>?_
   have s:=s.p1.p1
   refine .by1 12 z (.cS (L0:=[ae (sv v2) 3 1 (D.int .i64) x9.Items,cf (sv v_2) 95 2 aR a2 (Int.toNat x1.N) [vi x9.Room,sv v2]]) s func154 (λS h1 h2 h3=>(nI hy3 h2 (zz h1))) z z ?_)
   rintro v3 W s
   refine s.an [2,2,2,2,2] λt=>.tp' 13 z z t (.done ?_)
   refine .cs z h ?_ ?_ <;> intro h
   ·refine .g (.qn z (.ret ?_))
    have s:=Sep.gat (ds:=[aR (Box.mk x9.Room y3.2)]) (cs:=[vi x9.Room,sv v3]) (L1:=[ae (sv v3) 3 1 (D.int .i64) y3.2]) (.agg (.flat (c1:=[vi x9.Room]) z (.row .nil))) (s.to [1,0,0,0,0,0,0])
    have s:Sep _ _ _ [ae (sv v_2) 95 2 aR (a2.set (Int.toNat x1.N) (Box.mk x9.Room y3.2)),.box g1 102 [vi x1.Op,vi x1.Dst,vi x1.A,vi x1.B,vi x1.N],ae (sv ao) 3 1 (D.int .i64) a0.Regs,cf (sv h_0) 60 2 e_0 l_0 k_0 [sv ao,vi a0.Pc],ae (sv v_3) 3 1 (D.int .i64) a3,.box g_3 42 [o_3_0,o_3_1,o_3_2,o_3_3,o_3_4,sv v_3]]:=s.bv
    cases h
    exact ⟨z,ac (vs:=[_]) (ao,v_3) (rt z rn) z (s.to [3,0,3,1,1])⟩
   refine .skip ?_
   have s:=Sep.gat (ds:=[aR (Box.mk x9.Room y3.2)]) (cs:=[vi x9.Room,sv v3]) (L1:=[ae (sv v3) 3 1 (D.int .i64) y3.2]) (.agg (.flat (c1:=[vi x9.Room]) z (.row .nil))) (s.to [1,0,0,0,0,0,0])
   have s:Sep _ _ _ [ae (sv v_2) 95 2 aR (a2.set (Int.toNat x1.N) (Box.mk x9.Room y3.2)),.box g1 102 [vi x1.Op,vi x1.Dst,vi x1.A,vi x1.B,vi x1.N],ae (sv ao) 3 1 (D.int .i64) a0.Regs,cf (sv h_0) 60 2 e_0 l_0 k_0 [sv ao,vi a0.Pc],ae (sv v_3) 3 1 (D.int .i64) a3,.box g_3 42 [o_3_0,o_3_1,o_3_2,o_3_3,o_3_4,sv v_3]]:=s.bv
   cases h
   exact ⟨z,v_3,sb z,s.to [1,1,1,0,1,0]⟩
  have h:=aL b h
  refine .g (.q z (.qn z (.cond z (λb=>?_) (λb=>?_))))
  ·have h:=aK b h
   refine .g (.q z (.s (fa f102_4 z z z) z (.s (ld T.t3 s z z z z z) z (bv h λx11 hx11 h=>.s (ixv s.p3.lv hx11 u40 t95 z z z) z ?_))))
   obtain ⟨k2,s⟩:=Sep.ov s.p3 hx11
   have s:=s.oa
   obtain ⟨k2,rfl,s⟩:=Sep.oF z s
   obtain ⟨v4,k2,rfl,s⟩:=s.ow
   obtain ⟨rfl,s⟩:=s.oN
   refine bv h λy4 hy4 h=>?_
   have s:=s.p1.p1
   refine .c (.cS (L0:=[ae (sv v4) 3 1 (D.int .i64) x11.Items,cf (sv v_2) 95 2 aR a2 (Int.toNat x1.N) [vi x11.Room,sv v4]]) s func155 (λS h1 h2 h3=>(mW hy4 h2 (zz h1))) z z ?_)
   rintro v5 W s
   refine .q z (.q z (.q z (.q z (.qn z (.seq (.g (.q z (.q z (.nil ?_)))))))))
   refine .cs z h ?_ ?_ <;> intro h
   ·refine .g (.qn z (.ret ?_))
    have s:=Sep.gat (ds:=[aR (Box.mk x11.Room y4.2.2)]) (cs:=[vi x11.Room,sv v5]) (L1:=[ae (sv v5) 3 1 (D.int .i64) y4.2.2]) (.agg (.flat (c1:=[vi x11.Room]) z (.row .nil))) (s.to [1,0,0,0,0,0,0])
    have s:Sep _ _ _ [ae (sv v_2) 95 2 aR (a2.set (Int.toNat x1.N) (Box.mk x11.Room y4.2.2)),.box g1 102 [vi x1.Op,vi x1.Dst,vi x1.A,vi x1.B,vi x1.N],ae (sv ao) 3 1 (D.int .i64) a0.Regs,cf (sv h_0) 60 2 e_0 l_0 k_0 [sv ao,vi a0.Pc],ae (sv v_3) 3 1 (D.int .i64) a3,.box g_3 42 [o_3_0,o_3_1,o_3_2,o_3_3,o_3_4,sv v_3]]:=s.bv
    cases h
    exact ⟨z,ac (vs:=[_]) (ao,v_3) (rt z rn) z (s.to [3,0,3,1,1])⟩
   refine .skip (.rk 8 s [0,0,0,0,0,0,0] T.mix ?_)
   intro W s
   have t:=s.to [0,0,0,0,0,0,0]
   refine .tp' 0 z z t (.tp' 1 z z t (.ts' 2 z (λW t=>fe f60_0 z z z) t z (.ts' 3 z (λW t=>lde (t.p4.hcellsv) t23 z z z z z) t z (.ts' 4 z (λW t=>fa f102_1 z z z) t z (.ts' 5 z (λW t=>ld T.t3 t.p2 z z z z z) t z (.tp' 6 z z t (bv h λx12 hx12 h=>.ts' 7 z (λW t=>ixv s.p3.lv hx12 u23 T.t3 z z z) t z (bv h λr4 hr4 h=>.by1 8 z (.sev hr4 hx12 s.p3 T.t3 z z z z z z ?_)))))))))
   intro W s
   refine ⟨λh=>absurd z h,?_⟩
   refine .done ?_
   have s:=Sep.gat (ds:=[aR (Box.mk x11.Room y4.2.2)]) (cs:=[vi x11.Room,sv v5]) (L1:=[ae (sv v5) 3 1 (D.int .i64) y4.2.2]) (.agg (.flat (c1:=[vi x11.Room]) z (.row .nil))) (s.to [2,1,0,0,0,0,0])
   have s:Sep _ _ _ [ae (sv v_2) 95 2 aR (a2.set (Int.toNat x1.N) (Box.mk x11.Room y4.2.2)),ae (sv ao) 3 1 (D.int .i64) r4,.box g1 102 [vi x1.Op,vi x1.Dst,vi x1.A,vi x1.B,vi x1.N],cf (sv h_0) 60 2 e_0 l_0 k_0 [sv ao,vi a0.Pc],ae (sv v_3) 3 1 (D.int .i64) a3,.box g_3 42 [o_3_0,o_3_1,o_3_2,o_3_3,o_3_4,sv v_3]]:=s.bv
   cases h
   exact ⟨z,v_3,sb z,s.to [2,1,1,0,1,0]⟩
  have h:=aL b h
  refine .g (.q z (.q z (.nil ?_)))
  refine .cs z h ?_ ?_ <;> intro h
  ·refine .g (.q z (.q z (.q z (.s (fe f60_1 z z z) z (.c (.sthv s.p2 T.t3 z z z ?_))))))
   intro W s
   refine .nil (.g (.qn z (.ret ?_)))
   cases h
   exact ⟨z,ac (vs:=[_]) (ao,v_3) (rt z rn) z (s.to [0,2,3,1,1])⟩
  refine .g (.q z (.q z (.nil ?_)))
  refine .cs z h ?_ ?_ <;> intro h
  ·refine .rk 15 s [0,0,0,0,1] T.mix ?_
   intro W s
   have t:=s.to [0,0,0,0,1]
   refine .tp' 0 z z t (.tp' 1 z z t (.tp' 2 z z t (.ts' 3 z (λW t=>ld t23 t.p4 z z z z z) t z (.tp' 4 z z t (.tp' 5 z z t (.ts' 6 z (λW t=>fe f60_0 z z z) t z (.ts' 7 z (λW t=>lde (t.p2.hcellsv) t23 z z z z z) t z (.ts' 8 z (λW t=>fa f102_2 z z z) t z (.ts' 9 z (λW t=>ld T.t3 t z z z z z) t z (bv h λx13 hx13 h=>.ts' 10 z (λW t=>ixv s.p1.lv hx13 u23 T.t3 z z z) t z (.ts' 11 z (λW t=>lde (RV.flat t.p1.lv hx13 z) T.t3 z z z z z) t z (.by1 12 z (.liv [x13] (D.int .i64) u23 T.t3 s z z z z ?_ z (λ_=>z))))))))))))))
   intro v6 W s
   refine s.an [1,1,1,1,2] λt=>bv h λr5 hr5 h=>?_
   have hT0:=s.p5
   refine .by1 13 z (.av hr5 hT0 hT0.p1.lv (λ_=>z) u23 T.t3 z z z ?_)
   intro v7 W s
   refine s.an [2,2,2,2,2] λt=>.tp' 14 z z t (.by1 15 z (.st t23 s.p6 z z z ?_))
   intro W s
   refine ⟨λh=>absurd z h,?_⟩
   refine .done ?_
   cases h
   exact ⟨z,v7,sb z,s.to [3,3,3,3,0,0]⟩
  refine .g (.q z (.q z (.nil ?_)))
  refine .cs z h ?_ ?_ <;> intro h
  ·refine .g (.qn z (.ret ?_))
   cases h
   exact ⟨z,ac (vs:=[_]) (ao,v_3) (rt z rn) z (s.to [2,2,3,1,1])⟩
  refine .skip ?_
  cases h
  exact ⟨z,v_3,sb z,s.to [0,0,0,0,1,0]⟩
 intro x E W hJ
 rcases y1 with o3 | o4
 ·obtain ⟨rfl,v8,hE,s⟩:=hJ
  refine ⟨_,hE.sub,?_⟩
  refine .g (.q z (.q z (.q z (.s (fe f60_1 z z z) z (.c (.sthv s.p2 T.t3 z z z ?_))))))
  intro W s
  cases h
  exact .nil (.g (.qn z (.ret (ac (ao,v8) (rt z rn) z (s.to [0,2,2,1,1])))))
 obtain ⟨rfl,hF⟩:=hJ
 refine ⟨_,λ_ _ h=>h,?_⟩
 cases h
 exact hF
theorem sF {a0:Int} {a1:cI} {bV:Hd} {aM:Hd} {aI:Hd} {cq:Hd} {g_1:Nat} {S:Nat->Prop} {w:World} {r:Int×(List bk)×(List Box)×(List Int)} (h:i7 a0 a1=some r) (bC:RV w (Old S w) (sv bV) 78 1 (λ(l:List ah)=>D.row 102 5 (l.map aq)) a1.Codes) (hO:bQ w [ae (sv aM) 60 2 ay a1.Threads,ae (sv aI) 95 2 aR a1.Boxes,ae (sv cq) 3 1 (D.int .i64) a1.Out,.box g_1 42 [sv bV,sv aM,sv aI,vi a1.Turn,vi a1.Idle,sv cq]] S) (hlt:∀ b,S b->b<w.heap.size):CL 107 #[vi a0,Pt g_1] w (Ret S w (λs:Hd×Hd×Hd=>.int .i64 r.1) (λs=>[.box g_1 42 [sv bV,(sv s.1),(sv s.2.1),vi a1.Turn,vi a1.Idle,(sv s.2.2)],ae (sv s.1) 60 2 ay r.2.1,ae (sv s.2.1) 95 2 aR r.2.2.1,ae (sv s.2.2) 3 1 (D.int .i64) r.2.2.2])):=by
 unfold i7 at h
 refine au func107 z z ?_
 have s:=Sep.sm hO hlt
 refine .g (.qn z (.seq (bv h λx1 hx1 h=>bv h λx2 hx2 h=>bv h λy1 hy1 h=>?_)))
 refine .via (R':=λx E' W'=>x=.normal/\∃ (v1:Hd),aD E' [(3,vi y1.1)]/\Sep S w W' [ae (sv aM) 60 2 ay (a1.Threads.set (Int.toNat a0) (bk.mk y1.2.1 y1.2.2.1)),ae (sv aI) 95 2 aR y1.2.2.2.2,.box g_1 42 [sv bV,sv aM,sv aI,vi a1.Turn,vi a1.Idle,sv v1],ae (sv v1) 3 1 (D.int .i64) y1.2.2.2.1]) ?_ ?_
 ·refine .rk 14 s [] T.mix ?_
  intro W s
  have t:=s.to []
  refine .ts' 0 z (λW t=>fa f42_1 z z z) t z (.tp' 2 z z t (.ts' 4 z (λW t=>fa f42_0 z z z) t z (.tp' 6 z z t (.ts' 9 z (λW t=>fa f42_2 z z z) t z (.ts' 11 z (λW t=>fa f42_5 z z z) t z (.by [1,5,10] ⟨⟨_,z,?_⟩,⟨_,z,?_⟩,⟨_,z,?_⟩,trivial⟩))))))
  ·refine (.runs (ld t39 s.p3 z z z z z) z z ?_)
   refine s.an [] λt=>.ts' 3 z (λW t=>ixv s.lv hx1 u39 t60 z z z) t z (.by [5,10] ⟨⟨_,z,?_⟩,⟨_,z,?_⟩,trivial⟩)
   ·refine (.runs (ld t36 s.p3 z z z z z) z z ?_)
    refine s.an [] λt=>?_
    obtain ⟨k1,hd,hck1⟩:=RV.el2 bC hx2
    obtain ⟨v2,k1,rfl,q2,hd1⟩:=c9 bC hd
    obtain rfl:=iq bC hd1
    refine .ts' 7 z (λW t=>ixv (s.keep bC) hx2 u36 t78 z z z) t z (.ts' 8 z (λW t=>lde (hck1 _ t.agree) t78 z z z z z) t z (.by1 10 z (.runs (ld t40 s.p3 z z z z z) z z ?_)))
    refine s.an [] λt=>?_
    obtain ⟨k2,s⟩:=Sep.ov s hx1
    have s:=s.oa
    obtain ⟨v3,k2,rfl,s⟩:=s.ow
    obtain ⟨k2,rfl,s⟩:=Sep.oF z s
    obtain ⟨rfl,s⟩:=s.oN
    have s:=s.p4.p4.p4.p4.p4
    refine .by1 12 z (.cS (L0:=[ae (sv v3) 3 1 (D.int .i64) x1.Regs,cf (sv aM) 60 2 ay a1.Threads (Int.toNat a0) [sv v3,vi x1.Pc],ae (sv aI) 95 2 aR a1.Boxes,ae (sv cq) 3 1 (D.int .i64) a1.Out,.box g_1 42 [sv bV,sv aM,sv aI,vi a1.Turn,vi a1.Idle,sv cq]]) s func108 (λS h1 h2 h3=>(du hy1 (s.ks (q2 _ bC) h1) h2 (zz h1))) z z ?_)
    rintro ⟨v4,v5⟩ W s
    refine s.an [] λt=>.tp' 13 z z t (.done ?_)
    have s:=Sep.gat (ds:=[ay (bk.mk y1.2.1 y1.2.2.1)]) (cs:=[sv v4,vi y1.2.2.1]) (L1:=[ae (sv v4) 3 1 (D.int .i64) y1.2.1]) (.agg (.row (.flat (c1:=[vi y1.2.2.1]) z .nil))) (s.to [3,0,0,0,0])
    have s:Sep _ _ _ [ae (sv aM) 60 2 ay (a1.Threads.set (Int.toNat a0) (bk.mk y1.2.1 y1.2.2.1)),ae (sv aI) 95 2 aR y1.2.2.2.2,.box g_1 42 [sv bV,sv aM,sv aI,vi a1.Turn,vi a1.Idle,sv v5],ae (sv v5) 3 1 (D.int .i64) y1.2.2.2.1]:=s.bv
    exact ⟨z,v5,sb z,s.to [0,0,0,0]⟩
   refine (.runs (ld t40 s.p3 z z z z z) z z ?_)
   refine s.an [] λt=>.by1 5 z (.runs (ld t36 s.p3 z z z z z) z z ?_)
   refine s.an [] λt=>?_
   obtain ⟨k3,hd,hck3⟩:=RV.el2 bC hx2
   obtain ⟨v6,k3,rfl,q3,hd1⟩:=c9 bC hd
   obtain rfl:=iq bC hd1
   refine .ts' 7 z (λW t=>ixv (s.keep bC) hx2 u36 t78 z z z) t z (.ts' 8 z (λW t=>lde (hck3 _ t.agree) t78 z z z z z) t z ?_)
   obtain ⟨k4,s⟩:=Sep.ov s hx1
   have s:=s.oa
   obtain ⟨v7,k4,rfl,s⟩:=s.ow
   obtain ⟨k4,rfl,s⟩:=Sep.oF z s
   obtain ⟨rfl,s⟩:=s.oN
   have s:=s.p4.p4.p4.p4.p4
   refine .by1 12 z (.cS (L0:=[ae (sv v7) 3 1 (D.int .i64) x1.Regs,cf (sv aM) 60 2 ay a1.Threads (Int.toNat a0) [sv v7,vi x1.Pc],ae (sv aI) 95 2 aR a1.Boxes,ae (sv cq) 3 1 (D.int .i64) a1.Out,.box g_1 42 [sv bV,sv aM,sv aI,vi a1.Turn,vi a1.Idle,sv cq]]) s func108 (λS h1 h2 h3=>(du hy1 (s.ks (q3 _ bC) h1) h2 (zz h1))) z z ?_)
   rintro ⟨v8,v9⟩ W s
   refine s.an [] λt=>.tp' 13 z z t (.done ?_)
   have s:=Sep.gat (ds:=[ay (bk.mk y1.2.1 y1.2.2.1)]) (cs:=[sv v8,vi y1.2.2.1]) (L1:=[ae (sv v8) 3 1 (D.int .i64) y1.2.1]) (.agg (.row (.flat (c1:=[vi y1.2.2.1]) z .nil))) (s.to [3,0,0,0,0])
   have s:Sep _ _ _ [ae (sv aM) 60 2 ay (a1.Threads.set (Int.toNat a0) (bk.mk y1.2.1 y1.2.2.1)),ae (sv aI) 95 2 aR y1.2.2.2.2,.box g_1 42 [sv bV,sv aM,sv aI,vi a1.Turn,vi a1.Idle,sv v9],ae (sv v9) 3 1 (D.int .i64) y1.2.2.2.1]:=s.bv
   exact ⟨z,v9,sb z,s.to [0,0,0,0]⟩
  ·refine (.runs (ld t36 s.p3 z z z z z) z z ?_)
   refine s.an [] λt=>?_
   obtain ⟨k5,hd,hck5⟩:=RV.el2 bC hx2
   obtain ⟨v10,k5,rfl,q4,hd1⟩:=c9 bC hd
   obtain rfl:=iq bC hd1
   refine .ts' 7 z (λW t=>ixv (s.keep bC) hx2 u36 t78 z z z) t z (.ts' 8 z (λW t=>lde (hck5 _ t.agree) t78 z z z z z) t z (.by [1,10] ⟨⟨_,z,?_⟩,⟨_,z,?_⟩,trivial⟩))
   ·refine (.runs (ld t39 s.p3 z z z z z) z z ?_)
    refine s.an [] λt=>.ts' 3 z (λW t=>ixv s.lv hx1 u39 t60 z z z) t z (.by1 10 z (.runs (ld t40 s.p3 z z z z z) z z ?_))
    refine s.an [] λt=>?_
    obtain ⟨k6,s⟩:=Sep.ov s hx1
    have s:=s.oa
    obtain ⟨v11,k6,rfl,s⟩:=s.ow
    obtain ⟨k6,rfl,s⟩:=Sep.oF z s
    obtain ⟨rfl,s⟩:=s.oN
    have s:=s.p4.p4.p4.p4.p4
    refine .by1 12 z (.cS (L0:=[ae (sv v11) 3 1 (D.int .i64) x1.Regs,cf (sv aM) 60 2 ay a1.Threads (Int.toNat a0) [sv v11,vi x1.Pc],ae (sv aI) 95 2 aR a1.Boxes,ae (sv cq) 3 1 (D.int .i64) a1.Out,.box g_1 42 [sv bV,sv aM,sv aI,vi a1.Turn,vi a1.Idle,sv cq]]) s func108 (λS h1 h2 h3=>(du hy1 (s.ks (q4 _ bC) h1) h2 (zz h1))) z z ?_)
    rintro ⟨v12,v13⟩ W s
    refine s.an [] λt=>.tp' 13 z z t (.done ?_)
    have s:=Sep.gat (ds:=[ay (bk.mk y1.2.1 y1.2.2.1)]) (cs:=[sv v12,vi y1.2.2.1]) (L1:=[ae (sv v12) 3 1 (D.int .i64) y1.2.1]) (.agg (.row (.flat (c1:=[vi y1.2.2.1]) z .nil))) (s.to [3,0,0,0,0])
    have s:Sep _ _ _ [ae (sv aM) 60 2 ay (a1.Threads.set (Int.toNat a0) (bk.mk y1.2.1 y1.2.2.1)),ae (sv aI) 95 2 aR y1.2.2.2.2,.box g_1 42 [sv bV,sv aM,sv aI,vi a1.Turn,vi a1.Idle,sv v13],ae (sv v13) 3 1 (D.int .i64) y1.2.2.2.1]:=s.bv
    exact ⟨z,v13,sb z,s.to [0,0,0,0]⟩
   refine (.runs (ld t40 s.p3 z z z z z) z z ?_)
   refine s.an [] λt=>.by1 1 z (.runs (ld t39 s.p3 z z z z z) z z ?_)
   refine s.an [] λt=>.ts' 3 z (λW t=>ixv s.lv hx1 u39 t60 z z z) t z ?_
   obtain ⟨k7,s⟩:=Sep.ov s hx1
   have s:=s.oa
   obtain ⟨v14,k7,rfl,s⟩:=s.ow
   obtain ⟨k7,rfl,s⟩:=Sep.oF z s
   obtain ⟨rfl,s⟩:=s.oN
   have s:=s.p4.p4.p4.p4.p4
   refine .by1 12 z (.cS (L0:=[ae (sv v14) 3 1 (D.int .i64) x1.Regs,cf (sv aM) 60 2 ay a1.Threads (Int.toNat a0) [sv v14,vi x1.Pc],ae (sv aI) 95 2 aR a1.Boxes,ae (sv cq) 3 1 (D.int .i64) a1.Out,.box g_1 42 [sv bV,sv aM,sv aI,vi a1.Turn,vi a1.Idle,sv cq]]) s func108 (λS h1 h2 h3=>(du hy1 (s.ks (q4 _ bC) h1) h2 (zz h1))) z z ?_)
   rintro ⟨v15,v16⟩ W s
   refine s.an [] λt=>.tp' 13 z z t (.done ?_)
   have s:=Sep.gat (ds:=[ay (bk.mk y1.2.1 y1.2.2.1)]) (cs:=[sv v15,vi y1.2.2.1]) (L1:=[ae (sv v15) 3 1 (D.int .i64) y1.2.1]) (.agg (.row (.flat (c1:=[vi y1.2.2.1]) z .nil))) (s.to [3,0,0,0,0])
   have s:Sep _ _ _ [ae (sv aM) 60 2 ay (a1.Threads.set (Int.toNat a0) (bk.mk y1.2.1 y1.2.2.1)),ae (sv aI) 95 2 aR y1.2.2.2.2,.box g_1 42 [sv bV,sv aM,sv aI,vi a1.Turn,vi a1.Idle,sv v16],ae (sv v16) 3 1 (D.int .i64) y1.2.2.2.1]:=s.bv
   exact ⟨z,v16,sb z,s.to [0,0,0,0]⟩
  refine (.runs (ld t40 s.p3 z z z z z) z z ?_)
  refine s.an [] λt=>.by [1,5] ⟨⟨_,z,?_⟩,⟨_,z,?_⟩,trivial⟩
  ·refine (.runs (ld t39 s.p3 z z z z z) z z ?_)
   refine s.an [] λt=>.ts' 3 z (λW t=>ixv s.lv hx1 u39 t60 z z z) t z (.by1 5 z (.runs (ld t36 s.p3 z z z z z) z z ?_))
   refine s.an [] λt=>?_
   obtain ⟨k8,hd,hck8⟩:=RV.el2 bC hx2
   obtain ⟨v17,k8,rfl,q5,hd1⟩:=c9 bC hd
   obtain rfl:=iq bC hd1
   refine .ts' 7 z (λW t=>ixv (s.keep bC) hx2 u36 t78 z z z) t z (.ts' 8 z (λW t=>lde (hck8 _ t.agree) t78 z z z z z) t z ?_)
   obtain ⟨k9,s⟩:=Sep.ov s hx1
   have s:=s.oa
   obtain ⟨v18,k9,rfl,s⟩:=s.ow
   obtain ⟨k9,rfl,s⟩:=Sep.oF z s
   obtain ⟨rfl,s⟩:=s.oN
   have s:=s.p4.p4.p4.p4.p4
   refine .by1 12 z (.cS (L0:=[ae (sv v18) 3 1 (D.int .i64) x1.Regs,cf (sv aM) 60 2 ay a1.Threads (Int.toNat a0) [sv v18,vi x1.Pc],ae (sv aI) 95 2 aR a1.Boxes,ae (sv cq) 3 1 (D.int .i64) a1.Out,.box g_1 42 [sv bV,sv aM,sv aI,vi a1.Turn,vi a1.Idle,sv cq]]) s func108 (λS h1 h2 h3=>(du hy1 (s.ks (q5 _ bC) h1) h2 (zz h1))) z z ?_)
   rintro ⟨v19,v20⟩ W s
   refine s.an [] λt=>.tp' 13 z z t (.done ?_)
   have s:=Sep.gat (ds:=[ay (bk.mk y1.2.1 y1.2.2.1)]) (cs:=[sv v19,vi y1.2.2.1]) (L1:=[ae (sv v19) 3 1 (D.int .i64) y1.2.1]) (.agg (.row (.flat (c1:=[vi y1.2.2.1]) z .nil))) (s.to [3,0,0,0,0])
   have s:Sep _ _ _ [ae (sv aM) 60 2 ay (a1.Threads.set (Int.toNat a0) (bk.mk y1.2.1 y1.2.2.1)),ae (sv aI) 95 2 aR y1.2.2.2.2,.box g_1 42 [sv bV,sv aM,sv aI,vi a1.Turn,vi a1.Idle,sv v20],ae (sv v20) 3 1 (D.int .i64) y1.2.2.2.1]:=s.bv
   exact ⟨z,v20,sb z,s.to [0,0,0,0]⟩
  refine (.runs (ld t36 s.p3 z z z z z) z z ?_)
  refine s.an [] λt=>?_
  obtain ⟨k10,hd,hck10⟩:=RV.el2 bC hx2
  obtain ⟨v21,k10,rfl,q6,hd1⟩:=c9 bC hd
  obtain rfl:=iq bC hd1
  refine .ts' 7 z (λW t=>ixv (s.keep bC) hx2 u36 t78 z z z) t z (.ts' 8 z (λW t=>lde (hck10 _ t.agree) t78 z z z z z) t z (.by1 1 z (.runs (ld t39 s.p3 z z z z z) z z ?_)))
  refine s.an [] λt=>.ts' 3 z (λW t=>ixv s.lv hx1 u39 t60 z z z) t z ?_
  obtain ⟨k11,s⟩:=Sep.ov s hx1
  have s:=s.oa
  obtain ⟨v22,k11,rfl,s⟩:=s.ow
  obtain ⟨k11,rfl,s⟩:=Sep.oF z s
  obtain ⟨rfl,s⟩:=s.oN
  have s:=s.p4.p4.p4.p4.p4
  refine .by1 12 z (.cS (L0:=[ae (sv v22) 3 1 (D.int .i64) x1.Regs,cf (sv aM) 60 2 ay a1.Threads (Int.toNat a0) [sv v22,vi x1.Pc],ae (sv aI) 95 2 aR a1.Boxes,ae (sv cq) 3 1 (D.int .i64) a1.Out,.box g_1 42 [sv bV,sv aM,sv aI,vi a1.Turn,vi a1.Idle,sv cq]]) s func108 (λS h1 h2 h3=>(du hy1 (s.ks (q6 _ bC) h1) h2 (zz h1))) z z ?_)
  rintro ⟨v23,v24⟩ W s
  refine s.an [] λt=>.tp' 13 z z t (.done ?_)
  have s:=Sep.gat (ds:=[ay (bk.mk y1.2.1 y1.2.2.1)]) (cs:=[sv v23,vi y1.2.2.1]) (L1:=[ae (sv v23) 3 1 (D.int .i64) y1.2.1]) (.agg (.row (.flat (c1:=[vi y1.2.2.1]) z .nil))) (s.to [3,0,0,0,0])
  have s:Sep _ _ _ [ae (sv aM) 60 2 ay (a1.Threads.set (Int.toNat a0) (bk.mk y1.2.1 y1.2.2.1)),ae (sv aI) 95 2 aR y1.2.2.2.2,.box g_1 42 [sv bV,sv aM,sv aI,vi a1.Turn,vi a1.Idle,sv v24],ae (sv v24) 3 1 (D.int .i64) y1.2.2.2.1]:=s.bv
  exact ⟨z,v24,sb z,s.to [0,0,0,0]⟩
 intro x E W hJ
 obtain ⟨rfl,v25,hE,s⟩:=hJ
 refine ⟨_,hE.sub,?_⟩
 cases h
 exact .ret (ac (aM,aI,v25) (rt z rn) z (s.to [2,0,0,0]))
def qR (w:World) (S:Nat->Prop) (jC:Hd) (mK:Hd) (gL:Hd) (lF:Hd) (g_4:Nat) (a0:Int) (a1:Int) (a2:Int) (a3:Int) (a4:cI) (r:Int×Int×Bool×(List bk)×(List Box)×(List Int)):Env->World->Prop:=Fin Tryz.prog Tryz.f102 S w (λs:Hd×Hd×Hd=>.tuple #[vi r.1,vi r.2.1,.bool r.2.2.1]) (λs=>[.box g_4 42 [sv jC,(sv s.1),(sv s.2.1),vi a4.Turn,vi a4.Idle,(sv s.2.2)],ae (sv s.1) 60 2 ay r.2.2.2.1,ae (sv s.2.1) 95 2 aR r.2.2.2.2.1,ae (sv s.2.2) 3 1 (D.int .i64) r.2.2.2.2.2]) .ret
theorem ql {a0:Int} {a1:Int} {a2:Int} {a3:Int} {a4:cI} {jC:Hd} {mK:Hd} {gL:Hd} {lF:Hd} {g_4:Nat} {S:Nat->Prop} {w:World} {r:Int×Int×Bool×(List bk)×(List Box)×(List Int)} (h:iA a0 a1 a2 a3 a4=some r) (Az:RV w (Old S w) (sv jC) 78 1 (λ(l:List ah)=>D.row 102 5 (l.map aq)) a4.Codes) (hO:bQ w [ae (sv mK) 60 2 ay a4.Threads,ae (sv gL) 95 2 aR a4.Boxes,ae (sv lF) 3 1 (D.int .i64) a4.Out,.box g_4 42 [sv jC,sv mK,sv gL,vi a4.Turn,vi a4.Idle,sv lF]] S) (hlt:∀ b,S b->b<w.heap.size):CL 102 #[vi a0,vi a1,vi a2,vi a3,.func (.func 107) #[] #[Pt g_4]] w (Ret S w (λs:Hd×Hd×Hd=>.tuple #[vi r.1,vi r.2.1,.bool r.2.2.1]) (λs=>[.box g_4 42 [sv jC,(sv s.1),(sv s.2.1),vi a4.Turn,vi a4.Idle,(sv s.2.2)],ae (sv s.1) 60 2 ay r.2.2.2.1,ae (sv s.2.1) 95 2 aR r.2.2.2.2.1,ae (sv s.2.2) 3 1 (D.int .i64) r.2.2.2.2.2])):=by
 unfold iA at h
 refine au func102 z z ?_
 have s:=Sep.sm hO hlt
 refine .g (.q z (.q z (.qn z (.seq (.block (bv h λy1 hy1 h=>?_))))))
 refine .via (.iter (λs1 E' W'=>∃ (v7:Hd) (v8:Hd) (v9:Hd),aD E' [(0,vi s1.1),(1,vi a1),(2,vi s1.2.1),(3,vi s1.2.2.1),(4,.func (.func 107) #[] #[Pt g_4])]/\Sep S w W' [.box g_4 42 [sv jC,sv v7,sv v8,vi a4.Turn,vi a4.Idle,sv v9],ae (sv v7) 60 2 ay s1.2.2.2.1,ae (sv v8) 95 2 aR s1.2.2.2.2.1,ae (sv v9) 3 1 (D.int .i64) s1.2.2.2.2.2]) (λy2 x E' W'=>(match y2 with | .inl o1=>x=.ret/\qR w S jC mK gL lF g_4 a0 a1 a2 a3 a4 o1 E' W' | .inr o2=>x=.exit 0/\∃ (v10:Hd) (v11:Hd) (v12:Hd),aD E' [(2,vi o2.1),(3,vi o2.2.1)]/\Sep S w W' [.box g_4 42 [sv jC,sv v10,sv v11,vi a4.Turn,vi a4.Idle,sv v12],ae (sv v10) 60 2 ay o2.2.2.1,ae (sv v11) 95 2 aR o2.2.2.2.1,ae (sv v12) 3 1 (D.int .i64) o2.2.2.2.2])) hy1 ⟨mK,gL,lF,sb rfl,s.to [3,0,0,0] rfl⟩ ?_) ?_
 ·intro s1 y3 E W h hI
  obtain ⟨v4,v5,v6,hE,s⟩:=hI
  refine CW.sub hE ?_
  unfold cD at h
  refine .seq (.g (.q z (.q z (.q z (.cu 4 22 ((decide (s1.1>0))&&(decide (s1.2.2.1<a1))) s ?_ ?_)))))
  ·refine .both (decide (s1.1>0)) (λb=>?_) (λb=>?_)
   ·have hg1:=b
    exact .g hg1 (.q z (.g hg1 (.q z (.g hg1 (.q z (.s (pkt hg1 z z z) z (.nil (ck 4 s z (bi hg1)))))))))
   exact .xx b z (.xx b z (.xx b z (.s (pkf b z z z) z (.nil (ck 4 s z (bj b))))))
  intro W s
  refine .nil (.cond z (λb=>?_) (λb=>?_))
  ·have h:=aK b h
   refine .skip (.seq (.block (.g (.q z (.q z (.q z (.q z (.q z (bv h λy4 hy4 h=>?_)))))))))
   have s:=s.p3.p3.p3
   refine .c (.callC (L0:=[ae (sv v4) 60 2 ay s1.2.2.2.1,ae (sv v5) 95 2 aR s1.2.2.2.2.1,ae (sv v6) 3 1 (D.int .i64) s1.2.2.2.2.2,.box g_4 42 [sv jC,sv v4,sv v5,vi a4.Turn,vi a4.Idle,sv v6]]) (vs:=[vi s1.2.1]) (cap:=[Pt g_4]) s func107 (λS h1 h2 h3=>(sF hy4 (s.ks Az h1) h2 (zz h1))) z z z ?_)
   rintro ⟨v13,v14,v15⟩ W s
   refine bv h λy5 hy5 h=>.c (.cO s func153 (oU hy5) z z ?_)
   intro W s
   refine .q z (.q z (.q z (.q z (.q z (.q z (.qn z (.seq (.g (.q z (.q z (.nil ?_)))))))))))
   refine .cs z h ?_ ?_ <;> intro h
   ·refine .g (.q z (.q z (.qn z (.ret ?_))))
    cases h
    exact ⟨by simp,z,ac (vs:=[_,_,_]) (v13,v14,v15) (rt z (rt z (rt z rn))) z (s.to [0,0,0,0])⟩
   refine .skip (.region (.q z (.q z (.q z (.qn z (.region (.q z (.q z (.q z (.nil ?_))))))))))
   cases h
   exact ⟨z,v13,v14,v15,sb z,s.to [0,0,0,0]⟩
  have h:=aL b h
  refine .exit ?_
  cases h
  exact ⟨by simp,z,v4,v5,v6,sb z,s.to [0,0,0,0]⟩
 intro x E W hJ
 rcases y1 with o3 | o4
 ·obtain ⟨rfl,hF⟩:=hJ
  refine ⟨_,λ_ _ h=>h,?_⟩
  cases h
  exact hF
 obtain ⟨rfl,v16,v17,v18,hE,s⟩:=hJ
 refine ⟨_,hE.sub,?_⟩
 cases h
 exact .g (.q z (.q z (.q z (.q z (.qn z (.ret (ac (vs:=[_,_,_]) (v16,v17,v18) (rt z (rt z (rt z rn))) z (s.to [0,0,0,0]))))))))
theorem uO {a0:cI} {a1:Int} {bt:Hd} {aY:Hd} {ba:Hd} {bZ:Hd} {w:World} {r:cI×Bool} (h:lm a0 a1=some r) (bz:RO w bt 78 1 (λ(l:List ah)=>D.row 102 5 (l.map aq)) a0.Codes) (aH:RO w aY 60 2 ay a0.Threads) (cR:RO w ba 95 2 aR a0.Boxes) (dU:RO w bZ 3 1 (D.int .i64) a0.Out):CL 60 #[.agg #[sv bt,sv aY,sv ba,vi a0.Turn,vi a0.Idle,sv bZ],vi a1] w (Ret No w (λs:Hd×Hd×Hd×Hd=>.tuple #[.agg #[(sv s.1),(sv s.2.1),(sv s.2.2.1),vi r.1.Turn,vi r.1.Idle,(sv s.2.2.2)],.bool r.2]) (λs=>[ae (sv s.1) 78 1 (λ(l:List ah)=>D.row 102 5 (l.map aq)) r.1.Codes,ae (sv s.2.1) 60 2 ay r.1.Threads,ae (sv s.2.2.1) 95 2 aR r.1.Boxes,ae (sv s.2.2.2) 3 1 (D.int .i64) r.1.Out])):=by
 unfold lm at h
 refine au func60 z z ?_
 have s:=Sep.start w
 refine .g (.c (.box s z z ?_))
 intro g1 W s
 refine .c (.alloc t42 s ?_)
 intro g2 W s
 refine .qn z (.seq (.g (.s (ld t42 s.p1 z z z z z) z (bv h λy1 hy1 h=>.c (.cO s func43 (n8 hy1 (s.keep bz) (s.keep aH) (s.keep cR) (s.keep dU)) z z ?_)))))
 intro W s
 refine .q z (.q z (.cu 3 15 ((!y1)||(decide (a1<0))) s ?_ ?_))
 ·refine .both (!y1) (λb=>?_) (λb=>?_)
  ·exact .xx b z (.xx b z (.s (pkt b z z z) z (.nil (ck 3 s z (ff b)))))
  have hg1:=b
  exact .g hg1 (.q z (.g hg1 (.q z (.s (pkf hg1 z z z) z (.nil (ck 3 s z (fg hg1)))))))
 intro W s
 refine .q z (.cu 3 19 (((!y1)||(decide (a1<0)))||(decide (a1>100000))) s ?_ ?_)
 ·refine .both ((!y1)||(decide (a1<0))) (λb=>?_) (λb=>?_)
  ·exact .xx b z (.xx b z (.s (pkt b z z z) z (.nil (ck 3 s z (ff b)))))
  have hg2:=b
  exact .g hg2 (.q z (.g hg2 (.q z (.s (pkf hg2 z z z) z (.nil (ck 3 s z (fg hg2)))))))
 intro W s
 refine .nil (.cond z (λb=>?_) (λb=>?_))
 ·have h:=aK b h
  refine .g (.s (bs T.s42 z z) z (.c (.st t42 s z z z ?_)))
  intro W s
  refine .qn z (.ret ?_)
  have s:=s.nilv 78 1 (λ(l:List ah)=>D.row 102 5 (l.map aq))
  have s:=s.nilv 60 2 ay
  have s:=s.nilv 95 2 aR
  have s:=s.nilv 3 1 (D.int .i64)
  cases h
  exact ac (vs:=[_,_]) (aA,aA,aA,aA) (rc s.p4 t42 z (rt z rn) z z) z (s.to [3,2,1,0])
 have h:=aL b h
 refine .skip (.seq (bv h λy2 hy2 h=>bv h λy3 hy3 h=>bv h λy4 hy4 h=>?_))
 refine .via (R':=λx E' W'=>x=.normal/\∃ (g3:Nat) (v1:Hd) (v2:Hd) (v3:Hd) (v4:Hd),aD E' [(1,vi a1),(2,Pt g1),(4,Pt g2),(6,Pt g3)]/\Sep No w W' [.box g2 42 [sv aA,sv aA,sv aA,vi 0,vi 0,sv aA],.box g1 42 [sv bt,sv aY,sv ba,vi a0.Turn,vi a0.Idle,sv bZ],.box g3 42 [sv v1,sv v2,sv v3,vi 0,vi 0,sv v4],ae (sv v1) 78 1 (λ(l:List ah)=>D.row 102 5 (l.map aq)) y2,ae (sv v2) 60 2 ay [],ae (sv v3) 95 2 aR y3,ae (sv v4) 3 1 (D.int .i64) y4]) ?_ ?_
 ·refine .rk 11 s [0,0] T.mix ?_
  intro W s
  have t:=s.to [0,0]
  refine .ts' 0 z (λW t=>fa f42_0 z z z) t z (.ts' 1 z (λW t=>ld t36 t.p1 z z z z z) t z (.ts' 3 z (λW t=>fa f42_2 z z z) t z (.ts' 4 z (λW t=>ld t40 t.p1 z z z z z) t z (.ts' 6 z (λW t=>fa f42_5 z z z) t z (.ts' 7 z (λW t=>ld t23 t.p1 z z z z z) t z (.by [2,10] ⟨⟨_,z,?_⟩,⟨_,z,?_⟩,trivial⟩))))))
  ·refine (.cV s func41 (lD hy2 (s.keep bz)) z z ?_)
   intro v5 W s
   refine s.an [1,1] λt=>.by [5,10] ⟨⟨_,z,?_⟩,⟨_,z,?_⟩,trivial⟩
   ·refine (.cV s func101 (fX hy3 (s.keep cR)) z z ?_)
    intro v6 W s
    refine s.an [2,2] λt=>.by [8,10] ⟨⟨_,z,?_⟩,⟨_,z,?_⟩,trivial⟩
    ·refine (.cV s func58 (a9 hy4 (s.keep dU)) z z ?_)
     intro v7 W s
     refine s.an [3,3] λt=>.ts' 9 z (λW t=>bs T.s42 z z) t z (.by1 10 z (.alloc t42 s ?_))
     intro g4 W s
     refine s.an [4,4] λt=>.by1 11 z (.st t42 s z z z ?_)
     intro W s
     refine ⟨λh=>absurd z h,?_⟩
     refine .done ?_
     have s:=s.nilv 60 2 ay
     exact ⟨z,g4,v5,aA,v6,v7,sb z,s.tk [5,5,1,3,0,1,0]⟩
    refine (.alloc t42 s ?_)
    intro g5 W s
    refine s.an [3,3] λt=>.by1 8 z (.cV s func58 (a9 hy4 (s.keep dU)) z z ?_)
    intro v8 W s
    refine s.an [4,4] λt=>.ts' 9 z (λW t=>bs T.s42 z z) t z (.by1 11 z (.st t42 s.p1 z z z ?_))
    intro W s
    refine ⟨λh=>absurd z h,?_⟩
    refine .done ?_
    have s:=s.nilv 60 2 ay
    exact ⟨z,g5,v5,aA,v6,v8,sb z,s.tk [5,5,1,3,0,1,0]⟩
   refine (.alloc t42 s ?_)
   intro g6 W s
   refine s.an [2,2] λt=>.by1 5 z (.cV s func101 (fX hy3 (s.keep cR)) z z ?_)
   intro v9 W s
   refine s.an [3,3] λt=>.by1 8 z (.cV s func58 (a9 hy4 (s.keep dU)) z z ?_)
   intro v10 W s
   refine s.an [4,4] λt=>.ts' 9 z (λW t=>bs T.s42 z z) t z (.by1 11 z (.st t42 s.p2 z z z ?_))
   intro W s
   refine ⟨λh=>absurd z h,?_⟩
   refine .done ?_
   have s:=s.nilv 60 2 ay
   exact ⟨z,g6,v5,aA,v9,v10,sb z,s.tk [5,5,1,3,0,1,0]⟩
  refine (.alloc t42 s ?_)
  intro g7 W s
  refine s.an [1,1] λt=>.by1 2 z (.cV s func41 (lD hy2 (s.keep bz)) z z ?_)
  intro v11 W s
  refine s.an [2,2] λt=>.by1 5 z (.cV s func101 (fX hy3 (s.keep cR)) z z ?_)
  intro v12 W s
  refine s.an [3,3] λt=>.by1 8 z (.cV s func58 (a9 hy4 (s.keep dU)) z z ?_)
  intro v13 W s
  refine s.an [4,4] λt=>.ts' 9 z (λW t=>bs T.s42 z z) t z (.by1 11 z (.st t42 s.p3 z z z ?_))
  intro W s
  refine ⟨λh=>absurd z h,?_⟩
  refine .done ?_
  have s:=s.nilv 60 2 ay
  exact ⟨z,g7,v11,aA,v12,v13,sb z,s.tk [5,5,1,3,0,1,0]⟩
 intro x E W hJ
 obtain ⟨rfl,g8,v14,v15,v16,v17,hE,s⟩:=hJ
 refine ⟨_,hE.sub,?_⟩
 refine .seq (.g (.s (fa f42_1 z z z) z (.s (ld t39 s.p1 z z z z z) z (.s (a8 (s.keep aH) u39 z z) z (.qn z (.block (bv h λy5 hy5 h=>?_)))))))
 refine .via (.iter (λs1 E' W'=>∃ (v20:Hd),aD E' [(1,vi a1),(2,Pt g1),(4,Pt g2),(6,Pt g8),(32,(sv aY)),(33,vi (a0.Threads.length:Int)),(34,vi s1.1)]/\Sep No w W' [.box g2 42 [sv aA,sv aA,sv aA,vi 0,vi 0,sv aA],.box g1 42 [sv bt,sv aY,sv ba,vi a0.Turn,vi a0.Idle,sv bZ],.box g8 42 [sv v14,sv v20,sv v16,vi 0,vi 0,sv v17],ae (sv v14) 78 1 (λ(l:List ah)=>D.row 102 5 (l.map aq)) y2,ae (sv v16) 95 2 aR y3,ae (sv v17) 3 1 (D.int .i64) y4,ae (sv v20) 60 2 ay s1.2]) (λy6 x E' W'=>x=.exit 0/\∃ (v21:Hd),aD E' [(1,vi a1),(2,Pt g1),(4,Pt g2),(6,Pt g8)]/\Sep No w W' [.box g2 42 [sv aA,sv aA,sv aA,vi 0,vi 0,sv aA],.box g1 42 [sv bt,sv aY,sv ba,vi a0.Turn,vi a0.Idle,sv bZ],.box g8 42 [sv v14,sv v21,sv v16,vi 0,vi 0,sv v17],ae (sv v14) 78 1 (λ(l:List ah)=>D.row 102 5 (l.map aq)) y2,ae (sv v16) 95 2 aR y3,ae (sv v17) 3 1 (D.int .i64) y4,ae (sv v21) 60 2 ay y6]) hy5 ⟨v15,sb z,s.tk [0,0,0,0,1,1,0]⟩ ?_) ?_
 ·intro s1 y7 E W h hI
  obtain ⟨v19,hE,s⟩:=hI
  refine CW.sub hE ?_
  unfold fE at h
  refine .g (.qn z (.seq ?_))
  refine .cs z h ?_ ?_ <;> intro h
  ·refine .skip (.seq (.block (.g (bv h λx1 hx1 h=>?_))))
   obtain ⟨k1,hd,hck1⟩:=RV.el2 aH hx1
   have hd1:=ri hd
   obtain ⟨v22,k1,rfl,q15,hd2⟩:=c9 aH hd1
   obtain ⟨k1,rfl,hd3⟩:=dJ aH z hd2
   obtain rfl:=iq aH hd3
   refine .s (ixv (s.keep aH) hx1 u39 t60 z z z) z (.s (lde (hck1 _ s.agree) t60 z z z z z) z (.c (.alloc t60 s ?_)))
   intro g9 W s
   refine .c (.st t60 s z z z ?_)
   intro W s
   refine .nil (.rk 11 s [0,0,0,0,0,0,0] T.mix ?_)
   intro W s
   have t:=s.to [0,0,0,0,0,0,0]
   refine .ts' 0 z (λW t=>fa f42_1 z z z) t z (.ts' 1 z (λW t=>ld t39 t.p3 z z z z z) t z (.ts' 2 z (λW t=>fa f60_0 z z z) t z (.ts' 3 z (λW t=>ld t23 t z z z z z) t z (.ts' 5 z (λW t=>fa f60_1 z z z) t z (.ts' 6 z (λW t=>ld T.t3 t z z z z z) t z (bv h λy8 hy8 h=>.by1 4 z (.cV s func58 (a9 hy8 (s.keep (q15 _ aH))) z z ?_)))))))
   intro v23 W s
   refine s.an [1,1,1,1,1,1,1] λt=>.ts' 7 z (λW t=>bs T.s60 z z) t z (.by1 8 z (.lg (L1:=[ae (sv v23) 3 1 (D.int .i64) y8]) [(bk.mk y8 x1.Pc)] ay u39 t60 (s.to [0,0,0,0,0,0,0,0,0]) z z z (.agg (.row (.flat (c1:=[vi x1.Pc]) z .nil))) ?_ z (λ_=>z)))
   intro v24 W s
   refine s.an [1,1,1,1,1,1,1] λt=>bv h λr1 hr1 h=>.by1 9 z (.appv hr1 (s.to [8,0,0,0,0,0,0,0,0]) u39 t60 z z z ?_)
   intro v25 W s
   refine s.an [1,1,1,1,1,1,1] λt=>.ts' 10 z (λW t=>fa f42_1 z z z) t z (.by1 11 z (.st t39 s.p4 z z z ?_))
   intro W s
   refine ⟨λh=>absurd z h,?_⟩
   refine .done (.region (.q z (.q z (.nil ?_))))
   cases h
   exact ⟨z,v25,sb z,s.tk [3,3,0,2,2,2,0]⟩
  refine .exit ?_
  cases h
  exact ⟨by simp,z,v19,sb z,s.tk [0,0,0,0,0,0,0]⟩
 intro x E W hJ
 obtain ⟨rfl,v26,hE,s⟩:=hJ
 refine ⟨_,hE.sub,?_⟩
 refine .g (.q z (.s (fa f42_1 z z z) z (.s (ld t39 s.p2 z z z z z) z (.s (a8 s.p6.lv u39 z z) z (.s (fa f42_3 z z z) z (.s (ld T.t3 s.p1 z z z z z) z (.s (fa f42_4 z z z) z (.s (ld T.t3 s.p1 z z z z z) z (.s (mf z z) z (bv h λy9 hy9 h=>?_))))))))))
 have s:=s.p2.p5.p5.p6
 refine .c (.cS (L0:=[ae (sv v26) 60 2 ay y5,ae (sv v16) 95 2 aR y3,ae (sv v17) 3 1 (D.int .i64) y4,.box g8 42 [sv v14,sv v26,sv v16,vi 0,vi 0,sv v17]]) s func102 (λS h1 h2 h3=>(ql hy9 (h3.rdv (k:=2) z) h2 (zz h1))) z z ?_)
 rintro ⟨v27,v28,v29⟩ W s
 refine .q z (.q z (.q z (.q z (.s (fa f42_3 z z z) z (.c (.st T.t3 s z z z ?_))))))
 intro W s
 refine .s (fa f42_4 z z z) z (.c (.st T.t3 s z z z ?_))
 intro W s
 refine .nil (.g (.s (ld t42 s z z z z z) z (.c (.st t42 s.p4 z z z ?_))))
 intro W s
 cases h
 exact .qn z (.ret (ac (vs:=[_,_]) (v14,v27,v28,v29) (rc s t42 z (rt z rn) z z) z (s.to [6,2,2,2])))
theorem wg {a0:List Int} {a1:List (List ah)} {a2:Int} {v_0:Hd} {v_1:Hd} {w:World} {r:cI} (h:mH a0 a1 a2=some r) (q_0:RO w v_0 3 1 (D.int .i64) a0) (q_1:RO w v_1 78 1 (λ(l:List ah)=>D.row 102 5 (l.map aq)) a1):CL 25 #[sv v_0,sv v_1,vi a2] w (Ret No w (λs:Hd×Hd×Hd×Hd=>.agg #[(sv s.1),(sv s.2.1),(sv s.2.2.1),vi r.Turn,vi r.Idle,(sv s.2.2.2)]) (λs=>[ae (sv s.1) 78 1 (λ(l:List ah)=>D.row 102 5 (l.map aq)) r.Codes,ae (sv s.2.1) 60 2 ay r.Threads,ae (sv s.2.2.1) 95 2 aR r.Boxes,ae (sv s.2.2.2) 3 1 (D.int .i64) r.Out])):=by
 unfold mH at h
 refine au func25 z z ?_
 have s:=Sep.start w
 refine .g (.c (.alloc t42 s ?_))
 intro g1 W s
 refine .nil (.g (.q z (.q z (bv h λy1 hy1 h=>.c (.call s func17 (pF hy1 (s.keep q_0) (s.keep q_1)) z z ?_)))))
 rintro ⟨v1,v2,v3,v4⟩ W s
 refine .q z (.q z (.q z (.c (.alloc t42 s ?_))))
 intro g2 W s
 refine .c (.st t42 s z z z ?_)
 intro W s
 refine .qn z (.g (.s (ld t42 s z z z z z) z (.q z (bv h λy2 hy2 h=>.c (.call s func60 (uO hy2 s.p1.lv s.p2.lv s.p3.lv s.p4.lv) z z ?_)))))
 rintro ⟨v5,v6,v7,v8⟩ W s
 refine .q z (.q z (.q z (.c (.alloc t42 s ?_))))
 intro g3 W s
 refine .c (.st t42 s z z z ?_)
 intro W s
 refine .qn z (.seq (.g (.q z (.q z (.q z (.cu 3 28 ((!y1.2)||(!y2.2)) s ?_ ?_))))))
 ·refine .both (!y1.2) (λb=>?_) (λb=>?_)
  ·exact .xx b z (.xx b z (.s (pkt b z z z) z (.nil (ck 3 s z (ff b)))))
  have hg1:=b
  exact .g hg1 (.q z (.g hg1 (.q z (.s (pkf hg1 z z z) z (.nil (ck 3 s z (fg hg1)))))))
 intro W s
 refine .nil ?_
 refine .cs z h ?_ ?_ <;> intro h
 ·refine .g (.s (bs T.s42 z z) z (.c (.st t42 s.p10 z z z ?_)))
  intro W s
  refine .nil (.ret ?_)
  have s:=s.nilv 78 1 (λ(l:List ah)=>D.row 102 5 (l.map aq))
  have s:=s.nilv 60 2 ay
  have s:=s.nilv 95 2 aR
  have s:=s.nilv 3 1 (D.int .i64)
  cases h
  exact ac (aA,aA,aA,aA) (rc s.p4 t42 z rn z z) z (s.to [3,2,1,0])
 refine .skip (.g (.s (ld t42 s z z z z z) z (.c (.st t42 s.p10 z z z ?_))))
 intro W s
 cases h
 exact .nil (.ret (ac (v5,v6,v7,v8) (rc s t42 z rn z z) z (s.to [2,2,2,2])))
def nJ (w:World) (r:Bool):Env->World->Prop:=Fin Tryz.prog Tryz.f7 No w (λs:Unit=>.bool r) (λs=>[]) .ret
end
noncomputable section
theorem qS {k:Nat} {a0:List Int} {v_0:Hd} {w:World} {r:Bool} (h:jr k a0=some r) (q_0:RO w v_0 5 1 (D.int .u8) a0) (hG:Gl w):CL 7 #[sv v_0] w (RU w (.bool r)):=by
 unfold jr at h
 refine au func7 z z ?_
 have s:=Sep.start w
 refine .g (.qn z (.seq (.g (.q z (.s (a8 (s.keep q_0) u22 z z) z (.q z (.nil ?_)))))))
 refine .cs z h ?_ ?_ <;> intro h
 ·obtain rfl:=o9 h
  exact .g (.qn z (.ret (ac () (rt z rn) z (s.to []))))
 refine .skip (.g (.q z (bv h λy1 hy1 h=>.c (.call s func16 (qM hy1 (s.keep q_0)) z z ?_))))
 rintro ⟨v1,v2⟩ W s
 refine .q z (.q z (.q z (.q z (.qn z (.g (.q z (.q z (bv h λy2 hy2 h=>.c (.call s func17 (pF hy2 s.lv s.p1.lv) z z ?_)))))))))
 rintro ⟨v3,v4,v5,v6⟩ W s
 refine .q z (.q z (.q z (.c (.alloc t42 s ?_))))
 intro g1 W s
 refine .c (.st t42 s z z z ?_)
 intro W s
 refine .qn z (.g (.q z (.q z (bv h λy3 hy3 h=>.c (.call s func18 (uG hy3 s.p5.lv s.p6.lv) z z ?_)))))
 rintro ⟨v7,v8,v9,v10⟩ W s
 refine .q z (.q z (.q z (.c (.alloc t42 s ?_))))
 intro g2 W s
 refine .c (.st t42 s z z z ?_)
 intro W s
 refine .qn z (.seq (.g (.q z (.q z (.s (neb u4 z z z) z (.q z (bv h λb1 hb1 h=>.cu 5 42 (b1) s ?_ ?_)))))))
 ·refine .both (y2.2 !=y3.2) (λb=>?_) (λb=>?_)
  ·refine .xx b z (.xx b z (.xx b z (.xx b z ?_)))
   cases aK b hb1
   exact .s (pkt b z z z) z (.nil (ck 5 s))
  have hg1:=b
  have h:=aL b hb1
  refine .g hg1 (.s (ld t42 s.p5 z z z z z) z (.g hg1 (.s (ld t42 s z z z z z) z (bv h λy4 hy4 h=>.g hg1 (.c (.cO s func19 (oT hy4 s.p6.lv s.p7.lv s.p8.lv s.p9.lv s.p1.lv s.p2.lv s.p3.lv s.p4.lv) z z ?_))))))
  intro W s
  refine .g hg1 (.q z (.s (pkf hg1 z z z) z ?_))
  cases h
  exact .nil (ck 5 s)
 intro W s
 refine .q z (.cu 3 46 (b1||(!y2.2)) s ?_ ?_)
 ·refine .both (b1) (λb=>?_) (λb=>?_)
  ·exact .xx b z (.xx b z (.s (pkt b z z z) z (.nil (ck 3 s z (ff b)))))
  have hg2:=b
  exact .g hg2 (.q z (.g hg2 (.q z (.s (pkf hg2 z z z) z (.nil (ck 3 s z (fg hg2)))))))
 intro W s
 refine .nil ?_
 refine .cs z h ?_ ?_ <;> intro h
 ·refine .g (.q z (.q z (.s (eqb u4 z z z) z (.q z (bv h λb2 hb2 h=>.cu 4 54 (b2) s ?_ ?_)))))
  ·refine .both (y2.2==y3.2) (λb=>?_) (λb=>?_)
   ·have hg3:=b
    have h:=aK b hb2
    refine .g hg3 (.s (ld t42 s.p5 z z z z z) z (.g hg3 (.s (ld t42 s z z z z z) z (bv h λy5 hy5 h=>.g hg3 (.c (.cO s func19 (oT hy5 s.p6.lv s.p7.lv s.p8.lv s.p9.lv s.p1.lv s.p2.lv s.p3.lv s.p4.lv) z z ?_))))))
    intro W s
    refine .s (pkt hg3 z z z) z ?_
    cases h
    exact .nil (ck 4 s)
   refine .xx b z (.xx b z (.xx b z ?_))
   cases aL b hb2
   exact .s (pkf b z z z) z (.nil (ck 4 s))
  intro W s
  obtain rfl:=o9 h
  exact .qn z (.ret (ac () (rt z rn) z (s.to [])))
 refine .skip (.g (.q z (.q z (bv h λy6 hy6 h=>.c (.call s func25 (wg hy6 s.p10.lv s.p11.lv) z z ?_)))))
 rintro ⟨v11,v12,v13,v14⟩ W s
 refine .c (.alloc t42 s ?_)
 intro g3 W s
 refine .c (.st t42 s z z z ?_)
 intro W s
 refine .nil (.seq (.g (.s (fa f42_1 z z z) z (.s (ld t39 s z z z z z) z (.s (a8 s.p2.lv u39 z z) z (.q z (.s (a8 (s.pull (i:=16) z).lv u36 z z) z (.q z (.q z (.cu 6 70 (((y6.Threads.length:Int) !=(y1.2.length:Int))||(decide (y6.Idle<(y1.2.length:Int)))) s ?_ ?_))))))))))
 ·refine .both ((y6.Threads.length:Int) !=(y1.2.length:Int)) (λb=>?_) (λb=>?_)
  ·exact .xx b z (.xx b z (.xx b z (.xx b z (.xx b z (.s (pkt b z z z) z (.nil (ck 6 s z (ff b))))))))
  have hg4:=b
  exact .g hg4 (.s (fa f42_4 z z z) z (.g hg4 (.s (ld T.t3 s z z z z z) z (.g hg4 (.q z (.g hg4 (.s (a8 (s.pull (i:=16) z).lv u36 z z) z (.g hg4 (.q z (.s (pkf hg4 z z z) z (.nil (ck 6 s z (fg hg4)))))))))))))
 intro W s
 refine .nil ?_
 refine .cs z h ?_ ?_ <;> intro h
 ·cases h
  exact .g (.s (fa f42_1 z z z) z (.s (ld t39 s z z z z z) z (.s (a8 s.p2.lv u39 z z) z (.q z (.s (a8 (s.pull (i:=16) z).lv u36 z z) z (.q z (.qn z (.ret (ac () (rt z rn) z (s.to []))))))))))
 refine .skip (.g (.q z (.q z (bv h λy7 hy7 h=>.c (.cV s func20 (uK hy7 (s.pull (i:=16) z).lv (hG.at s (λ_ _ h=>h))) z z ?_)))))
 intro v15 W s
 refine bv h λy8 hy8 h=>.c (.call s func22 (uN hy8 (s.pull (i:=16) z).lv s.lv (hG.at s (λ_ _ h=>h))) z z ?_)
 rintro ⟨v16,v17,v18⟩ W s
 refine .c (.alloc t54 s ?_)
 intro g4 W s
 refine .c (.st t54 s z z z ?_)
 intro W s
 refine .nil (.g (.c (.liv [8,9,18,19,20,21,22,23] (D.int .i64) u23 T.t3 s z z z z ?_ z (λ_=>z))))
 intro v19 W s
 refine .qn z (.seq (.g (.qn z (.block (bv h λy9 hy9 h=>?_)))))
 refine .via (.iter (λs1 E' W'=>aD E' [(4,(sv v2)),(9,Pt g3),(10,Pt g4),(11,(sv v19)),(12,vi s1)]/\Sep No w W' [ae (sv v19) 3 1 (D.int .i64) [8,9,18,19,20,21,22,23],.box g4 54 [sv v16,sv v17,vi y8.Turn,vi y8.Idle,sv v18],ae (sv v16) 28 3 aV y8.Harts,ae (sv v17) 95 2 aR y8.Boxes,ae (sv v18) 3 1 (D.int .i64) y8.Out,ae (sv v15) 66 1 (λ(l:List Instr)=>D.row 105 5 (l.map aJ)) y7,.box g3 42 [sv v11,sv v12,sv v13,vi y6.Turn,vi y6.Idle,sv v14],ae (sv v11) 78 1 (λ(l:List ah)=>D.row 102 5 (l.map aq)) y6.Codes,ae (sv v12) 60 2 ay y6.Threads,ae (sv v13) 95 2 aR y6.Boxes,ae (sv v14) 3 1 (D.int .i64) y6.Out,.box g2 42 [sv v7,sv v8,sv v9,vi y3.1.Turn,vi y3.1.Idle,sv v10],ae (sv v7) 78 1 (λ(l:List ah)=>D.row 102 5 (l.map aq)) y3.1.Codes,ae (sv v8) 60 2 ay y3.1.Threads,ae (sv v9) 95 2 aR y3.1.Boxes,ae (sv v10) 3 1 (D.int .i64) y3.1.Out,.box g1 42 [sv v3,sv v4,sv v5,vi y2.1.Turn,vi y2.1.Idle,sv v6],ae (sv v3) 78 1 (λ(l:List ah)=>D.row 102 5 (l.map aq)) y2.1.Codes,ae (sv v4) 60 2 ay y2.1.Threads,ae (sv v5) 95 2 aR y2.1.Boxes,ae (sv v6) 3 1 (D.int .i64) y2.1.Out,ae (sv v1) 3 1 (D.int .i64) y1.1,ae (sv v2) 78 1 (λ(l:List ah)=>D.row 102 5 (l.map aq)) y1.2]) (λy10 x E' W'=>(match y10 with | .inl o1=>x=.ret/\nJ w o1 E' W' | .inr o2=>x=.exit 0/\aD E' []/\Sep No w W' [ae (sv v19) 3 1 (D.int .i64) [8,9,18,19,20,21,22,23],.box g4 54 [sv v16,sv v17,vi y8.Turn,vi y8.Idle,sv v18],ae (sv v16) 28 3 aV y8.Harts,ae (sv v17) 95 2 aR y8.Boxes,ae (sv v18) 3 1 (D.int .i64) y8.Out,ae (sv v15) 66 1 (λ(l:List Instr)=>D.row 105 5 (l.map aJ)) y7,.box g3 42 [sv v11,sv v12,sv v13,vi y6.Turn,vi y6.Idle,sv v14],ae (sv v11) 78 1 (λ(l:List ah)=>D.row 102 5 (l.map aq)) y6.Codes,ae (sv v12) 60 2 ay y6.Threads,ae (sv v13) 95 2 aR y6.Boxes,ae (sv v14) 3 1 (D.int .i64) y6.Out,.box g2 42 [sv v7,sv v8,sv v9,vi y3.1.Turn,vi y3.1.Idle,sv v10],ae (sv v7) 78 1 (λ(l:List ah)=>D.row 102 5 (l.map aq)) y3.1.Codes,ae (sv v8) 60 2 ay y3.1.Threads,ae (sv v9) 95 2 aR y3.1.Boxes,ae (sv v10) 3 1 (D.int .i64) y3.1.Out,.box g1 42 [sv v3,sv v4,sv v5,vi y2.1.Turn,vi y2.1.Idle,sv v6],ae (sv v3) 78 1 (λ(l:List ah)=>D.row 102 5 (l.map aq)) y2.1.Codes,ae (sv v4) 60 2 ay y2.1.Threads,ae (sv v5) 95 2 aR y2.1.Boxes,ae (sv v6) 3 1 (D.int .i64) y2.1.Out,ae (sv v1) 3 1 (D.int .i64) y1.1,ae (sv v2) 78 1 (λ(l:List ah)=>D.row 102 5 (l.map aq)) y1.2])) hy9 ⟨sb rfl,s.tk [0,0,0,0,0,0,0,0,0,0,0,0,0,0,0,0,0,0,0,0,0,0,0]⟩ ?_) ?_
 ·intro s1 y11 E W h hI
  obtain ⟨hE,s⟩:=hI
  refine CW.sub hE ?_
  unfold eK at h
  refine .seq (.g (.q z (.q z (.s (a8 (s.pull (i:=22) z).lv u36 z z) z (.q z (.nil ?_))))))
  refine .cs z h ?_ ?_ <;> intro h
  ·refine .skip (.seq (.block (.g (.qn z (.block (bv h λy12 hy12 h=>?_))))))
   refine .via (.iter (λs2 E' W'=>aD E' [(4,(sv v2)),(9,Pt g3),(10,Pt g4),(11,(sv v19)),(12,vi s1),(13,vi s2)]/\Sep No w W' [ae (sv v19) 3 1 (D.int .i64) [8,9,18,19,20,21,22,23],.box g4 54 [sv v16,sv v17,vi y8.Turn,vi y8.Idle,sv v18],ae (sv v16) 28 3 aV y8.Harts,ae (sv v17) 95 2 aR y8.Boxes,ae (sv v18) 3 1 (D.int .i64) y8.Out,ae (sv v15) 66 1 (λ(l:List Instr)=>D.row 105 5 (l.map aJ)) y7,.box g3 42 [sv v11,sv v12,sv v13,vi y6.Turn,vi y6.Idle,sv v14],ae (sv v11) 78 1 (λ(l:List ah)=>D.row 102 5 (l.map aq)) y6.Codes,ae (sv v12) 60 2 ay y6.Threads,ae (sv v13) 95 2 aR y6.Boxes,ae (sv v14) 3 1 (D.int .i64) y6.Out,.box g2 42 [sv v7,sv v8,sv v9,vi y3.1.Turn,vi y3.1.Idle,sv v10],ae (sv v7) 78 1 (λ(l:List ah)=>D.row 102 5 (l.map aq)) y3.1.Codes,ae (sv v8) 60 2 ay y3.1.Threads,ae (sv v9) 95 2 aR y3.1.Boxes,ae (sv v10) 3 1 (D.int .i64) y3.1.Out,.box g1 42 [sv v3,sv v4,sv v5,vi y2.1.Turn,vi y2.1.Idle,sv v6],ae (sv v3) 78 1 (λ(l:List ah)=>D.row 102 5 (l.map aq)) y2.1.Codes,ae (sv v4) 60 2 ay y2.1.Threads,ae (sv v5) 95 2 aR y2.1.Boxes,ae (sv v6) 3 1 (D.int .i64) y2.1.Out,ae (sv v1) 3 1 (D.int .i64) y1.1,ae (sv v2) 78 1 (λ(l:List ah)=>D.row 102 5 (l.map aq)) y1.2]) (λy13 x E' W'=>(match y13 with | .inl o3=>x=.ret/\nJ w o3 E' W' | .inr o4=>x=.exit 2/\aD E' [(4,(sv v2)),(9,Pt g3),(10,Pt g4),(11,(sv v19)),(12,vi s1)]/\Sep No w W' [ae (sv v19) 3 1 (D.int .i64) [8,9,18,19,20,21,22,23],.box g4 54 [sv v16,sv v17,vi y8.Turn,vi y8.Idle,sv v18],ae (sv v16) 28 3 aV y8.Harts,ae (sv v17) 95 2 aR y8.Boxes,ae (sv v18) 3 1 (D.int .i64) y8.Out,ae (sv v15) 66 1 (λ(l:List Instr)=>D.row 105 5 (l.map aJ)) y7,.box g3 42 [sv v11,sv v12,sv v13,vi y6.Turn,vi y6.Idle,sv v14],ae (sv v11) 78 1 (λ(l:List ah)=>D.row 102 5 (l.map aq)) y6.Codes,ae (sv v12) 60 2 ay y6.Threads,ae (sv v13) 95 2 aR y6.Boxes,ae (sv v14) 3 1 (D.int .i64) y6.Out,.box g2 42 [sv v7,sv v8,sv v9,vi y3.1.Turn,vi y3.1.Idle,sv v10],ae (sv v7) 78 1 (λ(l:List ah)=>D.row 102 5 (l.map aq)) y3.1.Codes,ae (sv v8) 60 2 ay y3.1.Threads,ae (sv v9) 95 2 aR y3.1.Boxes,ae (sv v10) 3 1 (D.int .i64) y3.1.Out,.box g1 42 [sv v3,sv v4,sv v5,vi y2.1.Turn,vi y2.1.Idle,sv v6],ae (sv v3) 78 1 (λ(l:List ah)=>D.row 102 5 (l.map aq)) y2.1.Codes,ae (sv v4) 60 2 ay y2.1.Threads,ae (sv v5) 95 2 aR y2.1.Boxes,ae (sv v6) 3 1 (D.int .i64) y2.1.Out,ae (sv v1) 3 1 (D.int .i64) y1.1,ae (sv v2) 78 1 (λ(l:List ah)=>D.row 102 5 (l.map aq)) y1.2])) hy12 ⟨sb rfl,s.tk [0,0,0,0,0,0,0,0,0,0,0,0,0,0,0,0,0,0,0,0,0,0,0]⟩ ?_) ?_
   ·intro s2 y14 E W h hI
    obtain ⟨hE,s⟩:=hI
    refine CW.sub hE ?_
    unfold eJ at h
    refine .seq (.g (.q z (.q z (.nil ?_))))
    refine .cs z h ?_ ?_ <;> intro h
    ·refine .skip (.seq (.block (.seq (bv h λx1 hx1 h=>?_))))
     obtain ⟨k1,s⟩:=Sep.ov s.p2 hx1
     have s:=s.oa
     obtain ⟨v20,k1,rfl,s⟩:=s.ow
     obtain ⟨k1,rfl,s⟩:=Sep.oF z s
     obtain ⟨v21,k1,rfl,s⟩:=s.ow
     obtain ⟨rfl,s⟩:=s.oN
     refine bv h λx2 hx2 h=>?_
     obtain ⟨k2,s⟩:=Sep.ov s.p10 hx2
     have s:=s.oa
     obtain ⟨v22,k2,rfl,s⟩:=s.ow
     obtain ⟨k2,rfl,s⟩:=Sep.oF z s
     obtain ⟨rfl,s⟩:=s.oN
     refine bv h λb4 hb4 h=>?_
     refine .via (R':=λx E' W'=>x=.normal/\aD E' [(4,(sv v2)),(9,Pt g3),(10,Pt g4),(11,(sv v19)),(12,vi s1),(13,vi s2),(121,.bool b4)]/\Sep No w W' [ae (sv v19) 3 1 (D.int .i64) [8,9,18,19,20,21,22,23],.box g4 54 [sv v16,sv v17,vi y8.Turn,vi y8.Idle,sv v18],ae (sv v16) 28 3 aV y8.Harts,ae (sv v17) 95 2 aR y8.Boxes,ae (sv v18) 3 1 (D.int .i64) y8.Out,ae (sv v15) 66 1 (λ(l:List Instr)=>D.row 105 5 (l.map aJ)) y7,.box g3 42 [sv v11,sv v12,sv v13,vi y6.Turn,vi y6.Idle,sv v14],ae (sv v11) 78 1 (λ(l:List ah)=>D.row 102 5 (l.map aq)) y6.Codes,ae (sv v12) 60 2 ay y6.Threads,ae (sv v13) 95 2 aR y6.Boxes,ae (sv v14) 3 1 (D.int .i64) y6.Out,.box g2 42 [sv v7,sv v8,sv v9,vi y3.1.Turn,vi y3.1.Idle,sv v10],ae (sv v7) 78 1 (λ(l:List ah)=>D.row 102 5 (l.map aq)) y3.1.Codes,ae (sv v8) 60 2 ay y3.1.Threads,ae (sv v9) 95 2 aR y3.1.Boxes,ae (sv v10) 3 1 (D.int .i64) y3.1.Out,.box g1 42 [sv v3,sv v4,sv v5,vi y2.1.Turn,vi y2.1.Idle,sv v6],ae (sv v3) 78 1 (λ(l:List ah)=>D.row 102 5 (l.map aq)) y2.1.Codes,ae (sv v4) 60 2 ay y2.1.Threads,ae (sv v5) 95 2 aR y2.1.Boxes,ae (sv v6) 3 1 (D.int .i64) y2.1.Out,ae (sv v1) 3 1 (D.int .i64) y1.1,ae (sv v2) 78 1 (λ(l:List ah)=>D.row 102 5 (l.map aq)) y1.2]) ?_ ?_
     ·refine .rk 30 s [0,0,0,0,0,0,0,0,0,0,0,0,0,0,0,0,0,0,0,0,0,0,0,0,0,0] T.mix ?_
      intro W s
      have t:=s.to [0,0,0,0,0,0,0,0,0,0,0,0,0,0,0,0,0,0,0,0,0,0,0,0,0,0]
      refine .ts' 0 z (λW t=>fa f54_0 z z z) t z (.ts' 1 z (λW t=>ld t52 t.p6 z z z z z) t z (.ts' 2 z (λW t=>Ex t.p4 u52 z z) t z (.tp' 3 z z t (.ts' 4 z (λW t=>a8 (s.pull (i:=25) z).lv u36 z z) t z (.tp' 5 z z t (.tp' 6 z z t (.both ((y8.Harts.length:Int) !=(y1.2.length:Int)) (λb=>?_) (λb=>?_))))))))
      ·refine .off 7 z b t (.off 8 z b t (.off 9 z b t (.off 10 z b t (.off 11 z b t (.off 12 z b t (.off 13 z b t (.off 14 z b t (.off 15 z b t (.off 16 z b t (.off 17 z b t (.off 18 z b t (.off 19 z b t (.off 20 z b t (.off 21 z b t (.off 22 z b t (.off 23 z b t (.off 24 z b t (.off 25 z b t (.off 26 z b t (.off 27 z b t (.off 28 z b t (.ts' 29 z (λW t=>pkt b z z z) t z (.eqv 121 z (nP (aK b hb4)) (.done ?_))) (by kernel_rfl) z z) (by kernel_rfl) z z) (by kernel_rfl) z z) (by kernel_rfl) z z) (by kernel_rfl) z z) (by kernel_rfl) z z) (by kernel_rfl) z z) (by kernel_rfl) z z) (by kernel_rfl) z z) (by kernel_rfl) z z) (by kernel_rfl) z z) (by kernel_rfl) z z) (by kernel_rfl) z z) (by kernel_rfl) z z) (by kernel_rfl) z z) (by kernel_rfl) z z) (by kernel_rfl) z z) (by kernel_rfl) z z) (by kernel_rfl) z z) (by kernel_rfl) z z) (by kernel_rfl) z z) (by kernel_rfl) z z
       have s:=Sep.gat (ds:=[ay x2]) (cs:=[sv v22,vi x2.Pc]) (L1:=[ae (sv v22) 3 1 (D.int .i64) x2.Regs]) (.agg (.row (.flat (c1:=[vi x2.Pc]) z .nil))) s
       have s:Sep _ _ _ [ae (sv v12) 60 2 ay y6.Threads,ae (sv v21) 3 1 (D.int .i64) x1.Mem,ae (sv v20) 3 1 (D.int .i64) x1.Regs,cf (sv v16) 28 3 aV y8.Harts (Int.toNat s1) [sv v20,vi x1.Pc,sv v21],ae (sv v19) 3 1 (D.int .i64) [8,9,18,19,20,21,22,23],.box g4 54 [sv v16,sv v17,vi y8.Turn,vi y8.Idle,sv v18],ae (sv v17) 95 2 aR y8.Boxes,ae (sv v18) 3 1 (D.int .i64) y8.Out,ae (sv v15) 66 1 (λ(l:List Instr)=>D.row 105 5 (l.map aJ)) y7,.box g3 42 [sv v11,sv v12,sv v13,vi y6.Turn,vi y6.Idle,sv v14],ae (sv v11) 78 1 (λ(l:List ah)=>D.row 102 5 (l.map aq)) y6.Codes,ae (sv v13) 95 2 aR y6.Boxes,ae (sv v14) 3 1 (D.int .i64) y6.Out,.box g2 42 [sv v7,sv v8,sv v9,vi y3.1.Turn,vi y3.1.Idle,sv v10],ae (sv v7) 78 1 (λ(l:List ah)=>D.row 102 5 (l.map aq)) y3.1.Codes,ae (sv v8) 60 2 ay y3.1.Threads,ae (sv v9) 95 2 aR y3.1.Boxes,ae (sv v10) 3 1 (D.int .i64) y3.1.Out,.box g1 42 [sv v3,sv v4,sv v5,vi y2.1.Turn,vi y2.1.Idle,sv v6],ae (sv v3) 78 1 (λ(l:List ah)=>D.row 102 5 (l.map aq)) y2.1.Codes,ae (sv v4) 60 2 ay y2.1.Threads,ae (sv v5) 95 2 aR y2.1.Boxes,ae (sv v6) 3 1 (D.int .i64) y2.1.Out,ae (sv v1) 3 1 (D.int .i64) y1.1,ae (sv v2) 78 1 (λ(l:List ah)=>D.row 102 5 (l.map aq)) y1.2]:=Sep.back0v hx2 s
       have s:=Sep.gat (L:=[cf (sv v16) 28 3 aV y8.Harts (Int.toNat s1) [sv v20,vi x1.Pc,sv v21],ae (sv v12) 60 2 ay y6.Threads,ae (sv v19) 3 1 (D.int .i64) [8,9,18,19,20,21,22,23],.box g4 54 [sv v16,sv v17,vi y8.Turn,vi y8.Idle,sv v18],ae (sv v17) 95 2 aR y8.Boxes,ae (sv v18) 3 1 (D.int .i64) y8.Out,ae (sv v15) 66 1 (λ(l:List Instr)=>D.row 105 5 (l.map aJ)) y7,.box g3 42 [sv v11,sv v12,sv v13,vi y6.Turn,vi y6.Idle,sv v14],ae (sv v11) 78 1 (λ(l:List ah)=>D.row 102 5 (l.map aq)) y6.Codes,ae (sv v13) 95 2 aR y6.Boxes,ae (sv v14) 3 1 (D.int .i64) y6.Out,.box g2 42 [sv v7,sv v8,sv v9,vi y3.1.Turn,vi y3.1.Idle,sv v10],ae (sv v7) 78 1 (λ(l:List ah)=>D.row 102 5 (l.map aq)) y3.1.Codes,ae (sv v8) 60 2 ay y3.1.Threads,ae (sv v9) 95 2 aR y3.1.Boxes,ae (sv v10) 3 1 (D.int .i64) y3.1.Out,.box g1 42 [sv v3,sv v4,sv v5,vi y2.1.Turn,vi y2.1.Idle,sv v6],ae (sv v3) 78 1 (λ(l:List ah)=>D.row 102 5 (l.map aq)) y2.1.Codes,ae (sv v4) 60 2 ay y2.1.Threads,ae (sv v5) 95 2 aR y2.1.Boxes,ae (sv v6) 3 1 (D.int .i64) y2.1.Out,ae (sv v1) 3 1 (D.int .i64) y1.1,ae (sv v2) 78 1 (λ(l:List ah)=>D.row 102 5 (l.map aq)) y1.2]) (ds:=[aV x1]) (cs:=[sv v20,vi x1.Pc,sv v21]) (L1:=[ae (sv v20) 3 1 (D.int .i64) x1.Regs,ae (sv v21) 3 1 (D.int .i64) x1.Mem]) (.agg (.row (.flat (c1:=[vi x1.Pc]) z (.row .nil)))) (s.tk [2,1,1,0,0,0,0,0,0,0,0,0,0,0,0,0,0,0,0,0,0,0,0,0,0])
       have s:Sep _ _ _ [ae (sv v16) 28 3 aV y8.Harts,ae (sv v12) 60 2 ay y6.Threads,ae (sv v19) 3 1 (D.int .i64) [8,9,18,19,20,21,22,23],.box g4 54 [sv v16,sv v17,vi y8.Turn,vi y8.Idle,sv v18],ae (sv v17) 95 2 aR y8.Boxes,ae (sv v18) 3 1 (D.int .i64) y8.Out,ae (sv v15) 66 1 (λ(l:List Instr)=>D.row 105 5 (l.map aJ)) y7,.box g3 42 [sv v11,sv v12,sv v13,vi y6.Turn,vi y6.Idle,sv v14],ae (sv v11) 78 1 (λ(l:List ah)=>D.row 102 5 (l.map aq)) y6.Codes,ae (sv v13) 95 2 aR y6.Boxes,ae (sv v14) 3 1 (D.int .i64) y6.Out,.box g2 42 [sv v7,sv v8,sv v9,vi y3.1.Turn,vi y3.1.Idle,sv v10],ae (sv v7) 78 1 (λ(l:List ah)=>D.row 102 5 (l.map aq)) y3.1.Codes,ae (sv v8) 60 2 ay y3.1.Threads,ae (sv v9) 95 2 aR y3.1.Boxes,ae (sv v10) 3 1 (D.int .i64) y3.1.Out,.box g1 42 [sv v3,sv v4,sv v5,vi y2.1.Turn,vi y2.1.Idle,sv v6],ae (sv v3) 78 1 (λ(l:List ah)=>D.row 102 5 (l.map aq)) y2.1.Codes,ae (sv v4) 60 2 ay y2.1.Threads,ae (sv v5) 95 2 aR y2.1.Boxes,ae (sv v6) 3 1 (D.int .i64) y2.1.Out,ae (sv v1) 3 1 (D.int .i64) y1.1,ae (sv v2) 78 1 (λ(l:List ah)=>D.row 102 5 (l.map aq)) y1.2]:=Sep.back0v hx1 s
       exact ⟨z,sb z,s.tk [2,2,0,1,1,1,1,1,0,0,0,0,0,0,0,0,0,0,0,0,0,0,0]⟩
      have hg6:=b
      have h_b4:=aL b hb4
      refine .t1g 7 z hg6 (λW t=>fa f54_0 z z z) t (.t1g 8 z hg6 (λW t=>ld t52 t.p6 z z z z z) t (.t1g 9 z hg6 (λW t=>pr z) t (.t1g 10 z hg6 (λW t=>ixh t.p4 hx1 u52 t28 z z z) t (.t1g 11 z hg6 (λW t=>fe f28_0 z z z) t (.t1g 12 z hg6 (λW t=>lde (t.p4.hcellsv) t23 z z z z z) t (.t1g 13 z hg6 (λW t=>pr z) t (.t1g 14 z hg6 (λW t=>pr z) t (bv h_b4 λx6 hx6 h_b4=>.t1g 15 z hg6 (λW t=>ixv s.p5.lv hx6 u23 T.t3 z z z) t (.t1g 16 z hg6 (λW t=>lde (RV.flat t.p5.lv hx6 z) T.t3 z z z z z) t (bv h_b4 λx7 hx7 h_b4=>.t1g 17 z hg6 (λW t=>ixv s.p3.lv hx7 u23 T.t3 z z z) t (.t1g 18 z hg6 (λW t=>lde (RV.flat t.p3.lv hx7 z) T.t3 z z z z z) t (.t1g 19 z hg6 (λW t=>fa f42_1 z z z) t (.t1g 20 z hg6 (λW t=>ld t39 t.p10 z z z z z) t (.t1g 21 z hg6 (λW t=>pr z) t (.t1g 22 z hg6 (λW t=>ixh t.p1 hx2 u39 t60 z z z) t (.t1g 23 z hg6 (λW t=>fe f60_0 z z z) t (.t1g 24 z hg6 (λW t=>lde (t.p1.hcellsv) t23 z z z z z) t (.t1g 25 z hg6 (λW t=>pr z) t (bv h_b4 λx8 hx8 h_b4=>.t1g 26 z hg6 (λW t=>ixv s.lv hx8 u23 T.t3 z z z) t (.t1g 27 z hg6 (λW t=>lde (RV.flat t.lv hx8 z) T.t3 z z z z z) t (.t1g 28 z hg6 (λW t=>pr z) t (.ts' 29 z (λW t=>pkf hg6 z z z) t z (.eqv 121 z (nP h_b4) (.done ?_))) (by kernel_rfl) z z) (by kernel_rfl) z z) (by kernel_rfl) z z) (by kernel_rfl) z z) (by kernel_rfl) z z) (by kernel_rfl) z z) (by kernel_rfl) z z) (by kernel_rfl) z z) (by kernel_rfl) z z) (by kernel_rfl) z z) (by kernel_rfl) z z) (by kernel_rfl) z z) (by kernel_rfl) z z) (by kernel_rfl) z z) (by kernel_rfl) z z) (by kernel_rfl) z z) (by kernel_rfl) z z) (by kernel_rfl) z z) (by kernel_rfl) z z) (by kernel_rfl) z z) (by kernel_rfl) z z) (by kernel_rfl) z z
      have s:=Sep.gat (ds:=[ay x2]) (cs:=[sv v22,vi x2.Pc]) (L1:=[ae (sv v22) 3 1 (D.int .i64) x2.Regs]) (.agg (.row (.flat (c1:=[vi x2.Pc]) z .nil))) s
      have s:Sep _ _ _ [ae (sv v12) 60 2 ay y6.Threads,ae (sv v21) 3 1 (D.int .i64) x1.Mem,ae (sv v20) 3 1 (D.int .i64) x1.Regs,cf (sv v16) 28 3 aV y8.Harts (Int.toNat s1) [sv v20,vi x1.Pc,sv v21],ae (sv v19) 3 1 (D.int .i64) [8,9,18,19,20,21,22,23],.box g4 54 [sv v16,sv v17,vi y8.Turn,vi y8.Idle,sv v18],ae (sv v17) 95 2 aR y8.Boxes,ae (sv v18) 3 1 (D.int .i64) y8.Out,ae (sv v15) 66 1 (λ(l:List Instr)=>D.row 105 5 (l.map aJ)) y7,.box g3 42 [sv v11,sv v12,sv v13,vi y6.Turn,vi y6.Idle,sv v14],ae (sv v11) 78 1 (λ(l:List ah)=>D.row 102 5 (l.map aq)) y6.Codes,ae (sv v13) 95 2 aR y6.Boxes,ae (sv v14) 3 1 (D.int .i64) y6.Out,.box g2 42 [sv v7,sv v8,sv v9,vi y3.1.Turn,vi y3.1.Idle,sv v10],ae (sv v7) 78 1 (λ(l:List ah)=>D.row 102 5 (l.map aq)) y3.1.Codes,ae (sv v8) 60 2 ay y3.1.Threads,ae (sv v9) 95 2 aR y3.1.Boxes,ae (sv v10) 3 1 (D.int .i64) y3.1.Out,.box g1 42 [sv v3,sv v4,sv v5,vi y2.1.Turn,vi y2.1.Idle,sv v6],ae (sv v3) 78 1 (λ(l:List ah)=>D.row 102 5 (l.map aq)) y2.1.Codes,ae (sv v4) 60 2 ay y2.1.Threads,ae (sv v5) 95 2 aR y2.1.Boxes,ae (sv v6) 3 1 (D.int .i64) y2.1.Out,ae (sv v1) 3 1 (D.int .i64) y1.1,ae (sv v2) 78 1 (λ(l:List ah)=>D.row 102 5 (l.map aq)) y1.2]:=Sep.back0v hx2 s
      have s:=Sep.gat (L:=[cf (sv v16) 28 3 aV y8.Harts (Int.toNat s1) [sv v20,vi x1.Pc,sv v21],ae (sv v12) 60 2 ay y6.Threads,ae (sv v19) 3 1 (D.int .i64) [8,9,18,19,20,21,22,23],.box g4 54 [sv v16,sv v17,vi y8.Turn,vi y8.Idle,sv v18],ae (sv v17) 95 2 aR y8.Boxes,ae (sv v18) 3 1 (D.int .i64) y8.Out,ae (sv v15) 66 1 (λ(l:List Instr)=>D.row 105 5 (l.map aJ)) y7,.box g3 42 [sv v11,sv v12,sv v13,vi y6.Turn,vi y6.Idle,sv v14],ae (sv v11) 78 1 (λ(l:List ah)=>D.row 102 5 (l.map aq)) y6.Codes,ae (sv v13) 95 2 aR y6.Boxes,ae (sv v14) 3 1 (D.int .i64) y6.Out,.box g2 42 [sv v7,sv v8,sv v9,vi y3.1.Turn,vi y3.1.Idle,sv v10],ae (sv v7) 78 1 (λ(l:List ah)=>D.row 102 5 (l.map aq)) y3.1.Codes,ae (sv v8) 60 2 ay y3.1.Threads,ae (sv v9) 95 2 aR y3.1.Boxes,ae (sv v10) 3 1 (D.int .i64) y3.1.Out,.box g1 42 [sv v3,sv v4,sv v5,vi y2.1.Turn,vi y2.1.Idle,sv v6],ae (sv v3) 78 1 (λ(l:List ah)=>D.row 102 5 (l.map aq)) y2.1.Codes,ae (sv v4) 60 2 ay y2.1.Threads,ae (sv v5) 95 2 aR y2.1.Boxes,ae (sv v6) 3 1 (D.int .i64) y2.1.Out,ae (sv v1) 3 1 (D.int .i64) y1.1,ae (sv v2) 78 1 (λ(l:List ah)=>D.row 102 5 (l.map aq)) y1.2]) (ds:=[aV x1]) (cs:=[sv v20,vi x1.Pc,sv v21]) (L1:=[ae (sv v20) 3 1 (D.int .i64) x1.Regs,ae (sv v21) 3 1 (D.int .i64) x1.Mem]) (.agg (.row (.flat (c1:=[vi x1.Pc]) z (.row .nil)))) (s.tk [2,1,1,0,0,0,0,0,0,0,0,0,0,0,0,0,0,0,0,0,0,0,0,0,0])
      have s:Sep _ _ _ [ae (sv v16) 28 3 aV y8.Harts,ae (sv v12) 60 2 ay y6.Threads,ae (sv v19) 3 1 (D.int .i64) [8,9,18,19,20,21,22,23],.box g4 54 [sv v16,sv v17,vi y8.Turn,vi y8.Idle,sv v18],ae (sv v17) 95 2 aR y8.Boxes,ae (sv v18) 3 1 (D.int .i64) y8.Out,ae (sv v15) 66 1 (λ(l:List Instr)=>D.row 105 5 (l.map aJ)) y7,.box g3 42 [sv v11,sv v12,sv v13,vi y6.Turn,vi y6.Idle,sv v14],ae (sv v11) 78 1 (λ(l:List ah)=>D.row 102 5 (l.map aq)) y6.Codes,ae (sv v13) 95 2 aR y6.Boxes,ae (sv v14) 3 1 (D.int .i64) y6.Out,.box g2 42 [sv v7,sv v8,sv v9,vi y3.1.Turn,vi y3.1.Idle,sv v10],ae (sv v7) 78 1 (λ(l:List ah)=>D.row 102 5 (l.map aq)) y3.1.Codes,ae (sv v8) 60 2 ay y3.1.Threads,ae (sv v9) 95 2 aR y3.1.Boxes,ae (sv v10) 3 1 (D.int .i64) y3.1.Out,.box g1 42 [sv v3,sv v4,sv v5,vi y2.1.Turn,vi y2.1.Idle,sv v6],ae (sv v3) 78 1 (λ(l:List ah)=>D.row 102 5 (l.map aq)) y2.1.Codes,ae (sv v4) 60 2 ay y2.1.Threads,ae (sv v5) 95 2 aR y2.1.Boxes,ae (sv v6) 3 1 (D.int .i64) y2.1.Out,ae (sv v1) 3 1 (D.int .i64) y1.1,ae (sv v2) 78 1 (λ(l:List ah)=>D.row 102 5 (l.map aq)) y1.2]:=Sep.back0v hx1 s
      exact ⟨z,sb z,s.tk [2,2,0,1,1,1,1,1,0,0,0,0,0,0,0,0,0,0,0,0,0,0,0]⟩
     intro x E W hJ
     obtain ⟨rfl,hE,s⟩:=hJ
     refine ⟨_,hE.sub,?_⟩
     refine .cs z h ?_ ?_ <;> intro h
     ·refine .g (.qn z (.ret ?_))
      cases h
      exact ⟨by simp,z,ac (vs:=[_]) () (rt z rn) z (s.to [])⟩
     refine .skip (.region (.q z (.q z (.q z (.nil ?_)))))
     cases h
     exact ⟨z,sb z,s.tk [0,0,0,0,0,0,0,0,0,0,0,0,0,0,0,0,0,0,0,0,0,0,0]⟩
    refine .exit ?_
    cases h
    exact ⟨by simp,z,sb z,s.tk [0,0,0,0,0,0,0,0,0,0,0,0,0,0,0,0,0,0,0,0,0,0,0]⟩
   intro x E W hJ
   rcases y12 with o5 | o6
   ·obtain ⟨rfl,hF⟩:=hJ
    refine ⟨_,λ_ _ h=>h,?_⟩
    cases h
    exact ⟨by simp,z,hF⟩
   obtain ⟨rfl,hE,s⟩:=hJ
   refine ⟨_,hE.sub,?_⟩
   refine .region (.q z (.q z (.q z (.nil ?_))))
   cases h
   exact ⟨z,sb z,s.tk [0,0,0,0,0,0,0,0,0,0,0,0,0,0,0,0,0,0,0,0,0,0,0]⟩
  refine .exit ?_
  cases h
  exact ⟨by simp,z,sb z,s.tk [0,0,0,0,0,0,0,0,0,0,0,0,0,0,0,0,0,0,0,0,0,0,0]⟩
 intro x E W hJ
 rcases y9 with o7 | o8
 ·obtain ⟨rfl,hF⟩:=hJ
  refine ⟨_,λ_ _ h=>h,?_⟩
  cases h
  exact hF
 obtain ⟨rfl,hE,s⟩:=hJ
 refine ⟨_,hE.sub,?_⟩
 obtain rfl:=o9 h
 exact .g (.qn z (.ret (ac () (rt z rn) z (s.to []))))
end
end Go.Proofs.YtgcmopfhafoabaaGreatDoor.N
namespace Go.Proofs.YtgcmopfhafoabaaGreatDoor.X
noncomputable section
variable {P:Program} {w:World} {T:Nat->Prop} {t e:TypeId} {size:Nat} {k:IntKind} {α:Type} {enc:α->D} {H:Type} {en:TypeId×Value->H} {base:Nat} {spare:Nat->Bool} {held:Bool}
def AA (P:Program) (t:TypeId):Option (List TypeId):=match P.underlying t with
 | some (.struct fs)=>some (fs.toList.map (·.type))
 | _=>none
mutual
def Typ (P:Program):D->TypeId->Prop
 | .int k n,t=>P.underlying t=some (.int k)/\(Lit.int k n).wf=true
 | .bool _,t=>P.underlying t=some .bool
 | .str s,t=>P.underlying t=some .string/\s.size<=maxLen
 | .row e size xs,t=>P.underlying t=some (.slice e)/\size=P.cellsOf e/\xy P xs e
 | .agg xs,t=>∃ ts,AA P t=some ts/\D2 P xs ts
def xy (P:Program):List D->TypeId->Prop
 | [],_=>True
 | x::xs,e=>Typ P x e/\xy P xs e
def D2 (P:Program):List D->List TypeId->Prop
 | [],[]=>True
 | x::xs,t::ts=>Typ P x t/\D2 P xs ts
 | _,_=>False
end
def pp (P:Program):List Field->Nat->Option Nat
 | [],k=>some k
 | f::r,k=>match Nat.beq f.offset k with
  | true=>pp P r (k+P.cellsOf f.type)
  | false=>none
def okT (P:Program) (ts:List TypeId) (t:TypeId):Bool:=match P.underlying t with
 | some (.int _) | some .bool | some .string=>Nat.beq (P.cellsOf t) 1
 | some (.slice e)=>Nat.beq (P.cellsOf t) 1&&ts.contains e&&!(Nat.beq (P.cellsOf e) 0)
 | some (.struct fs)=>(match pp P fs.toList 0 with
  | some n=>Nat.beq n (P.cellsOf t)
  | none=>false)&&fs.toList.all (λf=>ts.contains f.type)
 | _=>false
theorem D.rd_length:∀ {d:D} {cs:List Value},D.rd w d T cs->cs.length=d.sz
 | .int _ _,_,h=>by simp only [D.rd] at h; subst h; rfl
 | .bool _,_,h=>by simp only [D.rd] at h; subst h; rfl
 | .str _,_,h=>by simp only [D.rd] at h; subst h; rfl
 | .row _ _ _,_,⟨A,cap,c,h1,_⟩=>by subst h1; rfl
 | .agg xs,_,h=>by simp only [D.sz]; exact oZ (xs:=xs) h
theorem xy.append:∀ {xs ys:List D},xy P xs e->xy P ys e->xy P (xs++ys) e
 | [],_,_,h=>h
 | x::xs,_,⟨h1,h2⟩,h=>⟨h1,xy.append h2 h⟩
theorem yn {a:Addr} {v:Value} (h:w.cell? a=some v):Old No w a.block:=⟨World.block_lt_of_cell? w a h,id⟩
theorem B6 {ts:List TypeId} (hts:ts.all (okT P ts)=true):∀ {fuel:Nat} {t:TypeId} {cs:List Value} {x:DataW H×List MemPlace},t∈ts->DataW.trod en P w base spare held fuel t cs=some x->∃ d,Typ P d t/\D.rd w d (Old No w) cs/\d.sz=P.cellsOf t:=by
 intro fuel
 induction fuel with
 | zero=>intro t cs x _ h; simp [DataW.trod] at h
 | succ fuel ih =>
  intro t cs x ht h
  have hok:=List.all_eq_true.1 hts t ht
  unfold okT at hok
  split at hok
  ·rename_i k hu
   obtain ⟨n,rfl,_,hw⟩:=DataW.trod_int hu h
   exact ⟨.int k n,⟨hu,hw⟩,rfl,(Nat.eq_of_beq_eq_true hok).symm⟩
  ·rename_i hu
   obtain ⟨b,rfl,_⟩:=DataW.trod_bool hu h
   exact ⟨.bool b,hu,rfl,(Nat.eq_of_beq_eq_true hok).symm⟩
  ·rename_i hu
   obtain ⟨s,rfl,_,hs⟩:=DataW.trod_string hu h
   exact ⟨.str s,⟨hu,hs⟩,rfl,(Nat.eq_of_beq_eq_true hok).symm⟩
  ·rename_i e hu
   simp only [Bool.and_eq_true,Bool.not_eq_true'] at hok
   obtain ⟨⟨h1,h2⟩,h3⟩:=hok
   have he:e∈ts:=by simpa using h2
   have h0:P.cellsOf e≠0:=by intro h0; rw [h0] at h3; cases h3
   have hc1:=(Nat.eq_of_beq_eq_true h1).symm
   rcases DataW.trod_slice hu h with ⟨rfl,_⟩ | ⟨a,len,cap,elems,rest,n,hn,rfl,_,hb,hl,hm,hlen,hel,_,_⟩
   ·exact ⟨.row e (P.cellsOf e) [],⟨hu,rfl,trivial⟩,⟨none,0,[],rfl,Nat.le_refl _,Nat.zero_le _,by simp,λh=>absurd rfl h,rfl⟩,hc1⟩
   ·obtain rfl:fuel=n:=by omega
    have key:∀ m,m<=len->∃ ds c,ds.length=m/\xy P ds e/\(∀ x∈ds,x.sz=P.cellsOf e)/\D.rds w ds (Old No w) c/\c.length=m*P.cellsOf e/\∀ j u,c[j]?=some u->w.cell? (a.add j)=some u:=by
     intro m
     induction m with
     | zero=>intro _; exact ⟨[],[],rfl,trivial,by simp,rfl,by simp,by simp⟩
     | succ m ihm =>
      intro hle
      obtain ⟨ds,c,k1,k2,k3,k4,k5,k6⟩:=ihm (by omega)
      have hi:=hel m (by omega)
      have hs:∃ y,elems[m]?=some y:=⟨_,List.getElem?_eq_getElem (by omega)⟩
      obtain ⟨y,hy⟩:=hs
      rw [hy,Option.bind_eq_some_iff] at hi
      obtain ⟨ci,hci,hyi⟩:=hi
      obtain ⟨d,g1,g2,g3⟩:=ih he hyi
      obtain ⟨_,q2,q3⟩:=World.cells?_some hci
      refine ⟨ds++[d],c++ci,by simp [k1],k2.append ⟨g1,trivial⟩,λx hx=>?_,wW k4 ⟨ci,[],by simp,D.rd_length g2,g2,rfl⟩,by rw [List.length_append,k5,q2,Nat.add_mul]; omega,λj u hj=>?_⟩
      ·rcases List.mem_append.1 hx with hx | hx
       ·exact k3 x hx
       ·rw [List.mem_singleton.1 hx]; exact g3
      ·rcases Nat.lt_or_ge j c.length with hj' | hj'
       ·rw [List.getElem?_append_left hj'] at hj; exact k6 j u hj
       ·rw [List.getElem?_append_right hj'] at hj
        have hlt:j-c.length<P.cellsOf e:=by
         rcases Nat.lt_or_ge (j-c.length) ci.length with h | h
         ·omega
         ·rw [List.getElem?_eq_none h] at hj; cases hj
        have:=q3 _ hlt
        rw [hj,Addr.add_add,<-k5] at this
        rw [show c.length+(j-c.length)=j by omega] at this
        exact this
    obtain ⟨ds,c,k1,k2,k3,k4,k5,k6⟩:=key len (Nat.le_refl _)
    refine ⟨.row e (P.cellsOf e) ds,⟨hu,rfl,k2⟩,⟨some a,cap,c,by rw [k1],by omega,by omega,k3,λhne=>⟨a,rfl,?_,k6⟩,k4⟩,hc1⟩
    have hpos:0<c.length:=by
     rw [k5,<-k1]
     exact Nat.mul_pos (List.length_pos_iff.2 hne) (by omega)
    have h6:=k6 0 _ (List.getElem?_eq_getElem hpos)
    simp only [Addr.add,if_true] at h6
    exact yn h6
  ·rename_i fs hu
   simp only [Bool.and_eq_true] at hok
   obtain ⟨h1,h2⟩:=hok
   split at h1
   ·rename_i tot hcg
    obtain rfl:=Nat.eq_of_beq_eq_true h1
    obtain ⟨xs,n,hn,_,hlen,hxl,hf⟩:=DataW.trod_struct hu h
    obtain rfl:fuel=n:=by omega
    have key:∀ (gs:List Field) (o:Nat),(∀ f∈gs,f.type∈ts/\∃ y,DataW.trod en P w base spare held fuel f.type ((cs.drop f.offset).take (P.cellsOf f.type))=some y)->pp P gs o=some (P.cellsOf t) ->
      ∃ ds,D2 P ds (gs.map (·.type))/\D.rds w ds (Old No w) (cs.drop o)/\o+D.szs ds=P.cellsOf t:=by
     intro gs
     induction gs with
     | nil =>
      intro o _ hc
      simp only [pp,Option.some.injEq] at hc
      subst hc
      exact ⟨[],trivial,by rw [<-hlen,List.drop_length]; rfl,rfl⟩
     | cons f gs ihg =>
      intro o hall hc
      simp only [pp] at hc
      split at hc
      ·rename_i ho
       have ho':=Nat.eq_of_beq_eq_true ho
       obtain ⟨hft,y,hy⟩:=hall f (by simp)
       obtain ⟨d,g1,g2,g3⟩:=ih hft hy
       obtain ⟨ds,q1,q2,q3⟩:=ihg _ (λg hg=>hall g (by simp [hg])) hc
       rw [ho'] at g2
       refine ⟨d::ds,⟨g1,q1⟩,⟨_,_,?_,D.rd_length g2,g2,q2⟩,?_⟩
       ·rw [<-List.drop_drop,List.take_append_drop]
       ·simp only [D.szs,g3]; omega
      ·cases hc
    obtain ⟨ds,q1,q2,q3⟩:=key fs.toList 0 (λf hf'=>⟨by have:=List.all_eq_true.1 h2 f hf'; simpa using this,by
      obtain ⟨i,hi⟩:=List.getElem?_of_mem hf'
      have hi':fs[i]?=some f:=by simpa using hi
      have hlt:i<xs.length:=by
       have:=(List.getElem?_eq_some_iff.1 hi).1
       rw [hxl]
       simpa using this
      exact ⟨_,(hf i f hi').trans (List.getElem?_eq_getElem hlt)⟩⟩) hcg
    exact ⟨.agg ds,⟨_,by simp only [AA,hu],q1⟩,q2,by simp only [D.sz]; omega⟩
   ·cases h1
  ·cases hok
def Dec (P:Program) (t:TypeId) (enc:α->D) (Wf:α->Prop):Prop:=∀ d,Typ P d t->∃ x,d=enc x/\Wf x
theorem Dec.int (hu:P.underlying t=some (.int k)):Dec P t (D.int k) (λn=>(Lit.int k n).wf=true):=by
 intro d h
 cases d with
 | int k' n =>
  obtain ⟨h1,h2⟩:=h
  rw [hu] at h1
  injection h1 with h1
  injection h1 with h1
  subst h1
  exact ⟨n,rfl,h2⟩
 | bool b=>rw [show P.underlying t=some .bool from h] at hu; cases hu
 | str s=>rw [show P.underlying t=some .string from h.1] at hu; cases hu
 | row e s xs=>rw [h.1] at hu; cases hu
 | agg xs=>obtain ⟨ts,h1,_⟩:=h; simp [AA,hu] at h1
theorem Dec.bool (hu:P.underlying t=some .bool):Dec P t D.bool (λ_=>True):=by
 intro d h
 cases d with
 | bool b=>exact ⟨b,rfl,trivial⟩
 | int k' n=>rw [h.1] at hu; cases hu
 | str s=>rw [show P.underlying t=some .string from h.1] at hu; cases hu
 | row e s xs=>rw [h.1] at hu; cases hu
 | agg xs=>obtain ⟨ts,h1,_⟩:=h; simp [AA,hu] at h1
theorem Dec.str (hu:P.underlying t=some .string):Dec P t D.str (λs=>s.size<=maxLen):=by
 intro d h
 cases d with
 | str s=>exact ⟨s,rfl,h.2⟩
 | bool b=>rw [show P.underlying t=some .bool from h] at hu; cases hu
 | int k' n=>rw [h.1] at hu; cases hu
 | row e s xs=>rw [h.1] at hu; cases hu
 | agg xs=>obtain ⟨ts,h1,_⟩:=h; simp [AA,hu] at h1
theorem Dec.list {Wf:α->Prop} (h:Dec P e enc Wf):∀ {xs:List D},xy P xs e->∃ l:List α,xs=l.map enc/\∀ x∈l,Wf x
 | [],_=>⟨[],rfl,by simp⟩
 | d::xs,⟨h1,h2⟩=>by
  obtain ⟨x,rfl,hx⟩:=h d h1
  obtain ⟨l,rfl,hl⟩:=Dec.list h h2
  exact ⟨x::l,rfl,λy hy=>(List.mem_cons.1 hy).elim (λe=>e▸hx) (hl y)⟩
theorem Dec.slice {Wf:α->Prop} (hu:P.underlying t=some (.slice e)) (hc:P.cellsOf e=size) (h:Dec P e enc Wf):Dec P t (λ(l:List α)=>D.row e size (l.map enc)) (λl=>∀ x∈l,Wf x):=by
 intro d hd
 cases d with
 | row e' s xs =>
  obtain ⟨h1,h2,h3⟩:=hd
  rw [hu] at h1
  injection h1 with h1
  injection h1 with h1
  subst h1
  obtain ⟨l,rfl,hl⟩:=h.list h3
  exact ⟨l,by rw [h2,hc],hl⟩
 | bool b=>rw [show P.underlying t=some .bool from hd] at hu; cases hu
 | int k' n=>rw [hd.1] at hu; cases hu
 | str s=>rw [show P.underlying t=some .string from hd.1] at hu; cases hu
 | agg xs=>obtain ⟨ts,h1,_⟩:=hd; simp [AA,hu] at h1
end
noncomputable section
variable {P:Program} {w:World} {T:Nat->Prop} {t e:TypeId} {size:Nat} {k:IntKind} {α:Type} {H:Type} {en:TypeId×Value->H} {base:Nat} {spare:Nat->Bool} {held:Bool}
def nK:DataW H->List Value
 | .lit (.int k n)=>[.int k n]
 | .lit (.bool b)=>[.bool b]
 | .lit (.string s)=>[.string ⟨s.toArray⟩]
 | .agg ds=>dcellsL ds
 | _=>[]
where dcellsL:List (DataW H)->List Value
 | []=>[]
 | d::r=>nK d++dcellsL r
theorem qm {γ:Type} (f:γ->DataW H):∀ {xs:List γ},nK.dcellsL (xs.map f)=(xs.map λx=>nK (f x)).flatten
 | []=>rfl
 | x::xs=>by simp only [List.map_cons,nK.dcellsL,List.flatten_cons,qm f]
def okF (P:Program) (ts:List TypeId) (t:TypeId):Bool:=match P.underlying t with
 | some (.int _) | some .bool | some .string=>Nat.beq (P.cellsOf t) 1
 | some (.array n e)=>Nat.beq (P.cellsOf t) (n*P.cellsOf e)&&ts.contains e
 | some (.struct fs)=>(match pp P fs.toList 0 with
  | some n=>Nat.beq n (P.cellsOf t)
  | none=>false)&&fs.toList.all (λf=>ts.contains f.type)
 | _=>false
theorem zf {ts:List TypeId} (hts:ts.all (okF P ts)=true):∀ {fuel:Nat} {t:TypeId} {cs:List Value} {x:DataW H×List MemPlace},t∈ts->DataW.trod en P w base spare held fuel t cs=some x->cs=nK x.1/\cs.length=P.cellsOf t:=by
 intro fuel
 induction fuel with
 | zero=>intro t cs x _ h; simp [DataW.trod] at h
 | succ fuel ih =>
  intro t cs x ht h
  have hok:=List.all_eq_true.1 hts t ht
  unfold okF at hok
  split at hok
  ·rename_i k hu
   obtain ⟨n,rfl,rfl,hw⟩:=DataW.trod_int hu h
   exact ⟨rfl,(Nat.eq_of_beq_eq_true hok).symm⟩
  ·rename_i hu
   obtain ⟨b,rfl,rfl⟩:=DataW.trod_bool hu h
   exact ⟨rfl,(Nat.eq_of_beq_eq_true hok).symm⟩
  ·rename_i hu
   obtain ⟨s,rfl,rfl,hs⟩:=DataW.trod_string hu h
   exact ⟨by simp [nK],(Nat.eq_of_beq_eq_true hok).symm⟩
  ·rename_i n e hu
   simp only [Bool.and_eq_true] at hok
   obtain ⟨h1,h2⟩:=hok
   have he:e∈ts:=by simpa using h2
   have h1':=Nat.eq_of_beq_eq_true h1
   obtain ⟨xs,m,hn,rfl,hlen,hxl,hel⟩:=DataW.trod_array hu h
   obtain rfl:fuel=m:=by omega
   refine ⟨?_,hlen⟩
   have key:∀ j,j<=n->cs.take (j*P.cellsOf e)=((xs.take j).map λy=>nK y.1).flatten:=by
    intro j
    induction j with
    | zero=>intro _; simp
    | succ j ihj =>
     intro hj
     have hi:=hel j (by omega)
     have hlt:j<xs.length:=by omega
     rw [List.getElem?_eq_getElem hlt] at hi
     obtain ⟨g1,g2⟩:=ih he hi
     rw [<-List.take_append_getElem hlt,List.map_append,List.flatten_append,<-ihj (by omega)]
     simp only [List.map_cons,List.map_nil,List.flatten_cons,List.flatten_nil,List.append_nil]
     rw [<-g1,Nat.add_mul,Nat.one_mul,List.take_add]
   have:=key n (Nat.le_refl _)
   rw [List.take_of_length_le (by omega),List.take_of_length_le (by omega)] at this
   rw [this]
   show _=nK.dcellsL (xs.map (·.1))
   rw [qm]
  ·rename_i fs hu
   simp only [Bool.and_eq_true] at hok
   obtain ⟨h1,h2⟩:=hok
   split at h1
   ·rename_i tot hcg
    obtain rfl:=Nat.eq_of_beq_eq_true h1
    obtain ⟨xs,n,hn,rfl,hlen,hxl,hf⟩:=DataW.trod_struct hu h
    obtain rfl:fuel=n:=by omega
    refine ⟨?_,hlen⟩
    have key:∀ (gs:List Field) (o i:Nat),(∀ j f,gs[j]?=some f->fs[i+j]?=some f/\f.type∈ts)->i+gs.length=xs.length->pp P gs o=some (P.cellsOf t)->cs.drop o=((xs.drop i).map λy=>nK y.1).flatten:=by
     intro gs
     induction gs with
     | nil =>
      intro o i _ hlen2 hc
      simp only [pp,Option.some.injEq] at hc
      simp only [List.length_nil,Nat.add_zero] at hlen2
      rw [hc,<-hlen,List.drop_length,hlen2,List.drop_length]
      rfl
     | cons f gs ihg =>
      intro o i hall hlen2 hc
      simp only [pp] at hc
      split at hc
      ·rename_i ho
       have ho':=Nat.eq_of_beq_eq_true ho
       obtain ⟨hf0,hft⟩:=hall 0 f rfl
       have hi:=hf i f (by simpa using hf0)
       have hlt:i<xs.length:=by simp only [List.length_cons] at hlen2; omega
       rw [List.getElem?_eq_getElem hlt,ho'] at hi
       obtain ⟨g1,g2⟩:=ih hft hi
       have hr:=ihg (o+P.cellsOf f.type) (i+1) (λj f' hj=>by
        have:=hall (j+1) f' (by simpa using hj)
        rwa [show i+(j+1)=i+1+j by omega] at this) (by simp only [List.length_cons] at hlen2; omega) hc
       rw [List.drop_eq_getElem_cons hlt,List.map_cons,List.flatten_cons,<-g1,<-hr,<-List.drop_drop,List.take_append_drop]
      ·cases hc
    have:=key fs.toList 0 0 (λj f hj=>⟨by simpa using hj,by
     have:=List.all_eq_true.1 h2 f (List.mem_of_getElem? hj)
     simpa using this⟩) (by simp [hxl]) hcg
    simp only [List.drop_zero] at this
    rw [this]
    show _=nK.dcellsL (xs.map (·.1))
    rw [qm]
   ·cases h1
  ·cases hok
theorem yo {f:α->List Value} (hs:∀ x,(f x).length=size):∀ {l:List α} {i j:Nat} {x:α} {u:Value},l[i]?=some x->(f x)[j]?=some u->((l.map f).flatten)[i*size+j]?=some u
 | [],i,j,x,u,h,_=>by simp at h
 | y::ys,0,j,x,u,h,hu=>by
  have:y=x:=by simpa using h
  subst this
  have hlt:j<(f y).length:=by
   rcases Nat.lt_or_ge j (f y).length with h | h
   ·exact h
   ·rw [List.getElem?_eq_none h] at hu; cases hu
  simp only [List.map_cons,List.flatten_cons,Nat.zero_mul,Nat.zero_add]
  rw [List.getElem?_append_left hlt]
  exact hu
 | y::ys,i+1,j,x,u,h,hu=>by
  have ih:=yo hs (l:=ys) (i:=i) (j:=j) (by simpa using h) hu
  simp only [List.map_cons,List.flatten_cons]
  rw [List.getElem?_append_right (by rw [hs,Nat.add_mul]; omega),hs]
  rw [show (i+1)*size+j-size=i*size+j by rw [Nat.add_mul]; omega]
  exact ih
theorem xz {g:Nat} {f:α->List Value} {l:List α} {cs:Array Value} (hs:∀ x,(f x).length=size) (hc:cs.toList=(l.map f).flatten) (hv:∀ j,w.cell? ⟨g,j,none⟩=cs[j]?) (h0:Nat.ble 1 ((l.map f).flatten).length=true):Tab g size f l w:=
 have h1:0<cs.size:=by
  have h1:=Nat.le_of_ble_eq_true h0
  rw [<-hc,Array.length_toList] at h1
  omega
 ⟨World.block_lt_of_cell? w ⟨g,0,none⟩ ((hv 0).trans (Array.getElem?_eq_getElem h1)),λi x hx j v hj=>by
  rw [hv]
  have:=yo hs hx hj
  rw [<-hc] at this
  simpa using this⟩
theorem pu {ts:List TypeId} (hts:ts.all (okF P ts)=true) {n:String} {d:DataW Unit} {r:List (String×DataW Unit)} {ps:List MemPlace} {g t:Nat} (hg:P.globalNamed n=some g) (ht:(P.globals[g]?).map (·.type)=some t) (hm:t∈ts)
  (h:DataW.LaidVars P w ((n,d)::r) ps):∃ cs:Array Value,cs.toList=nK d/\(∀ j,w.cell? ⟨g,j,none⟩=cs[j]?)/\∃ qs,DataW.LaidVars P w r qs:=by
 obtain ⟨g',t',cs,fuel,p,q,h1,h2,h3,h4,h5,_⟩:=h
 obtain rfl:=o9 (hg.symm.trans h1)
 obtain rfl:=o9 (ht.symm.trans h2)
 exact ⟨cs,(zf hts hm h4).1,λj=>World.var?_cell hg h3 j,q,h5⟩
end

end Go.Proofs.YtgcmopfhafoabaaGreatDoor.X
