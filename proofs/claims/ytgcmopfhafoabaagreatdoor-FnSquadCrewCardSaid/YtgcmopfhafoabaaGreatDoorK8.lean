/- Printed by a program of mine: that the program's functions compute it. What a row says of its arguments, in the program logic's words: data types in general. Wh -/
import Derived.Test.YtgcmopfhafoabaaGreatDoorK7
import Derived.RowKit
import Derived.ChangeSlices
import Derived.ChangeArms
import Derived.WideShapes
import Derived.OpenShut
import Derived.LaidMore
import Derived.LaidLaws
import GoSem.ClaimJoined
set_option linter.unusedVariables false
set_option linter.unusedSimpArgs false
set_option maxRecDepth 100000
set_option maxHeartbeats 4000000
namespace Go.Proofs.YtgcmopfhafoabaaGreatDoor.N
open Go.Proofs.YtgcmopfhafoabaaGreatDoor.X
open T Tryz
noncomputable section
theorem sU {a0:cD} {a1:cD} {ba:Hd} {aQ:Hd} {aM:Hd} {be:Hd} {bX:Hd} {aL:Hd} {aI:Hd} {bZ:Hd} {w:World} {r:Bool} (h:lB a0 a1=some r) (a9:RO w ba 78 1 (λ(l:List ah)=>D.row 102 5 (l.map ay)) a0.Codes) (az:RO w aQ 60 2 aW a0.Threads) (cg:RO w aM 95 2 bp a0.Boxes) (cW:RO w be 3 1 (D.int .i64) a0.Out) (bE:RO w bX 78 1 (λ(l:List ah)=>D.row 102 5 (l.map ay)) a1.Codes) (cU:RO w aL 60 2 aW a1.Threads) (pg:RO w aI 95 2 bp a1.Boxes) (pG:RO w bZ 3 1 (D.int .i64) a1.Out):CL 48 #[.agg #[sv ba,sv aQ,sv aM,vi a0.Turn,vi a0.Idle,sv be],.agg #[sv bX,sv aL,sv aI,vi a1.Turn,vi a1.Idle,sv bZ]] w (RU w (.bool r)):=by
 unfold lB at h
 refine ar func48 z z ?_
 have s:=Sep.start w
 refine .g (.c (.box s z z ?_))
 intro g1 W s
 refine .c (.box s z z ?_)
 intro g2 W s
 refine .qn z (.seq (.g (.s (fa f42_1 z z z) z (.s (ld t39 s.p1 z z z z z) z (.s (aZ (s.keep az) u39 z z) z (.s (fa f42_1 z z z) z (.s (ld t39 s z z z z z) z (.s (aZ (s.keep cU) u39 z z) z (.q z (.nil ?_))))))))))
 refine .cs z h ?_ ?_ <;> intro h
 ·obtain rfl:=o9 h
  exact .g (.qn z (.ret (ac () (rt z rn) z (s.to []))))
 refine .skip (.seq (.g (.qn z (.block (bv h λy1 hy1 h=>?_)))))
 refine .via (.iter (λs1 E' W'=>aB E' [(2,Pt g1),(3,Pt g2),(5,vi s1)]/\Sep No w W' [.box g2 42 [sv bX,sv aL,sv aI,vi a1.Turn,vi a1.Idle,sv bZ],.box g1 42 [sv ba,sv aQ,sv aM,vi a0.Turn,vi a0.Idle,sv be]]) (λy2 x E' W'=>(match y2 with | .inl o1=>x=.ret/\uq w o1 E' W' | .inr o2=>x=.exit 0/\aB E' [(2,Pt g1),(3,Pt g2)]/\Sep No w W' [.box g2 42 [sv bX,sv aL,sv aI,vi a1.Turn,vi a1.Idle,sv bZ],.box g1 42 [sv ba,sv aQ,sv aM,vi a0.Turn,vi a0.Idle,sv be]])) hy1 ⟨sb rfl,s.to [0,0] rfl⟩ ?_) ?_
 ·intro s1 y3 E W h hI
  obtain ⟨hE,s⟩:=hI
  refine CW.sub hE ?_
  unfold fZ at h
  refine .seq (.g (.q z (.s (fa f42_1 z z z) z (.s (ld t39 s.p1 z z z z z) z (.s (aZ (s.keep az) u39 z z) z (.q z (.nil ?_)))))))
  refine .cs z h ?_ ?_ <;> intro h
  ·refine .skip (.seq (.block (.seq (.rk 12 s [0,0] T.mix ?_))))
   intro W s
   have t:=s.to [0,0]
   refine .ts' 0 z (λW t=>fa f42_1 z z z) t z (.ts' 1 z (λW t=>ld t39 t.p1 z z z z z) t z (.tp' 2 z z t (bv h λx1 hx1 h=>?_)))
   obtain ⟨k1,hd,hck1⟩:=RV.el2 az hx1
   have hd1:=pV hd
   obtain ⟨v1,k1,rfl,q1,hd2⟩:=cQ az hd1
   obtain ⟨k1,rfl,hd3⟩:=dA az z hd2
   obtain rfl:=gi az hd3
   refine .ts' 3 z (λW t=>ixv (s.keep az) hx1 u39 t60 z z z) t z (.ts' 4 z (λW t=>lde (hck1 _ t.agree) t60 z z z z z) t z (.ts' 5 z (λW t=>fa f42_1 z z z) t z (.ts' 6 z (λW t=>ld t39 t z z z z z) t z (.tp' 7 z z t (bv h λx2 hx2 h=>?_)))))
   obtain ⟨k2,hd,hck2⟩:=RV.el2 cU hx2
   have hd1:=pV hd
   obtain ⟨v2,k2,rfl,q2,hd2⟩:=cQ cU hd1
   obtain ⟨k2,rfl,hd3⟩:=dA cU z hd2
   obtain rfl:=gi cU hd3
   refine .ts' 8 z (λW t=>ixv (s.keep cU) hx2 u39 t60 z z z) t z (.ts' 9 z (λW t=>lde (hck2 _ t.agree) t60 z z z z z) t z (bv h λy4 hy4 h=>.by1 10 z (.cO s func93 (rY hy4 (s.keep (q1 _ az)) (s.keep (q2 _ cU))) z z ?_)))
   intro W s
   refine s.an [0,0] λt=>.tp' 11 z z t (.done ?_)
   refine .cs z h ?_ ?_ <;> intro h
   ·refine .g (.qn z (.ret ?_))
    cases h
    exact ⟨by simp,z,ac (vs:=[_]) () (rt z rn) z (s.to [])⟩
   refine .skip (.region (.q z (.q z (.q z (.nil ?_)))))
   cases h
   exact ⟨z,sb z,s.to [0,0]⟩
  refine .exit ?_
  cases h
  exact ⟨by simp,z,sb z,s.to [0,0]⟩
 intro x E W hJ
 rcases y1 with o3 | o4
 ·obtain ⟨rfl,hF⟩:=hJ
  refine ⟨_,λ_ _ h=>h,?_⟩
  cases h
  exact hF
 obtain ⟨rfl,hE,s⟩:=hJ
 refine ⟨_,hE.sub,?_⟩
 refine .g (.s (ld t42 s.p1 z z z z z) z (.s (ld t42 s z z z z z) z (bv h λy5 hy5 h=>.c (.cO s func94 (uo hy5 (s.keep a9) (s.keep az) (s.keep cg) (s.keep cW) (s.keep bE) (s.keep cU) (s.keep pg) (s.keep pG)) z z ?_))))
 intro W s
 obtain rfl:=o9 h
 exact .qn z (.ret (ac () (rt z rn) z (s.to [])))
theorem ph {a0:cD} {a1:cD} {ba:Hd} {aQ:Hd} {aM:Hd} {be:Hd} {bX:Hd} {aL:Hd} {aI:Hd} {bZ:Hd} {w:World} {r:Bool} (h:eX a0 a1=some r) (a9:RO w ba 78 1 (λ(l:List ah)=>D.row 102 5 (l.map ay)) a0.Codes) (az:RO w aQ 60 2 aW a0.Threads) (cg:RO w aM 95 2 bp a0.Boxes) (cW:RO w be 3 1 (D.int .i64) a0.Out) (bE:RO w bX 78 1 (λ(l:List ah)=>D.row 102 5 (l.map ay)) a1.Codes) (cU:RO w aL 60 2 aW a1.Threads) (pg:RO w aI 95 2 bp a1.Boxes) (pG:RO w bZ 3 1 (D.int .i64) a1.Out):CL 19 #[.agg #[sv ba,sv aQ,sv aM,vi a0.Turn,vi a0.Idle,sv be],.agg #[sv bX,sv aL,sv aI,vi a1.Turn,vi a1.Idle,sv bZ]] w (RU w (.bool r)):=by
 unfold eX at h
 refine ar func19 z z ?_
 have s:=Sep.start w
 refine .g (.c (.box s z z ?_))
 intro g1 W s
 refine .c (.box s z z ?_)
 intro g2 W s
 refine .qn z (.g (.s (fa f42_0 z z z) z (.s (ld t36 s.p1 z z z z z) z (.s (fa f42_0 z z z) z (.s (ld t36 s z z z z z) z (bv h λy1 hy1 h=>.c (.cO s func47 (sS hy1 (s.keep a9) (s.keep bE)) z z ?_)))))))
 intro W s
 refine .q z (bv h λb1 hb1 h=>.cu 4 14 (b1) s ?_ ?_)
 ·refine .both (y1) (λb=>?_) (λb=>?_)
  ·have hg1:=b
   have h:=aJ b hb1
   refine .g hg1 (.s (ld t42 s.p1 z z z z z) z (.g hg1 (.s (ld t42 s z z z z z) z (bv h λy2 hy2 h=>.g hg1 (.c (.cO s func48 (sU hy2 (s.keep a9) (s.keep az) (s.keep cg) (s.keep cW) (s.keep bE) (s.keep cU) (s.keep pg) (s.keep pG)) z z ?_))))))
   intro W s
   refine .s (pkt hg1 z z z) z ?_
   cases h
   exact .nil (ck 4 s)
  refine .xx b z (.xx b z (.xx b z ?_))
  cases aK b hb1
  exact .s (pkf b z z z) z (.nil (ck 4 s))
 intro W s
 obtain rfl:=o9 h
 exact .qn z (.ret (ac () (rt z rn) z (s.to [])))
theorem co {a0:cz} {a1:List Instr} {cZ:Hd} {g_0:Nat} {v_1:Hd} {S:Nat->Prop} {w:World} {r:(List Instr)} (h:bL a0 a1=some r) (q_1:RV w (Old S w) (sv v_1) 105 5 aP a1) (hO:bS w [ae (sv cZ) 105 5 aP a0.list,.box g_0 171 [vi a0.colors,sv cZ]] S) (hlt:∀ b,S b->b<w.heap.size):CL 149 #[Pt g_0,sv v_1] w (Ret S w (λs:Hd=>.tuple #[]) (λs=>[.box g_0 171 [vi a0.colors,sv s],ae (sv s) 105 5 aP r])):=by
 unfold bL at h
 refine ar func149 z z ?_
 have s:=Sep.sm hO hlt
 refine .region (.q z (.q z (.q z (.s (fa f171_1 z z z) z (.s (ld t66 s.p1 z z z z z) z (.q z (bv h λr1 hr1 h=>.c (.av hr1 s (s.keep q_1) (λ_=>z) u66 t105 z z z ?_))))))))
 intro v1 W s
 refine .q z (.s (fa f171_1 z z z) z (.c (.st t66 s.p1 z z z ?_)))
 intro W s
 obtain rfl:=o9 h
 exact .nil (ac (vs:=[]) v1 (rn) z (s.to [0,0]))
theorem fx {a0:cz} {a1:Int} {a2:Int->Option (List Instr)} {cZ:Hd} {g_0:Nat} {f_2:FuncId} {c_2:Array Value} {S:Nat->Prop} {w:World} {r:(List Instr)} (h:dg a0 a1 a2=some r) (n_2:EH Tryz.prog f_2) (k_2:∀ {W:World} {b0:Int} {r:List Instr},gn (Old S w) w W->Gl W->a2 b0=some r->CL f_2 (([vi b0]:List Value)++c_2.toList).toArray W (Ret No W (λs:Hd=>(sv s)) (λs=>[ae (sv s) 105 5 aP r]))) (hO:bS w [ae (sv cZ) 105 5 aP a0.list,.box g_0 171 [vi a0.colors,sv cZ]] S) (hlt:∀ b,S b->b<w.heap.size) (hG:Gl w) (hM:∀ g,g<NGl->¬ S g):CL 142 #[Pt g_0,vi a1,.func (.func f_2) #[] c_2] w (Ret S w (λs:Hd=>.tuple #[]) (λs=>[.box g_0 171 [vi a0.colors,sv s],ae (sv s) 105 5 aP r])):=by
 unfold dg at h
 refine ar func142 z z ?_
 have s:=Sep.sm hO hlt
 refine .seq (.g (.q z (.q z (.q z (.s (fa f171_0 z z z) z (.s (ld T.t3 s.p1 z z z z z) z (.qn z (.cond z (λb=>?_) (λb=>?_)))))))))
 ·have h:=aJ b h
  refine .g (.q z (.q z (.q z (bv h λx1 hx1 h=>.s (ixt hx1 z u193 T.t3 z z z) z (.s (ldt (hG.at s hM).2.2.2.2 hx1 T.t3 z z z z z) z (bv h λy1 hy1 h=>.c (.callv (vs:=[vi x1]) s n_2 (k_2 s.agree (hG.at s hM) hy1) z z z ?_)))))))
  intro v1 W s
  refine bv h λy2 hy2 h=>?_
  have s:=s.p2.p2
  refine .c (.cS (L0:=[ae (sv cZ) 105 5 aP a0.list,.box g_0 171 [vi a0.colors,sv cZ]]) s func149 (λS h1 h2 h3=>(co hy2 (h3.rdv (k:=0) z) h2 (zz h1))) z z ?_)
  rintro v2 W s
  obtain rfl:=o9 h
  exact .nil (.ret (ac (vs:=[]) v2 (rn) z (s.to [0,0])))
 have h:=aK b h
 refine .skip (.g (.q z (.q z (bv h λy3 hy3 h=>.c (.callv (vs:=[vi 7]) s n_2 (k_2 s.agree (hG.at s hM) hy3) z z z ?_)))))
 intro v3 W s
 refine bv h λy4 hy4 h=>?_
 have s:=s.p2.p2
 refine .c (.cS (L0:=[ae (sv cZ) 105 5 aP a0.list,.box g_0 171 [vi a0.colors,sv cZ]]) s func149 (λS h1 h2 h3=>(co hy4 (h3.rdv (k:=0) z) h2 (zz h1))) z z ?_)
 rintro v4 W s
 refine .nil (.region (.q z (.q z (.q z (.q z (.s (fa f171_0 z z z) z (.s (ld T.t3 s z z z z z) z (.q z (.q z (.s (bs T.s105 z z) z (.c (.liv [(Instr.mk 16 0 2 7 (w64 (4*(w64 (a1-a0.colors)))))] aP u66 t105 s z z z z ?_ z (λ_=>z)))))))))))))
 intro v5 W s
 refine bv h λy5 hy5 h=>?_
 have s:=s.p1.p2
 refine .c (.cS (L0:=[ae (sv v4) 105 5 aP y4,.box g_0 171 [vi a0.colors,sv v4]]) s func149 (λS h1 h2 h3=>(co hy5 (h3.rdv (k:=0) z) h2 (zz h1))) z z ?_)
 rintro v6 W s
 obtain rfl:=o9 h
 exact .nil (ac (vs:=[]) v6 (rn) z (s.to [0,0]))
theorem dR {a0:cz} {a1:Int} {a2:Int} {cZ:Hd} {g_0:Nat} {S:Nat->Prop} {w:World} {r:Int×(List Instr)} (h:cR a0 a1 a2=some r) (hO:bS w [ae (sv cZ) 105 5 aP a0.list,.box g_0 171 [vi a0.colors,sv cZ]] S) (hlt:∀ b,S b->b<w.heap.size) (hG:Gl w) (hM:∀ g,g<NGl->¬ S g):CL 145 #[Pt g_0,vi a1,vi a2] w (Ret S w (λs:Hd=>.int .i64 r.1) (λs=>[.box g_0 171 [vi a0.colors,sv s],ae (sv s) 105 5 aP r.2])):=by
 unfold cR at h
 refine ar func145 z z ?_
 have s:=Sep.sm hO hlt
 refine .g (.qn z (.seq (.g (.q z (.q z (.q z (.s (fa f171_0 z z z) z (.s (ld T.t3 s.p1 z z z z z) z (.qn z (.cond z (λb=>?_) (λb=>?_)))))))))))
 ·have h:=aJ b h
  refine .g (.q z (bv h λx1 hx1 h=>.s (ixt hx1 z u193 T.t3 z z z) z (.s (ldt (hG.at s hM).2.2.2.2 hx1 T.t3 z z z z z) z (.qn z (.ret ?_)))))
  cases h
  exact ac cZ (rt z rn) z (s.to [1,0])
 have h:=aK b h
 refine .skip (.g (.q z (.q z (.q z (.q z (.q z (.s (fa f171_0 z z z) z (.s (ld T.t3 s.p1 z z z z z) z (.q z (.q z (.s (bs T.s105 z z) z (.c (.liv [(Instr.mk 14 a2 2 0 (w64 (4*(w64 (a1-a0.colors)))))] aP u66 t105 s z z z z ?_ z (λ_=>z))))))))))))))
 intro v1 W s
 refine bv h λy1 hy1 h=>?_
 have s:=s.p2.p2
 refine .c (.cS (L0:=[ae (sv cZ) 105 5 aP a0.list,.box g_0 171 [vi a0.colors,sv cZ]]) s func149 (λS h1 h2 h3=>(co hy1 (h3.rdv (k:=0) z) h2 (zz h1))) z z ?_)
 rintro v2 W s
 cases h
 exact .nil (.g (.q z (.qn z (.ret (ac v2 (rt z rn) z (s.to [0,0]))))))
theorem mX {a0:cz} {a1:Int} {cZ:Hd} {g_0:Nat} {S:Nat->Prop} {w:World} {r:(List Instr)} (h:eE a0 a1=some r) (hO:bS w [ae (sv cZ) 105 5 aP a0.list,.box g_0 171 [vi a0.colors,sv cZ]] S) (hlt:∀ b,S b->b<w.heap.size):CL 148 #[Pt g_0,vi a1] w (Ret S w (λs:Hd=>.tuple #[]) (λs=>[.box g_0 171 [vi a0.colors,sv s],ae (sv s) 105 5 aP r])):=by
 unfold eE at h
 refine ar func148 z z ?_
 have s:=Sep.sm hO hlt
 refine .region (.q z (.q z (.q z (.q z (.s (fa f171_1 z z z) z (.s (ld t66 s.p1 z z z z z) z (.s (aZ s.lv u66 z z) z (.q z (.q z (.s (bs T.s105 z z) z (.c (.liv [(Instr.mk 20 0 0 0 (w64 (a1-(w64 (4*(a0.list.length:Int))))))] aP u66 t105 s z z z z ?_ z (λ_=>z)))))))))))))
 intro v1 W s
 refine bv h λy1 hy1 h=>?_
 have s:=s.p2.p2
 refine .c (.cS (L0:=[ae (sv cZ) 105 5 aP a0.list,.box g_0 171 [vi a0.colors,sv cZ]]) s func149 (λS h1 h2 h3=>(co hy1 (h3.rdv (k:=0) z) h2 (zz h1))) z z ?_)
 rintro v2 W s
 obtain rfl:=o9 h
 exact .nil (ac (vs:=[]) v2 (rn) z (s.to [0,0]))
theorem eC {a0:cz} {a1:Int} {cZ:Hd} {g_0:Nat} {S:Nat->Prop} {w:World} {r:(List Instr)} (h:c7 a0 a1=some r) (hO:bS w [ae (sv cZ) 105 5 aP a0.list,.box g_0 171 [vi a0.colors,sv cZ]] S) (hlt:∀ b,S b->b<w.heap.size):CL 150 #[Pt g_0,vi a1] w (Ret S w (λs:Hd=>.tuple #[]) (λs=>[.box g_0 171 [vi a0.colors,sv s],ae (sv s) 105 5 aP r])):=by
 unfold c7 at h
 refine ar func150 z z ?_
 have s:=Sep.sm hO hlt
 refine .region (.q z (.q z (bv h λy1 hy1 h=>.c (.cO s func64 (eV hy1) z z ?_))))
 intro W s
 refine .s (bs T.s105 z z) z (.c (.liv [y1,(Instr.mk 15 1 0 0 0)] aP u66 t105 s z z z z ?_ z (λ_=>z)))
 intro v1 W s
 refine bv h λy2 hy2 h=>?_
 have s:=s.p2.p2
 refine .c (.cS (L0:=[ae (sv cZ) 105 5 aP a0.list,.box g_0 171 [vi a0.colors,sv cZ]]) s func149 (λS h1 h2 h3=>(co hy2 (h3.rdv (k:=0) z) h2 (zz h1))) z z ?_)
 rintro v2 W s
 obtain rfl:=o9 h
 exact .nil (ac (vs:=[]) v2 (rn) z (s.to [0,0]))
theorem rh {a0:Int} {a1:Int} {w:World} {r:(List Instr)} (h:gK a0 a1=some r):CL 144 #[vi a0,vi a1] w (Ret No w (λs:Hd=>(sv s)) (λs=>[ae (sv s) 105 5 aP r])):=by
 unfold gK at h
 refine ar func144 z z ?_
 have s:=Sep.start w
 refine .g (.qn z (.seq (.g (.q z (.q z (.q z (.cu 3 12 ((decide (a1>=(-2048)))&&(decide (a1<=2047))) s ?_ ?_)))))))
 ·refine .both (decide (a1>=(-2048))) (λb=>?_) (λb=>?_)
  ·have hg1:=b
   exact .g hg1 (.q z (.g hg1 (.q z (.s (pkt hg1 z z z) z (.nil (ck 3 s z (bf hg1)))))))
  exact .xx b z (.xx b z (.s (pkf b z z z) z (.nil (ck 3 s z (bg b)))))
 intro W s
 refine .nil ?_
 refine .cs z h ?_ ?_ <;> intro h
 ·refine .g (.q z (.q z (bv h λy1 hy1 h=>.c (.cO s func64 (eV hy1) z z ?_))))
  intro W s
  refine .c (.liv [y1] aP u66 t105 s z z z z ?_ z (λ_=>z))
  intro v1 W s
  cases h
  exact .qn z (.ret (ac v1 (rt z rn) z (s.to [0])))
 refine .skip (.g (.q z (bv h λy2 hy2 h=>.c (.cO s func111 (fi hy2) z z ?_))))
 intro W s
 refine bv h λy3 hy3 h=>.c (.cO s func113 (bW hy3) z z ?_)
 intro W s
 refine bv h λy4 hy4 h=>.c (.cO s func181 (fv hy4) z z ?_)
 intro W s
 refine .qn z (.g (.q z (.q z (.q z (bv h λy5 hy5 h=>.c (.cO s func63 (da hy5) z z ?_))))))
 intro W s
 refine bv h λy6 hy6 h=>.c (.cO s func111 (fi hy6) z z ?_)
 intro W s
 refine bv h λy7 hy7 h=>.c (.cO s func113 (bW hy7) z z ?_)
 intro W s
 refine .qn z (.g (.q z (.q z (.s (bs T.s105 z z) z (.q z (.q z (.q z (bv h λy8 hy8 h=>.c (.cO s func64 (eV hy8) z z ?_)))))))))
 intro W s
 refine .c (.liv [(Instr.mk 19 a0 0 0 y7),y8] aP u66 t105 s z z z z ?_ z (λ_=>z))
 intro v2 W s
 cases h
 exact .qn z (.ret (ac v2 (rt z rn) z (s.to [0])))
theorem qy {a0:Int} {a1:ah} {g_1:Nat} {w:World} {r:(List Instr)} (h:iI a0 a1=some r) (b_1:BR w (Old No w) g_1 102 [vi a1.Op,vi a1.Dst,vi a1.A,vi a1.B,vi a1.N]):CL 143 #[vi a0,Pt g_1] w (Ret No w (λs:Hd=>(sv s)) (λs=>[ae (sv s) 105 5 aP r])):=by
 unfold iI at h
 refine ar func143 z z ?_
 have s:=Sep.start w
 refine .g (.qn z (.g (.q z (.s (fa f102_4 z z z) z (.s (ldb T.t3 (s.keepB b_1) z z z z z) z (bv h λy1 hy1 h=>.c (.cV s func144 (rh hy1) z z ?_)))))))
 intro v1 W s
 obtain rfl:=o9 h
 exact .qn z (.ret (ac v1 (rt z rn) z (s.to [0])))
theorem qz {a0:Int} {a1:Int} {g_1:Nat} {w:World} {r:(List Instr)} (h:iJ a0 a1=some r) (b_1:BR w (Old No w) g_1 3 [vi a1]):CL 146 #[vi a0,Pt g_1] w (Ret No w (λs:Hd=>(sv s)) (λs=>[ae (sv s) 105 5 aP r])):=by
 unfold iJ at h
 refine ar func146 z z ?_
 have s:=Sep.start w
 refine .g (.qn z (.g (.q z (.s (ldb T.t3 (s.keepB b_1) z z z z z) z (bv h λy1 hy1 h=>.c (.cO s func64 (eV hy1) z z ?_))))))
 intro W s
 refine .c (.liv [y1] aP u66 t105 s z z z z ?_ z (λ_=>z))
 intro v1 W s
 cases h
 exact .qn z (.ret (ac v1 (rt z rn) z (s.to [0])))
theorem qA {a0:Int} {a1:ah} {a2:Int} {a3:Int} {g_1:Nat} {g_2:Nat} {g_3:Nat} {w:World} {r:(List Instr)} (h:iK a0 a1 a2 a3=some r) (b_1:BR w (Old No w) g_1 102 [vi a1.Op,vi a1.Dst,vi a1.A,vi a1.B,vi a1.N]) (b_2:BR w (Old No w) g_2 3 [vi a2]) (b_3:BR w (Old No w) g_3 3 [vi a3]) (hG:Gl w):CL 147 #[vi a0,Pt g_1,Pt g_2,Pt g_3] w (Ret No w (λs:Hd=>(sv s)) (λs=>[ae (sv s) 105 5 aP r])):=by
 unfold iK at h
 refine ar func147 z z ?_
 have s:=Sep.start w
 refine .g (.qn z (.seq (.rk 11 s [] T.mix ?_)))
 intro W s
 have t:=s.to []
 refine .ts' 0 z (λW t=>fa f102_4 z z z) t z (.ts' 1 z (λW t=>ldb T.t3 (t.keepB b_1) z z z z z) t z (.tp' 2 z z t (bv h λx1 hx1 h=>.ts' 3 z (λW t=>ixt hx1 z u176 T.t3 z z z) t z (.ts' 4 z (λW t=>ldt (hG.at t (λ_ _ h=>h)).2.2.2.1 hx1 T.t3 z z z z z) t z (.tp' 5 z z t (.ts' 6 z (λW t=>ldb T.t3 (t.keepB b_2) z z z z z) t z (.ts' 7 z (λW t=>ldb T.t3 (t.keepB b_3) z z z z z) t z (.ts' 8 z (λW t=>bs T.s105 z z) t z (.by1 9 z (.liv [(Instr.mk x1 a0 a2 a3 0)] aP u66 t105 s z z z z ?_ z (λ_=>z)))))))))))
 intro v1 W s
 refine s.an [] λt=>.tp' 10 z z t (.done (.seq (.g (.s (fa f102_4 z z z) z (.s (ldb T.t3 (s.keepB b_1) z z z z z) z (.q z (.nil ?_)))))))
 refine .cs z h ?_ ?_ <;> intro h
 ·refine .region (.q z (.q z (.q z (.s (bs T.s105 z z) z (.c (.liv [(Instr.mk 13 a0 a0 0 1)] aP u66 t105 s z z z z ?_ z (λ_=>z)))))))
  intro v2 W s
  refine bv h λr1 hr1 h=>?_
  have hT0:=s.p1
  refine .c (.av hr1 hT0 hT0.p1.lv (λ_=>z) u66 t105 z z z ?_)
  intro v3 W s
  obtain rfl:=o9 h
  exact .qn z (.g (.q z (.qn z (.ret (ac v3 (rt z rn) z (s.to [0]))))))
 cases h
 exact .skip (.g (.q z (.qn z (.ret (ac v1 (rt z rn) z (s.to [0]))))))
theorem qB {a0:Int} {w:World} {r:(List Instr)} (h:iL a0=some r):CL 151 #[vi a0] w (Ret No w (λs:Hd=>(sv s)) (λs=>[ae (sv s) 105 5 aP r])):=by
 unfold iL at h
 refine ar func151 z z ?_
 have s:=Sep.start w
 refine .g (.qn z (.g (.q z (bv h λy1 hy1 h=>.c (.cO s func64 (eV hy1) z z ?_)))))
 intro W s
 refine .c (.liv [y1] aP u66 t105 s z z z z ?_ z (λ_=>z))
 intro v1 W s
 cases h
 exact .qn z (.ret (ac v1 (rt z rn) z (s.to [0])))
theorem nW {a0:ah} {a1:Int} {a2:Int} {w:World} {r:(List Instr)} (h:fG a0 a1 a2=some r) (hG:Gl w):CL 97 #[.agg #[vi a0.Op,vi a0.Dst,vi a0.A,vi a0.B,vi a0.N],vi a1,vi a2] w (Ret No w (λs:Hd=>(sv s)) (λs=>[ae (sv s) 105 5 aP r])):=by
 unfold fG at h
 refine ar func97 z z ?_
 have s:=Sep.start w
 refine .g (.c (.box s z z ?_))
 intro g1 W s
 refine .qn z (.g (.q z (.s (bs T.s171 z z) z (.c (.box s z z ?_)))))
 intro g2 W s
 refine .qn z (bv h λy1 hy1 h=>?_)
 refine .seq (CW.via (R':=λx E' W'=>x=.normal/\∃ (v1:Hd),aB E' [(7,Pt g2)]/\Sep No w W' [.box g2 171 [vi a1,sv v1],.box g1 102 [vi a0.Op,vi a0.Dst,vi a0.A,vi a0.B,vi a0.N],ae (sv v1) 105 5 aP y1]) ?_ ?_)
 ·have h:=hy1
  refine .g (.s (fa f102_0 z z z) z (.s (ld T.t3 s.p1 z z z z z) z (.nil (.block (.g (.q z (.qn z (.cond z (λb=>?_) (λb=>?_)))))))))
  ·have h:=aJ b h
   refine .region (.q z (.s (fa f102_1 z z z) z (.s (ld T.t3 s.p1 z z z z z) z (.s (mf z z) z ?_))))
   have s:=s.nilv 105 5 aP
   refine bv h λy2 hy2 h=>?_
   have s:=s.p1.p1
   refine .c (.cS (L0:=[ae (sv aw) 105 5 aP [],.box g2 171 [vi a1,sv aw]]) s func142 (λS h1 h2 h3=>(fx hy2 ⟨_,func143,z,by kernel_rfl⟩ (λhA hg h=>qy h ((h3.boxS (k:=0) z).agree hA)) h2 (zz h1) (hG.at s (λ_ _ h=>h)) (hG.noS (λ_ _ h=>h) h1))) z z ?_)
   rintro v2 W s
   refine .nil ?_
   obtain rfl:=o9 h
   exact ⟨z,v2,sb z,s.to [0,1,0]⟩
  have h:=aK b h
  refine .g (.q z (.qn z (.cond z (λb=>?_) (λb=>?_))))
  ·have h:=aJ b h
   refine .g (.q z (.s (fa f102_2 z z z) z (.s (ld T.t3 s.p1 z z z z z) z ?_)))
   have s:=s.nilv 105 5 aP
   refine bv h λy3 hy3 h=>?_
   have s:=s.p1.p1
   refine .c (.cS (L0:=[ae (sv aw) 105 5 aP [],.box g2 171 [vi a1,sv aw]]) s func145 (λS h1 h2 h3=>(dR hy3 h2 (zz h1) (hG.at s (λ_ _ h=>h)) (hG.noS (λ_ _ h=>h) h1))) z z ?_)
   rintro v3 W s
   refine .c (.alloc T.t3 s ?_)
   intro g3 W s
   refine .c (.st T.t3 s z z z ?_)
   intro W s
   refine .nil (.region (.q z (.s (fa f102_1 z z z) z (.s (ld T.t3 s.p3 z z z z z) z (.s (mf z z) z (bv h λy4 hy4 h=>?_))))))
   have s:=s.p1.p2
   refine .c (.cS (L0:=[ae (sv v3) 105 5 aP y3.2,.box g2 171 [vi a1,sv v3]]) s func142 (λS h1 h2 h3=>(fx hy4 ⟨_,func146,z,by kernel_rfl⟩ (λhA hg h=>qz h ((h3.boxS (k:=0) z).agree hA)) h2 (zz h1) (hG.at s (λ_ _ h=>h)) (hG.noS (λ_ _ h=>h) h1))) z z ?_)
   rintro v4 W s
   refine .nil ?_
   obtain rfl:=o9 h
   exact ⟨z,v4,sb z,s.to [0,2,0]⟩
  have h:=aK b h
  refine .g (.q z (.qn z (.cond z (λb=>?_) (λb=>?_))))
  ·have h:=aJ b h
   refine .g (.q z (.s (fa f102_2 z z z) z (.s (ld T.t3 s.p1 z z z z z) z ?_)))
   have s:=s.nilv 105 5 aP
   refine bv h λy5 hy5 h=>?_
   have s:=s.p1.p1
   refine .c (.cS (L0:=[ae (sv aw) 105 5 aP [],.box g2 171 [vi a1,sv aw]]) s func145 (λS h1 h2 h3=>(dR hy5 h2 (zz h1) (hG.at s (λ_ _ h=>h)) (hG.noS (λ_ _ h=>h) h1))) z z ?_)
   rintro v5 W s
   refine .c (.alloc T.t3 s ?_)
   intro g4 W s
   refine .c (.st T.t3 s z z z ?_)
   intro W s
   refine .nil (.g (.q z (.s (fa f102_3 z z z) z (.s (ld T.t3 s.p3 z z z z z) z (bv h λy6 hy6 h=>?_)))))
   have s:=s.p1.p2
   refine .c (.cS (L0:=[ae (sv v5) 105 5 aP y5.2,.box g2 171 [vi a1,sv v5]]) s func145 (λS h1 h2 h3=>(dR hy6 h2 (zz h1) (hG.at s (λ_ _ h=>h)) (hG.noS (λ_ _ h=>h) h1))) z z ?_)
   rintro v6 W s
   refine .c (.alloc T.t3 s ?_)
   intro g5 W s
   refine .c (.st T.t3 s z z z ?_)
   intro W s
   refine .nil (.region (.q z (.s (fa f102_1 z z z) z (.s (ld T.t3 s.p4 z z z z z) z (.s (mf z z) z (bv h λy7 hy7 h=>?_))))))
   have s:=s.p1.p2
   refine .c (.cS (L0:=[ae (sv v6) 105 5 aP y6.2,.box g2 171 [vi a1,sv v6]]) s func142 (λS h1 h2 h3=>(fx hy7 ⟨_,func147,z,by kernel_rfl⟩ (λhA hg h=>qA h ((h3.boxS (k:=2) z).agree hA) ((h3.boxS (k:=1) z).agree hA) ((h3.boxS (k:=0) z).agree hA) hg) h2 (zz h1) (hG.at s (λ_ _ h=>h)) (hG.noS (λ_ _ h=>h) h1))) z z ?_)
   rintro v7 W s
   refine .nil ?_
   obtain rfl:=o9 h
   exact ⟨z,v7,sb z,s.to [0,3,0]⟩
  have h:=aK b h
  refine .g (.q z (.qn z (.cond z (λb=>?_) (λb=>?_))))
  ·have h:=aJ b h
   refine .region (.q z (.q z ?_))
   have s:=s.nilv 105 5 aP
   refine bv h λy8 hy8 h=>?_
   have s:=s.p1.p1
   refine .c (.cS (L0:=[ae (sv aw) 105 5 aP [],.box g2 171 [vi a1,sv aw]]) s func148 (λS h1 h2 h3=>(mX hy8 h2 (zz h1))) z z ?_)
   rintro v8 W s
   refine .nil ?_
   obtain rfl:=o9 h
   exact ⟨z,v8,sb z,s.to [0,1,0]⟩
  have h:=aK b h
  refine .g (.q z (.qn z (.cond z (λb=>?_) (λb=>?_))))
  ·have h:=aJ b h
   refine .g (.q z (.q z (.s (fa f102_2 z z z) z (.s (ld T.t3 s.p1 z z z z z) z ?_))))
   have s:=s.nilv 105 5 aP
   refine bv h λy9 hy9 h=>?_
   have s:=s.p1.p1
   refine .c (.cS (L0:=[ae (sv aw) 105 5 aP [],.box g2 171 [vi a1,sv aw]]) s func145 (λS h1 h2 h3=>(dR hy9 h2 (zz h1) (hG.at s (λ_ _ h=>h)) (hG.noS (λ_ _ h=>h) h1))) z z ?_)
   rintro v9 W s
   refine .s (bs T.s105 z z) z (.c (.liv [(Instr.mk 18 0 y9.1 0 8)] aP u66 t105 s z z z z ?_ z (λ_=>z)))
   intro v10 W s
   refine bv h λy10 hy10 h=>?_
   have s:=s.p1.p2
   refine .c (.cS (L0:=[ae (sv v9) 105 5 aP y9.2,.box g2 171 [vi a1,sv v9]]) s func149 (λS h1 h2 h3=>(co hy10 (h3.rdv (k:=0) z) h2 (zz h1))) z z ?_)
   rintro v11 W s
   refine .nil (.region (.q z (.q z (bv h λy11 hy11 h=>?_))))
   have s:=s.p1
   refine .c (.cS (L0:=[ae (sv v11) 105 5 aP y10,.box g2 171 [vi a1,sv v11]]) s func148 (λS h1 h2 h3=>(mX hy11 h2 (zz h1))) z z ?_)
   rintro v12 W s
   refine .nil ?_
   obtain rfl:=o9 h
   exact ⟨z,v12,sb z,s.to [0,2,0]⟩
  have h:=aK b h
  refine .g (.q z (.qn z (.cond z (λb=>?_) (λb=>?_))))
  ·have h:=aJ b h
   refine .seq (.rk 11 s [1] T.mix ?_)
   intro W s
   have t:=s.to [1]
   refine .tp' 0 z z t (.tp' 1 z z t (.ts' 2 z (λW t=>fa f102_2 z z z) t z (.ts' 3 z (λW t=>ld T.t3 t z z z z z) t z (.ts' 6 z (λW t=>fa f102_4 z z z) t z (.ts' 7 z (λW t=>ld T.t3 t z z z z z) t z ?_)))))
   have s:=s.nilv 105 5 aP
   refine bv h λy12 hy12 h=>?_
   have s:=s.p1.p1
   refine .by1 4 z (.cS (L0:=[ae (sv aw) 105 5 aP [],.box g2 171 [vi a1,sv aw]]) s func145 (λS h1 h2 h3=>(dR hy12 h2 (zz h1) (hG.at s (λ_ _ h=>h)) (hG.noS (λ_ _ h=>h) h1))) z z ?_)
   rintro v13 W s
   refine s.an [2] λt=>bv h λy13 hy13 h=>.by1 5 z (.cO s func64 (eV hy13) z z ?_)
   intro W s
   refine s.an [2] λt=>bv h λy14 hy14 h=>.by1 8 z (.cO s func64 (eV hy14) z z ?_)
   intro W s
   refine s.an [2] λt=>.by1 9 z (.liv [y13,y14] aP u66 t105 s z z z z ?_ z (λ_=>z))
   intro v14 W s
   refine s.an [3] λt=>bv h λy15 hy15 h=>?_
   have s:=s.p1.p2
   refine .by1 10 z (.cS (L0:=[ae (sv v13) 105 5 aP y12.2,.box g2 171 [vi a1,sv v13]]) s func149 (λS h1 h2 h3=>(co hy15 (h3.rdv (k:=0) z) h2 (zz h1))) z z ?_)
   rintro v15 W s
   refine s.an [3] λt=>.done (.region (.q z (bv h λy16 hy16 h=>?_)))
   have s:=s.p1
   refine .c (.cS (L0:=[ae (sv v15) 105 5 aP y15,.box g2 171 [vi a1,sv v15]]) s func150 (λS h1 h2 h3=>(eC hy16 h2 (zz h1))) z z ?_)
   rintro v16 W s
   refine .nil ?_
   obtain rfl:=o9 h
   exact ⟨z,v16,sb z,s.to [0,2,0]⟩
  have h:=aK b h
  refine .g (.q z (.qn z (.cond z (λb=>?_) (λb=>?_))))
  ·have h:=aJ b h
   refine .g (.q z (.s (fa f102_4 z z z) z (.s (ld T.t3 s.p1 z z z z z) z (bv h λy17 hy17 h=>.c (.cO s func64 (eV hy17) z z ?_)))))
   intro W s
   refine .c (.liv [y17] aP u66 t105 s z z z z ?_ z (λ_=>z))
   intro v17 W s
   have s:=s.nilv 105 5 aP
   refine bv h λy18 hy18 h=>?_
   have s:=s.p2.p1
   refine .c (.cS (L0:=[ae (sv aw) 105 5 aP [],.box g2 171 [vi a1,sv aw]]) s func149 (λS h1 h2 h3=>(co hy18 (h3.rdv (k:=0) z) h2 (zz h1))) z z ?_)
   rintro v18 W s
   refine .nil (.g (.q z (bv h λy19 hy19 h=>?_)))
   have s:=s.p1
   refine .c (.cS (L0:=[ae (sv v18) 105 5 aP y18,.box g2 171 [vi a1,sv v18]]) s func150 (λS h1 h2 h3=>(eC hy19 h2 (zz h1))) z z ?_)
   rintro v19 W s
   refine .nil (.region (.q z (.s (fa f102_1 z z z) z (.s (ld T.t3 s.p3 z z z z z) z (bv h λy20 hy20 h=>?_)))))
   have s:=s.p1
   refine .c (.cS (L0:=[ae (sv v19) 105 5 aP y19,.box g2 171 [vi a1,sv v19]]) s func142 (λS h1 h2 h3=>(fx hy20 ⟨_,func151,z,by kernel_rfl⟩ (λhA hg h=>qB h) h2 (zz h1) (hG.at s (λ_ _ h=>h)) (hG.noS (λ_ _ h=>h) h1))) z z ?_)
   rintro v20 W s
   refine .nil ?_
   obtain rfl:=o9 h
   exact ⟨z,v20,sb z,s.to [0,2,0]⟩
  have h:=aK b h
  refine .g (.q z (.qn z (.cond z (λb=>?_) (λb=>?_))))
  ·have h:=aJ b h
   refine .region (.q z ?_)
   have s:=s.nilv 105 5 aP
   refine bv h λy21 hy21 h=>?_
   have s:=s.p1.p1
   refine .c (.cS (L0:=[ae (sv aw) 105 5 aP [],.box g2 171 [vi a1,sv aw]]) s func150 (λS h1 h2 h3=>(eC hy21 h2 (zz h1))) z z ?_)
   rintro v21 W s
   refine .nil ?_
   obtain rfl:=o9 h
   exact ⟨z,v21,sb z,s.to [0,1,0]⟩
  have h:=aK b h
  refine .g (.q z (.qn z (.cond z (λb=>?_) (λb=>?_))))
  ·have h:=aJ b h
   refine .g (.q z (.q z (.s (fa f102_2 z z z) z (.s (ld T.t3 s.p1 z z z z z) z ?_))))
   have s:=s.nilv 105 5 aP
   refine bv h λy22 hy22 h=>?_
   have s:=s.p1.p1
   refine .c (.cS (L0:=[ae (sv aw) 105 5 aP [],.box g2 171 [vi a1,sv aw]]) s func145 (λS h1 h2 h3=>(dR hy22 h2 (zz h1) (hG.at s (λ_ _ h=>h)) (hG.noS (λ_ _ h=>h) h1))) z z ?_)
   rintro v22 W s
   refine bv h λy23 hy23 h=>.c (.cO s func64 (eV hy23) z z ?_)
   intro W s
   refine .c (.liv [y23] aP u66 t105 s z z z z ?_ z (λ_=>z))
   intro v23 W s
   refine bv h λy24 hy24 h=>?_
   have s:=s.p1.p2
   refine .c (.cS (L0:=[ae (sv v22) 105 5 aP y22.2,.box g2 171 [vi a1,sv v22]]) s func149 (λS h1 h2 h3=>(co hy24 (h3.rdv (k:=0) z) h2 (zz h1))) z z ?_)
   rintro v24 W s
   refine .nil (.region (.q z (bv h λy25 hy25 h=>?_)))
   have s:=s.p1
   refine .c (.cS (L0:=[ae (sv v24) 105 5 aP y24,.box g2 171 [vi a1,sv v24]]) s func150 (λS h1 h2 h3=>(eC hy25 h2 (zz h1))) z z ?_)
   rintro v25 W s
   refine .nil ?_
   obtain rfl:=o9 h
   exact ⟨z,v25,sb z,s.to [0,2,0]⟩
  have h:=aK b h
  refine .g (.q z (.qn z (.cond z (λb=>?_) (λb=>?_))))
  ·have h:=aJ b h
   refine .region (.q z ?_)
   have s:=s.nilv 105 5 aP
   refine bv h λy26 hy26 h=>?_
   have s:=s.p1.p1
   refine .c (.cS (L0:=[ae (sv aw) 105 5 aP [],.box g2 171 [vi a1,sv aw]]) s func150 (λS h1 h2 h3=>(eC hy26 h2 (zz h1))) z z ?_)
   rintro v26 W s
   refine .nil ?_
   obtain rfl:=o9 h
   exact ⟨z,v26,sb z,s.to [0,1,0]⟩
  have h:=aK b h
  refine .skip ?_
  have s:=s.nilv 105 5 aP
  cases h
  exact ⟨z,aw,sb z,s.to [1,1,0]⟩
 intro x E W hJ
 obtain ⟨rfl,v27,hE,s⟩:=hJ
 refine ⟨_,hE.sub,?_⟩
 obtain rfl:=o9 h
 exact .g (.q z (.q z (.s (fa f171_1 z z z) z (.s (ld t66 s z z z z z) z (.qn z (.ret (ac v27 (rt z rn) z (s.to [2]))))))))
theorem rZ {a0:List ah} {a1:Int} {v_0:Hd} {w:World} {r:(List Int)} (h:iq a0 a1=some r) (q_0:RO w v_0 102 5 ay a0) (hG:Gl w):CL 95 #[sv v_0,vi a1] w (Ret No w (λs:{x:Hd // vG x=List.isEmpty r}=>(sv s.1)) (λs=>[ae (sv s.1) 3 1 (D.int .i64) r])):=by
 unfold iq at h
 refine ar func95 z z ?_
 have s:=Sep.start w
 refine .g (.qn z (.seq (.g (.q z (bv h λy1 hy1 h=>.c (.cO s func134 (oz hy1 (s.keep q_0)) z z ?_))))))
 intro W s
 refine .q z (.q z (.cu 3 15 ((!y1)||(decide (a1<1))) s ?_ ?_))
 ·refine .both (!y1) (λb=>?_) (λb=>?_)
  ·exact .xx b z (.xx b z (.s (pkt b z z z) z (.nil (ck 3 s z (fk b)))))
  have hg1:=b
  exact .g hg1 (.q z (.g hg1 (.q z (.s (pkf hg1 z z z) z (.nil (ck 3 s z (fp hg1)))))))
 intro W s
 refine .q z (.cu 3 19 (((!y1)||(decide (a1<1)))||(decide (a1>8))) s ?_ ?_)
 ·refine .both ((!y1)||(decide (a1<1))) (λb=>?_) (λb=>?_)
  ·exact .xx b z (.xx b z (.s (pkt b z z z) z (.nil (ck 3 s z (fk b)))))
  have hg2:=b
  exact .g hg2 (.q z (.g hg2 (.q z (.s (pkf hg2 z z z) z (.nil (ck 3 s z (fp hg2)))))))
 intro W s
 refine .nil ?_
 refine .cs z h ?_ ?_ <;> intro h
 ·refine .g (.qn z (.ret ?_))
  have s:=s.nilv 3 1 (D.int .i64)
  cases h
  exact ac ⟨aw,z⟩ (rt z rn) z (s.to [0])
 refine .skip (.g (.qn z (.g (.qn z (.seq (.g (.q z (.s (aZ (s.keep q_0) u78 z z) z (.qn z (.block ?_))))))))))
 have s:=s.nilv 3 1 (D.int .i64)
 refine bv h λy2 hy2 h=>?_
 refine .via (.iter (λs1 E' W'=>∃ (v3:Hd),(vG v3=List.isEmpty s1.1)/\aB E' [(1,vi a1),(5,(sv v3)),(6,vi s1.2.1),(20,(sv v_0)),(21,vi (a0.length:Int)),(22,vi s1.2.2)]/\Sep No w W' [ae (sv v3) 3 1 (D.int .i64) s1.1]) (λy3 x E' W'=>x=.exit 0/\∃ (v4:Hd),(vG v4=List.isEmpty y3)/\aB E' [(5,(sv v4))]/\Sep No w W' [ae (sv v4) 3 1 (D.int .i64) y3]) hy2 ⟨aw,z,sb z,s.to [0]⟩ ?_) ?_
 ·intro s1 y4 E W h hI
  obtain ⟨v2,q2,hE,s⟩:=hI
  refine CW.sub hE ?_
  unfold kB at h
  refine .g (.qn z (.seq ?_))
  refine .cs z h ?_ ?_ <;> intro h
  ·refine .skip (.seq (.block (.g (bv h λx1 hx1 h=>.s (ixv (s.keep q_0) hx1 u78 t102 z z z) z (.s (lde (RV.flat (s.keep q_0) hx1 z) t102 z z z z z) z (.c (.alloc t102 s ?_)))))))
   intro g1 W s
   refine .c (.st t102 s z z z ?_)
   intro W s
   refine .nil (.g (.q z (.q z (.c (.liv [s1.2.1] (D.int .i64) u23 T.t3 s z z z z ?_ z (λ_=>z))))))
   intro v5 W s
   refine bv h λr1 hr1 h=>?_
   have hT0:=s.p2
   refine .c (.av hr1 hT0 hT0.p1.lv (λ_=>z) u23 T.t3 z z z ?_)
   intro v6 W s
   have hz1:=Sep.nz s (DZ hr1 (by simp))
   refine .qn z (.region (.q z (.s (ld t102 s.p2 z z z z z) z (.q z (bv h λy5 hy5 h=>.c (.cV s func97 (nW hy5 (hG.at s (λ_ _ h=>h))) z z ?_))))))
   intro v7 W s
   refine .s (aZ s.lv u66 z z) z (.q z (.qn z (.region (.q z (.q z (.nil ?_))))))
   cases h
   exact ⟨z,v6,hz1,sb z,s.to [1]⟩
  refine .exit ?_
  cases h
  exact ⟨by simp,z,v2,q2,sb z,s.to [0]⟩
 intro x E W hJ
 obtain ⟨rfl,v8,q5,hE,s⟩:=hJ
 refine ⟨_,hE.sub,?_⟩
 obtain rfl:=o9 h
 exact .g (.q z (.qn z (.ret (ac ⟨v8,q5⟩ (rt z rn) z (s.to [0])))))
theorem sV {a0:ah} {w:World} {r:Bool} (h:lC a0=some r):CL 96 #[.agg #[vi a0.Op,vi a0.Dst,vi a0.A,vi a0.B,vi a0.N]] w (RU w (.bool r)):=by
 unfold lC at h
 refine ar func96 z z ?_
 have s:=Sep.start w
 refine .g (.c (.box s z z ?_))
 intro g1 W s
 refine .qn z (.g (.s (fa f102_0 z z z) z (.s (ld T.t3 s z z z z z) z (.q z (.q z (.cu 4 10 ((a0.Op==4)||(a0.Op==5)) s ?_ ?_))))))
 ·refine .both (a0.Op==4) (λb=>?_) (λb=>?_)
  ·exact .xx b z (.xx b z (.xx b z (.s (pkt b z z z) z (.nil (ck 4 s z (fk b))))))
  have hg1:=b
  exact .g hg1 (.s (fa f102_0 z z z) z (.g hg1 (.s (ld T.t3 s z z z z z) z (.g hg1 (.q z (.s (pkf hg1 z z z) z (.nil (ck 4 s z (fp hg1)))))))))
 intro W s
 cases h
 exact .qn z (.ret (ac () (rt z rn) z (s.to [])))
theorem r7 {a0:List ah} {a1:Int} {v_0:Hd} {w:World} {r:(List Instr)×Bool} (h:ir a0 a1=some r) (q_0:RO w v_0 102 5 ay a0) (hG:Gl w):CL 49 #[sv v_0,vi a1] w (Ret No w (λs:Hd=>.tuple #[sv s,.bool r.2]) (λs=>[ae (sv s) 105 5 aP r.1])):=by
 unfold ir at h
 refine ar func49 z z ?_
 have s:=Sep.start w
 refine .g (.q z (.qn z (.g (.q z (.q z (bv h λy1 hy1 h=>.c (.call s func95 (rZ hy1 (s.keep q_0) (hG.at s (λ_ _ h=>h))) z z ?_)))))))
 rintro ⟨v1,q1⟩ W s
 refine .qn z (.seq (.g (.q z (.s (DY u23 z z) z (.nil (.cond z (λb=>?_) (λb=>?_)))))))
 ·have h:=aJ (q1.symm.trans b) h
  refine .g (.q z (.qn z (.ret ?_)))
  have s:=s.nilv 105 5 aP
  cases h
  exact ac (vs:=[_,_]) aw (rt z (rt z rn)) z (s.to [0])
 have h:=aK (q1.symm.trans b) h
 refine .skip (.g (.qn z (.seq (.g (.q z (.s (aZ (s.keep q_0) u78 z z) z (.qn z (.block ?_))))))))
 have s:=s.nilv 105 5 aP
 refine bv h λy2 hy2 h=>?_
 refine .via (.iter (λs1 E' W'=>∃ (v4:Hd),aB E' [(1,vi a1),(6,(sv v1)),(7,(sv v4)),(16,(sv v_0)),(17,vi (a0.length:Int)),(18,vi s1.2)]/\Sep No w W' [ae (sv v1) 3 1 (D.int .i64) y1,ae (sv v4) 105 5 aP s1.1]) (λy3 x E' W'=>x=.exit 0/\∃ (v5:Hd),aB E' [(7,(sv v5))]/\Sep No w W' [ae (sv v1) 3 1 (D.int .i64) y1,ae (sv v5) 105 5 aP y3]) hy2 ⟨aw,sb z,s.to [1,0]⟩ ?_) ?_
 ·intro s1 y4 E W h hI
  obtain ⟨v3,hE,s⟩:=hI
  refine CW.sub hE ?_
  unfold kC at h
  refine .g (.qn z (.seq ?_))
  refine .cs z h ?_ ?_ <;> intro h
  ·refine .skip (.seq (.block (.g (.q z (bv h λx1 hx1 h=>.s (ixv (s.keep q_0) hx1 u78 t102 z z z) z (.s (lde (RV.flat (s.keep q_0) hx1 z) t102 z z z z z) z (.c (.alloc t102 s ?_))))))))
   intro g1 W s
   refine .q z (.c (.st t102 s z z z ?_))
   intro W s
   refine .nil (.g (.qn z (bv h λy5 hy5 h=>?_)))
   refine .seq (CW.via (R':=λx E' W'=>x=.normal/\aB E' [(1,vi a1),(6,(sv v1)),(7,(sv v3)),(9,Pt g1),(10,vi y5),(16,(sv v_0)),(17,vi (a0.length:Int)),(18,vi s1.2)]/\Sep No w W' [.box g1 102 [vi x1.Op,vi x1.Dst,vi x1.A,vi x1.B,vi x1.N],ae (sv v1) 3 1 (D.int .i64) y1,ae (sv v3) 105 5 aP s1.1]) ?_ ?_)
   ·have h:=hy5
    refine .g (.s (ld t102 s z z z z z) z (bv h λy6 hy6 h=>.c (.cO s func96 (sV hy6) z z ?_)))
    intro W s
    refine .nil ?_
    refine .cs z h ?_ ?_ <;> intro h
    ·refine .rk 12 s [0,0,0] T.mix ?_
     intro W s
     have t:=s.to [0,0,0]
     refine .tp' 0 z z t (.ts' 1 z (λW t=>fa f102_4 z z z) t z (.ts' 2 z (λW t=>ld T.t3 t z z z z z) t z (bv h λx2 hx2 h=>.ts' 3 z (λW t=>ixv s.p1.lv hx2 u23 T.t3 z z z) t z (.ts' 4 z (λW t=>lde (RV.flat t.p1.lv hx2 z) T.t3 z z z z z) t z (.tp' 5 z z t (.tp' 6 z z t (bv h λx3 hx3 h=>.ts' 7 z (λW t=>ixv s.p1.lv hx3 u23 T.t3 z z z) t z (.ts' 8 z (λW t=>lde (RV.flat t.p1.lv hx3 z) T.t3 z z z z z) t z (.tp' 9 z z t (.tp' 10 z z t (.tp' 11 z z t (.done ?_))))))))))))
     cases h
     exact ⟨z,sb z,s.to [0,0,0]⟩
    refine .skip ?_
    cases h
    exact ⟨z,sb z,s.to [0,0,0]⟩
   intro x E W hJ
   obtain ⟨rfl,hE,s⟩:=hJ
   refine ⟨_,hE.sub,?_⟩
   refine .region (.q z (.s (ld t102 s z z z z z) z (.q z (.q z (bv h λy7 hy7 h=>.c (.cV s func97 (nW hy7 (hG.at s (λ_ _ h=>h))) z z ?_))))))
   intro v6 W s
   refine bv h λr1 hr1 h=>?_
   have hT0:=s.p3
   refine .c (.av hr1 hT0 hT0.p1.lv (λ_=>z) u66 t105 z z z ?_)
   intro v7 W s
   refine .qn z (.region (.q z (.q z (.nil ?_))))
   cases h
   exact ⟨z,v7,sb z,s.to [3,0]⟩
  refine .exit ?_
  cases h
  exact ⟨by simp,z,v3,sb z,s.to [0,0]⟩
 intro x E W hJ
 obtain ⟨rfl,v8,hE,s⟩:=hJ
 refine ⟨_,hE.sub,?_⟩
 cases h
 exact .g (.q z (.q z (.qn z (.ret (ac (vs:=[_,_]) v8 (rt z (rt z rn)) z (s.to [1]))))))
theorem ve {a0:List (List ah)} {a1:Int} {v_0:Hd} {w:World} {r:(List (List Instr))} (h:lD a0 a1=some r) (q_0:RO w v_0 78 1 (λ(l:List ah)=>D.row 102 5 (l.map ay)) a0) (hG:Gl w):CL 20 #[sv v_0,vi a1] w (Ret No w (λs:Hd=>(sv s)) (λs=>[ae (sv s) 66 1 (λ(l:List Instr)=>D.row 105 5 (l.map aP)) r])):=by
 unfold lD at h
 refine ar func20 z z ?_
 have s:=Sep.start w
 refine .g (.qn z (.g (.c (.lg (L1:=[]) [] (λ(l:List Instr)=>D.row 105 5 (l.map aP)) u24 t66 (s.to []) z z z (.nil) ?_ z (λ_=>z)))))
 intro v1 W s
 refine .qn z (.seq (.g (.qn z (.block (bv h λy1 hy1 h=>?_)))))
 refine .via (.iter (λs1 E' W'=>∃ (v4:Hd),aB E' [(0,(sv v_0)),(1,vi a1),(5,(sv v4)),(6,vi s1.2)]/\Sep No w W' [ae (sv v4) 66 1 (λ(l:List Instr)=>D.row 105 5 (l.map aP)) s1.1]) (λy2 x E' W'=>x=.exit 0/\∃ (v5:Hd),aB E' [(5,(sv v5))]/\Sep No w W' [ae (sv v5) 66 1 (λ(l:List Instr)=>D.row 105 5 (l.map aP)) y2]) hy1 ⟨v1,sb z,s.to [0]⟩ ?_) ?_
 ·intro s1 y3 E W h hI
  obtain ⟨v3,hE,s⟩:=hI
  refine CW.sub hE ?_
  unfold iu at h
  refine .seq (.g (.q z (.q z (.s (aZ (s.keep q_0) u36 z z) z (.q z (.nil ?_))))))
  refine .cs z h ?_ ?_ <;> intro h
  ·refine .skip (.seq (.block (.g (.q z (.q z (bv h λx1 hx1 h=>?_))))))
   obtain ⟨k1,hd,hck1⟩:=RV.el2 q_0 hx1
   obtain ⟨v6,k1,rfl,q5,hd1⟩:=cQ q_0 hd
   obtain rfl:=gi q_0 hd1
   refine .s (ixv (s.keep q_0) hx1 u36 t78 z z z) z (.s (lde (hck1 _ s.agree) t78 z z z z z) z (.q z (bv h λy4 hy4 h=>.c (.cV s func49 (r7 hy4 (s.keep (q5 _ q_0)) (hG.at s (λ_ _ h=>h))) z z ?_))))
   intro v7 W s
   refine .q z (.q z (.q z (.q z (.qn z (.region (.q z (.q z (.c (.lg (L1:=[ae (sv v7) 105 5 aP y4.1]) [y4.1] (λ(l:List Instr)=>D.row 105 5 (l.map aP)) u24 t66 (s.to [0,0]) z z z (.row (.nil)) ?_ z (λ_=>z))))))))))
   intro v8 W s
   refine bv h λr1 hr1 h=>.c (.appv hr1 (s.to [1,0]) u24 t66 z z z ?_)
   intro v9 W s
   refine .qn z (.region (.q z (.q z (.q z (.nil ?_)))))
   cases h
   exact ⟨z,v9,sb z,s.to [0]⟩
  refine .exit ?_
  cases h
  exact ⟨by simp,z,v3,sb z,s.to [0]⟩
 intro x E W hJ
 obtain ⟨rfl,v10,hE,s⟩:=hJ
 refine ⟨_,hE.sub,?_⟩
 obtain rfl:=o9 h
 exact .g (.q z (.qn z (.ret (ac v10 (rt z rn) z (s.to [0])))))
theorem qC {a0:al} {ao:Hd} {bc:Hd} {w:World} {r:Bool} (h:iM a0=some r) (dQ:RO w ao 3 1 (D.int .i64) a0.Regs) (lQ:RO w bc 3 1 (D.int .i64) a0.Mem):CL 99 #[.agg #[sv ao,vi a0.Pc,sv bc]] w (RU w (.bool r)):=by
 unfold iM at h
 refine ar func99 z z ?_
 have s:=Sep.start w
 refine .g (.c (.box s z z ?_))
 intro g1 W s
 refine .qn z (.g (.s (ld t28 s z z z z z) z (bv h λy1 hy1 h=>.c (.cO s func56 (qx hy1 (s.keep dQ) (s.keep lQ)) z z ?_))))
 intro W s
 cases h
 exact .q z (.qn z (.ret (ac () (rt z rn) z (s.to []))))
def fw (w:World) (r:Int):Env->World->Prop:=Fin Tryz.prog Tryz.f152 No w (λs:Unit=>.int .i64 r) (λs=>[]) .ret
theorem fj {a0:List al} {v_0:Hd} {w:World} {r:Int} (h:bF a0=some r) (q_0:RO w v_0 28 3 bo a0):CL 152 #[sv v_0,.func (.func 99) #[] #[]] w (RU w (.int .i64 r)):=by
 unfold bF at h
 refine ar func152 z z ?_
 have s:=Sep.start w
 refine .g (.qn z (.seq (.g (.q z (.s (aZ (s.keep q_0) u52 z z) z (.qn z (.block (bv h λy1 hy1 h=>?_))))))))
 refine .via (.iter (λs1 E' W'=>aB E' [(0,(sv v_0)),(1,.func (.func 99) #[] #[]),(7,vi (a0.length:Int)),(8,vi s1)]/\Sep No w W' []) (λy2 x E' W'=>(match y2 with | .inl o1=>x=.ret/\fw w o1 E' W' | .inr o2=>x=.exit 0/\aB E' []/\Sep No w W' [])) hy1 ⟨sb rfl,s.to [] rfl⟩ ?_) ?_
 ·intro s1 y3 E W h hI
  obtain ⟨hE,s⟩:=hI
  refine CW.sub hE ?_
  unfold aU at h
  refine .g (.qn z (.seq ?_))
  refine .cs z h ?_ ?_ <;> intro h
  ·refine .skip (.seq (.block (.g (.q z (.qn z (.g (.q z (.q z (.q z (bv h λx1 hx1 h=>?_))))))))))
   obtain ⟨k1,hd,hck1⟩:=RV.el2 q_0 hx1
   have hd1:=pV hd
   obtain ⟨v1,k1,rfl,q1,hd2⟩:=cQ q_0 hd1
   obtain ⟨k1,rfl,hd3⟩:=dA q_0 z hd2
   obtain ⟨v2,k1,rfl,q2,hd4⟩:=cQ q_0 hd3
   obtain rfl:=gi q_0 hd4
   refine .s (ixv (s.keep q_0) hx1 u52 t28 z z z) z (.s (lde (hck1 _ s.agree) t28 z z z z z) z (bv h λy4 hy4 h=>.c (.callv (vs:=[.agg #[sv v1,vi x1.Pc,sv v2]]) (cap:=#[]) s ⟨_,func99,z,by kernel_rfl⟩ (qC hy4 (s.keep (q1 _ q_0)) (s.keep (q2 _ q_0))) z z z ?_)))
   rintro ⟨⟩ W s
   refine .nil ?_
   refine .cs z h ?_ ?_ <;> intro h
   ·refine .g (.q z (.qn z (.ret ?_)))
    cases h
    exact ⟨by simp,z,ac (vs:=[_]) () (rt z rn) z (s.to [])⟩
   refine .skip (.region (.q z (.q z (.nil ?_))))
   cases h
   exact ⟨z,sb z,s.to []⟩
  refine .exit ?_
  cases h
  exact ⟨by simp,z,sb z,s.to []⟩
 intro x E W hJ
 rcases y1 with o3 | o4
 ·obtain ⟨rfl,hF⟩:=hJ
  refine ⟨_,λ_ _ h=>h,?_⟩
  cases h
  exact hF
 obtain ⟨rfl,hE,s⟩:=hJ
 refine ⟨_,hE.sub,?_⟩
 cases h
 exact .g (.qn z (.ret (ac () (rt z rn) z (s.to []))))
theorem eN {a0:List al} {v_0:Hd} {w:World} {r:Bool} (h:a8 a0=some r) (q_0:RO w v_0 28 3 bo a0):CL 98 #[sv v_0,.func (.func 99) #[] #[]] w (RU w (.bool r)):=by
 unfold a8 at h
 refine ar func98 z z ?_
 have s:=Sep.start w
 refine .g (.qn z (.g (.q z (.q z (bv h λy1 hy1 h=>.c (.cO s func152 (fj hy1 (s.keep q_0)) z z ?_))))))
 intro W s
 cases h
 exact .q z (.qn z (.ret (ac () (rt z rn) z (s.to []))))
theorem nX {a0:bQ} {dS:Hd} {aM:Hd} {be:Hd} {w:World} {r:Bool} (h:fH a0=some r) (cE:RO w dS 28 3 bo a0.Harts) (cg:RO w aM 95 2 bp a0.Boxes) (cW:RO w be 3 1 (D.int .i64) a0.Out):CL 50 #[.agg #[sv dS,sv aM,vi a0.Turn,vi a0.Idle,sv be]] w (RU w (.bool r)):=by
 unfold fH at h
 refine ar func50 z z ?_
 have s:=Sep.start w
 refine .g (.c (.box s z z ?_))
 intro g1 W s
 refine .qn z (.g (.s (fa f54_0 z z z) z (.s (ld t52 s z z z z z) z (.s (aZ (s.keep cE) u52 z z) z (.s (fa f54_2 z z z) z (.s (ld T.t3 s z z z z z) z (.s (fa f54_3 z z z) z (.s (ld T.t3 s z z z z z) z (.s (fa f54_4 z z z) z (.s (ld t23 s z z z z z) z (bv h λy1 hy1 h=>.c (.cO s func84 (nU hy1 (s.keep cW)) z z ?_))))))))))))
 intro W s
 refine .q z (bv h λb1 hb1 h=>.cu 4 17 (b1) s ?_ ?_)
 ·refine .both (y1) (λb=>?_) (λb=>?_)
  ·have hg1:=b
   have h:=aJ b hb1
   refine .g hg1 (.s (fa f54_1 z z z) z (.g hg1 (.s (ld t40 s z z z z z) z (bv h λy2 hy2 h=>.g hg1 (.c (.cO s func85 (nV hy2 (s.keep cg)) z z ?_))))))
   intro W s
   refine .s (pkt hg1 z z z) z ?_
   cases h
   exact .nil (ck 4 s)
  refine .xx b z (.xx b z (.xx b z ?_))
  cases aK b hb1
  exact .s (pkf b z z z) z (.nil (ck 4 s))
 intro W s
 refine .q z (bv h λb2 hb2 h=>.cu 5 23 (b2) s ?_ ?_)
 ·refine .both (b1) (λb=>?_) (λb=>?_)
  ·have hg2:=b
   have h:=aJ b hb2
   refine .g hg2 (.s (fa f54_0 z z z) z (.g hg2 (.s (ld t52 s z z z z z) z (bv h λy3 hy3 h=>.g hg2 (.c (.cO s func98 (eN hy3 (s.keep cE)) z z ?_))))))
   intro W s
   refine .g hg2 (.q z (.s (pkt hg2 z z z) z ?_))
   cases h
   exact .nil (ck 5 s)
  refine .xx b z (.xx b z (.xx b z (.xx b z ?_)))
  cases aK b hb2
  exact .s (pkf b z z z) z (.nil (ck 5 s))
 intro W s
 obtain rfl:=o9 h
 exact .qn z (.ret (ac () (rt z rn) z (s.to [])))
theorem oA {a0:List Int} {a1:List Box} {a2:Bool} {v_0:Hd} {v_1:Hd} {w:World} {r:dB} (h:gL a0 a1 a2=some r) (q_0:RO w v_0 3 1 (D.int .i64) a0) (q_1:RO w v_1 95 2 bp a1):CL 51 #[sv v_0,sv v_1,.bool a2] w (Ret No w (λs:Hd×Hd×Hd=>.agg #[(sv s.1),(sv s.2.1),(sv s.2.2),.bool r.Rest]) (λs=>[ae (sv s.1) 3 1 (D.int .i64) r.Out,ae (sv s.2.1) 23 1 (λ(l:List Int)=>D.row 3 1 (l.map (D.int .i64))) r.Items,ae (sv s.2.2) 4 1 D.bool r.Ended])):=by
 unfold gL at h
 refine ar func51 z z ?_
 have s:=Sep.start w
 refine .g (.c (.alloc t50 s ?_))
 intro g1 W s
 refine .nil (.g (.q z (bv h λy1 hy1 h=>.c (.cV s func58 (aV hy1 (s.keep q_0)) z z ?_))))
 intro v1 W s
 refine .q z (.s (bs T.s50 z z) z (.c (.alloc t50 s ?_)))
 intro g2 W s
 refine .c (.st t50 s z z z ?_)
 intro W s
 refine .nil (.seq (.g (.q z (.s (aZ (s.keep q_1) u40 z z) z (.qn z (.block ?_))))))
 have s:=s.nilv 23 1 (λ(l:List Int)=>D.row 3 1 (l.map (D.int .i64)))
 refine bv h λy2 hy2 h=>?_
 refine .via (.iter (λs1 E' W'=>∃ (v4:Hd),aB E' [(6,Pt g1),(7,Pt g2),(14,(sv v_1)),(15,vi (a1.length:Int)),(16,vi s1.1)]/\Sep No w W' [.box g2 50 [sv v1,sv v4,sv aw,.bool a2],ae (sv v1) 3 1 (D.int .i64) y1,.box g1 50 [sv aw,sv aw,sv aw,.bool false],ae (sv v4) 23 1 (λ(l:List Int)=>D.row 3 1 (l.map (D.int .i64))) s1.2]) (λy3 x E' W'=>x=.exit 0/\∃ (v5:Hd),aB E' [(6,Pt g1),(7,Pt g2)]/\Sep No w W' [.box g2 50 [sv v1,sv v5,sv aw,.bool a2],ae (sv v1) 3 1 (D.int .i64) y1,.box g1 50 [sv aw,sv aw,sv aw,.bool false],ae (sv v5) 23 1 (λ(l:List Int)=>D.row 3 1 (l.map (D.int .i64))) y3]) hy2 ⟨aw,sb z,s.to [1,1,1,0]⟩ ?_) ?_
 ·intro s1 y4 E W h hI
  obtain ⟨v3,hE,s⟩:=hI
  refine CW.sub hE ?_
  unfold f0 at h
  refine .g (.qn z (.seq ?_))
  refine .cs z h ?_ ?_ <;> intro h
  ·refine .skip (.seq (.block (.g (bv h λx1 hx1 h=>?_))))
   obtain ⟨k1,hd,hck1⟩:=RV.el2 q_1 hx1
   have hd1:=pV hd
   obtain ⟨k1,rfl,hd2⟩:=dA q_1 z hd1
   obtain ⟨v6,k1,rfl,q5,hd3⟩:=cQ q_1 hd2
   obtain rfl:=gi q_1 hd3
   refine .s (ixv (s.keep q_1) hx1 u40 t95 z z z) z (.s (lde (hck1 _ s.agree) t95 z z z z z) z (.c (.alloc t95 s ?_)))
   intro g3 W s
   refine .c (.st t95 s z z z ?_)
   intro W s
   refine .nil (.rk 8 s [0,0,0,0] T.mix ?_)
   intro W s
   have t:=s.to [0,0,0,0]
   refine .ts' 0 z (λW t=>fa f50_1 z z z) t z (.ts' 1 z (λW t=>ld t47 t.p1 z z z z z) t z (.ts' 2 z (λW t=>fa f95_1 z z z) t z (.ts' 3 z (λW t=>ld t23 t z z z z z) t z (bv h λy5 hy5 h=>.by1 4 z (.cV s func58 (aV hy5 (s.keep (q5 _ q_1))) z z ?_)))))
   intro v7 W s
   refine s.an [1,1,1,1] λt=>.by1 5 z (.lg (L1:=[ae (sv v7) 3 1 (D.int .i64) y5]) [y5] (λ(l:List Int)=>D.row 3 1 (l.map (D.int .i64))) u47 t23 (s.to [0,0,0,0,0,0]) z z z (.row (.nil)) ?_ z (λ_=>z))
   intro v8 W s
   refine s.an [1,1,1,1] λt=>bv h λr1 hr1 h=>.by1 6 z (.appv hr1 (s.to [5,0,0,0,0,0]) u47 t23 z z z ?_)
   intro v9 W s
   refine s.an [1,1,1,1] λt=>.ts' 7 z (λW t=>fa f50_1 z z z) t z (.by1 8 z (.st t47 s.p2 z z z ?_))
   intro W s
   refine ⟨λh=>absurd z h,?_⟩
   refine .done (.region (.q z (.q z (.nil ?_))))
   cases h
   exact ⟨z,v9,sb z,s.to [0,2,2,0]⟩
  refine .exit ?_
  cases h
  exact ⟨by simp,z,v3,sb z,s.to [0,0,0,0]⟩
 intro x E W hJ
 obtain ⟨rfl,v10,hE,s⟩:=hJ
 refine ⟨_,hE.sub,?_⟩
 refine .g (.s (ld t50 s z z z z z) z (.c (.st t50 s.p2 z z z ?_)))
 intro W s
 refine .nil (.ret ?_)
 have s:=s.nilv 4 1 D.bool
 cases h
 exact ac (v1,v10,aw) (rc s.p1 t50 z rn z z) z (s.to [3,3,0])
theorem qD {a0:bQ} {dS:Hd} {aM:Hd} {be:Hd} {w:World} {r:dB} (h:f9 a0=some r) (cE:RO w dS 28 3 bo a0.Harts) (cg:RO w aM 95 2 bp a0.Boxes) (cW:RO w be 3 1 (D.int .i64) a0.Out):CL 21 #[.agg #[sv dS,sv aM,vi a0.Turn,vi a0.Idle,sv be]] w (Ret No w (λs:Hd×Hd×Hd=>.agg #[(sv s.1),(sv s.2.1),(sv s.2.2),.bool r.Rest]) (λs=>[ae (sv s.1) 3 1 (D.int .i64) r.Out,ae (sv s.2.1) 23 1 (λ(l:List Int)=>D.row 3 1 (l.map (D.int .i64))) r.Items,ae (sv s.2.2) 4 1 D.bool r.Ended])):=by
 unfold f9 at h
 refine ar func21 z z ?_
 have s:=Sep.start w
 refine .g (.c (.box s z z ?_))
 intro g1 W s
 refine .c (.alloc t50 s ?_)
 intro g2 W s
 refine .nil (.seq (.g (.s (ld t54 s.p1 z z z z z) z (bv h λy1 hy1 h=>.c (.cO s func50 (nX hy1 (s.keep cE) (s.keep cg) (s.keep cW)) z z ?_)))))
 intro W s
 refine .q z (.nil ?_)
 refine .cs z h ?_ ?_ <;> intro h
 ·refine .g (.s (bs T.s50 z z) z (.c (.st t50 s z z z ?_)))
  intro W s
  refine .nil (.ret ?_)
  have s:=s.nilv 3 1 (D.int .i64)
  have s:=s.nilv 23 1 (λ(l:List Int)=>D.row 3 1 (l.map (D.int .i64)))
  have s:=s.nilv 4 1 D.bool
  cases h
  exact ac (aw,aw,aw) (rc s.p3 t50 z rn z z) z (s.to [2,1,0])
 refine .skip (.g (.s (fa f54_4 z z z) z (.s (ld t23 s.p1 z z z z z) z (.s (fa f54_1 z z z) z (.s (ld t40 s.p1 z z z z z) z (.s (fa f54_3 z z z) z (.s (ld T.t3 s.p1 z z z z z) z (.s (fa f54_0 z z z) z (.s (ld t52 s.p1 z z z z z) z (.s (aZ (s.keep cE) u52 z z) z (.q z (bv h λy2 hy2 h=>.c (.call s func51 (oA hy2 (s.keep cW) (s.keep cg)) z z ?_)))))))))))))
 rintro ⟨v1,v2,v3⟩ W s
 refine .c (.alloc t50 s ?_)
 intro g3 W s
 refine .c (.st t50 s z z z ?_)
 intro W s
 refine .nil (.seq (.g (.s (fa f54_0 z z z) z (.s (ld t52 s.p5 z z z z z) z (.s (aZ (s.keep cE) u52 z z) z (.qn z (.block (bv h λy3 hy3 h=>?_))))))))
 refine .via (.iter (λs1 E' W'=>∃ (v6:Hd),aB E' [(2,Pt g2),(3,Pt g3),(22,(sv dS)),(23,vi (a0.Harts.length:Int)),(24,vi s1.1)]/\Sep No w W' [.box g3 50 [sv v1,sv v2,sv v6,.bool y2.Rest],ae (sv v1) 3 1 (D.int .i64) y2.Out,ae (sv v2) 23 1 (λ(l:List Int)=>D.row 3 1 (l.map (D.int .i64))) y2.Items,.box g2 50 [sv aw,sv aw,sv aw,.bool false],.box g1 54 [sv dS,sv aM,vi a0.Turn,vi a0.Idle,sv be],ae (sv v6) 4 1 D.bool s1.2]) (λy4 x E' W'=>x=.exit 0/\∃ (v7:Hd),aB E' [(2,Pt g2),(3,Pt g3)]/\Sep No w W' [.box g3 50 [sv v1,sv v2,sv v7,.bool y2.Rest],ae (sv v1) 3 1 (D.int .i64) y2.Out,ae (sv v2) 23 1 (λ(l:List Int)=>D.row 3 1 (l.map (D.int .i64))) y2.Items,.box g2 50 [sv aw,sv aw,sv aw,.bool false],.box g1 54 [sv dS,sv aM,vi a0.Turn,vi a0.Idle,sv be],ae (sv v7) 4 1 D.bool y4]) hy3 ⟨v3,sb z,s.to [0,0,0,1,1,0]⟩ ?_) ?_
 ·intro s1 y5 E W h hI
  obtain ⟨v5,hE,s⟩:=hI
  refine CW.sub hE ?_
  unfold ey at h
  refine .g (.qn z (.seq ?_))
  refine .cs z h ?_ ?_ <;> intro h
  ·refine .skip (.seq (.block (.g (bv h λx1 hx1 h=>?_))))
   obtain ⟨k1,hd,hck1⟩:=RV.el2 cE hx1
   have hd1:=pV hd
   obtain ⟨v8,k1,rfl,q5,hd2⟩:=cQ cE hd1
   obtain ⟨k1,rfl,hd3⟩:=dA cE z hd2
   obtain ⟨v9,k1,rfl,q6,hd4⟩:=cQ cE hd3
   obtain rfl:=gi cE hd4
   refine .s (ixv (s.keep cE) hx1 u52 t28 z z z) z (.s (lde (hck1 _ s.agree) t28 z z z z z) z (.c (.alloc t28 s ?_)))
   intro g4 W s
   refine .c (.st t28 s z z z ?_)
   intro W s
   refine .nil (bv h λb1 hb1 h=>bv h λr1 hr1 h=>?_)
   refine .via (R':=λx E' W'=>x=.normal/\∃ (v10:Hd),aB E' [(2,Pt g2),(3,Pt g3),(22,(sv dS)),(23,vi (a0.Harts.length:Int)),(24,vi s1.1)]/\Sep No w W' [.box g4 28 [sv v8,vi x1.Pc,sv v9],.box g3 50 [sv v1,sv v2,sv v10,.bool y2.Rest],ae (sv v1) 3 1 (D.int .i64) y2.Out,ae (sv v2) 23 1 (λ(l:List Int)=>D.row 3 1 (l.map (D.int .i64))) y2.Items,.box g2 50 [sv aw,sv aw,sv aw,.bool false],.box g1 54 [sv dS,sv aM,vi a0.Turn,vi a0.Idle,sv be],ae (sv v10) 4 1 D.bool r1]) ?_ ?_
   ·refine .rk 15 s [0,0,0,0,0,0] T.mix ?_
    intro W s
    have t:=s.to [0,0,0,0,0,0]
    refine .ts' 0 z (λW t=>fa f50_2 z z z) t z (.ts' 1 z (λW t=>ld t48 t.p1 z z z z z) t z (.ts' 2 z (λW t=>fa f28_1 z z z) t z (.ts' 3 z (λW t=>ld T.t3 t z z z z z) t z (.tp' 4 z z t (.tp' 5 z z t (.both (x1.Pc==0) (λb=>?_) (λb=>?_)))))))
    ·have hg1:=b
     have h_b1:=aJ b hb1
     refine .t1g 6 z hg1 (λW t=>fa f28_0 z z z) t (.t1g 7 z hg1 (λW t=>ld t23 t z z z z z) t (bv h_b1 λx2 hx2 h_b1=>.t1g 8 z hg1 (λW t=>ixv (s.keep (q5 _ cE)) hx2 u23 T.t3 z z z) t (.t1g 9 z hg1 (λW t=>lde (RV.flat (t.keep (q5 _ cE)) hx2 z) T.t3 z z z z z) t (.t1g 10 z hg1 (λW t=>pr z) t (.ts' 11 z (λW t=>pkt hg1 z z z) t z (.eqv 39 z (oc h_b1) (.by1 12 z (.liv [b1] D.bool u48 t4 s z z z z ?_ z (λ_=>z))))) (by kernel_rfl) z z) (by kernel_rfl) z z) (by kernel_rfl) z z) (by kernel_rfl) z z) (by kernel_rfl) z z
     intro v11 W s
     refine s.an [1,1,1,1,1,1] λt=>?_
     have hT0:=s.p7
     refine .by1 13 z (.av hr1 hT0 hT0.p1.lv (λ_=>z) u48 t4 z z z ?_)
     intro v12 W s
     refine s.an [2,2,2,2,2,2] λt=>.ts' 14 z (λW t=>fa f50_2 z z z) t z (.by1 15 z (.st t48 s.p3 z z z ?_))
     intro W s
     refine ⟨λh=>absurd z h,?_⟩
     exact .done (⟨z,v12,sb z,s.tk [3,0,2,2,2,2,0]⟩)
    refine .off 6 z b t (.off 7 z b t (.off 8 z b t (.off 9 z b t (.off 10 z b t (.ts' 11 z (λW t=>pkf b z z z) t z (.eqv 39 z (oc (aK b hb1)) (.by1 12 z (.liv [b1] D.bool u48 t4 s z z z z ?_ z (λ_=>z))))) (by kernel_rfl) z z) (by kernel_rfl) z z) (by kernel_rfl) z z) (by kernel_rfl) z z) (by kernel_rfl) z z
    intro v13 W s
    refine s.an [1,1,1,1,1,1] λt=>?_
    have hT0:=s.p7
    refine .by1 13 z (.av hr1 hT0 hT0.p1.lv (λ_=>z) u48 t4 z z z ?_)
    intro v14 W s
    refine s.an [2,2,2,2,2,2] λt=>.ts' 14 z (λW t=>fa f50_2 z z z) t z (.by1 15 z (.st t48 s.p3 z z z ?_))
    intro W s
    refine ⟨λh=>absurd z h,?_⟩
    exact .done (⟨z,v14,sb z,s.tk [3,0,2,2,2,2,0]⟩)
   intro x E W hJ
   obtain ⟨rfl,v15,hE,s⟩:=hJ
   refine ⟨_,hE.sub,?_⟩
   refine .region (.q z (.q z (.nil ?_)))
   cases h
   exact ⟨z,v15,sb z,s.to [1,1,1,1,1,1]⟩
  refine .exit ?_
  cases h
  exact ⟨by simp,z,v5,sb z,s.to [0,0,0,0,0,0]⟩
 intro x E W hJ
 obtain ⟨rfl,v16,hE,s⟩:=hJ
 refine ⟨_,hE.sub,?_⟩
 refine .g (.s (ld t50 s z z z z z) z (.c (.st t50 s.p3 z z z ?_)))
 intro W s
 cases h
 exact .nil (.ret (ac (v1,v2,v16) (rc s t50 z rn z z) z (s.to [2,2,3])))
theorem vf {a0:List Instr} {v_0:Hd} {w:World} {r:al×Bool} (h:ga a0=some r) (q_0:RO w v_0 105 5 aP a0) (hG:Gl w):CL 100 #[sv v_0] w (Ret No w (λs:Hd×Hd=>.tuple #[.agg #[(sv s.1),vi r.1.Pc,(sv s.2)],.bool r.2]) (λs=>[ae (sv s.1) 3 1 (D.int .i64) r.1.Regs,ae (sv s.2) 3 1 (D.int .i64) r.1.Mem])):=by
 unfold ga at h
 refine ar func100 z z ?_
 have s:=Sep.start w
 refine .g (.c (.alloc t28 s ?_))
 intro g1 W s
 refine .qn z (.g (.q z (bv h λy1 hy1 h=>.c (.cV s func29 (uU hy1 (s.keep q_0) (hG.at s (λ_ _ h=>h))) z z ?_))))
 intro v1 W s
 refine .q z (.q z (.q z (.q z (.qn z (.seq (.g (.q z (.q z (.q z (.cu 6 20 ((!y1.2)||(decide ((w64 ((w64 ((y1.1.length:Int)+1))+12))>10000))) s ?_ ?_))))))))))
 ·refine .both (!y1.2) (λb=>?_) (λb=>?_)
  ·exact .xx b z (.xx b z (.xx b z (.xx b z (.xx b z (.s (pkt b z z z) z (.nil (ck 6 s z (fk b))))))))
  have hg1:=b
  exact .g hg1 (.q z (.g hg1 (.s (aZ s.lv u23 z z) z (.g hg1 (.q z (.g hg1 (.q z (.g hg1 (.q z (.s (pkf hg1 z z z) z (.nil (ck 6 s z (fp hg1)))))))))))))
 intro W s
 refine .nil ?_
 refine .cs z h ?_ ?_ <;> intro h
 ·refine .g (.s (bs T.s28 z z) z (.c (.st t28 s.p1 z z z ?_)))
  intro W s
  refine .qn z (.ret ?_)
  have s:=s.nilv 3 1 (D.int .i64)
  have s:=s.nilv 3 1 (D.int .i64)
  cases h
  exact ac (vs:=[_,_]) (aw,aw) (rc s.p2 t28 z (rt z rn) z z) z (s.to [1,0])
 refine .skip (.seq (bv h λr1 hr1 h=>bv h λr2 hr2 h=>?_))
 refine .via (R':=λx E' W'=>x=.normal/\∃ (g2:Nat) (v2:Hd) (v3:Hd),aB E' [(2,Pt g1),(6,Pt g2)]/\Sep No w W' [ae (sv v1) 3 1 (D.int .i64) y1.1,.box g1 28 [sv aw,vi 0,sv aw],.box g2 28 [sv v2,vi 4,sv v3],ae (sv v2) 3 1 (D.int .i64) r1,ae (sv v3) 3 1 (D.int .i64) r2]) ?_ ?_
 ·refine .rk 6 s [0,0] T.mix ?_
  intro W s
  have t:=s.to [0,0]
  refine .memo (λE' W'=>∃ (v6:Hd) (v7:Hd),aB E' [(2,Pt g1),(22,(sv v6)),(25,(sv v7))]/\Sep No w W' [ae (sv v1) 3 1 (D.int .i64) y1.1,.box g1 28 [sv aw,vi 0,sv aw],ae (sv v6) 3 1 (D.int .i64) r1,ae (sv v7) 3 1 (D.int .i64) r2]) 3 (oe 7 [0,1,2,3]) ?_ ?_
  ·intro E W hJ
   obtain ⟨v8,v9,hE,s⟩:=hJ
   refine .sub hE ?_
   have t:=s.to [0,0]
   refine .ts' 4 z (λW t=>bs T.s28 z z) t z (.by1 5 z (.alloc t28 s ?_))
   intro g3 W s
   refine s.an [1,1] λt=>.by1 6 z (.st t28 s z z z ?_)
   intro W s
   refine ⟨λh=>absurd z h,?_⟩
   exact .done (⟨z,g3,v8,v9,sb z,s.to [1,1,0,0,0]⟩)
  intro J1
  refine .memo (λE' W'=>∃ (g5:Nat) (v12:Hd) (v13:Hd),aB E' [(2,Pt g1),(6,Pt g5),(22,(sv v12)),(23,(sv v13)),(24,(sv v1))]/\Sep No w W' [ae (sv v1) 3 1 (D.int .i64) y1.1,.box g1 28 [sv aw,vi 0,sv aw],.box g5 28 [sv aw,vi 0,sv aw],ae (sv v12) 3 1 (D.int .i64) r1,ae (sv v13) 3 1 (D.int .i64) [0]]) 3 (oe 7 [0,1,2,5]) ?_ ?_
  ·intro E W hJ
   obtain ⟨g6,v14,v15,hE,s⟩:=hJ
   refine .sub hE ?_
   have t:=s.to [0,0]
   have hT0:=s.p4
   refine .by1 3 z (.av hr2 hT0 hT0.p1.lv (λ_=>z) u23 T.t3 z z z ?_)
   intro v16 W s
   refine s.an [1,1] λt=>.ts' 4 z (λW t=>bs T.s28 z z) t z (.by1 6 z (.st t28 s.p3 z z z ?_))
   intro W s
   refine ⟨λh=>absurd z h,?_⟩
   exact .done (⟨z,g6,v14,v16,sb z,s.to [2,2,0,1,0]⟩)
  intro J2
  refine .memo (λE' W'=>∃ (g8:Nat) (v18:Hd),aB E' [(2,Pt g1),(6,Pt g8),(25,(sv v18))]/\Sep No w W' [ae (sv v1) 3 1 (D.int .i64) y1.1,.box g1 28 [sv aw,vi 0,sv aw],.box g8 28 [sv aw,vi 0,sv aw],ae (sv v18) 3 1 (D.int .i64) r2]) 3 (oe 7 [1,2,3,5]) ?_ ?_
  ·intro E W hJ
   obtain ⟨g9,v19,hE,s⟩:=hJ
   refine .sub hE ?_
   have t:=s.to [0,0]
   refine .by1 0 z (.mkv 0 (D.int .i64) hr1 u23 T.t3 s z z z z z (λ_=>z) ?_)
   intro v20 W s
   refine s.an [1,1] λt=>.ts' 4 z (λW t=>bs T.s28 z z) t z (.by1 6 z (.st t28 s.p3 z z z ?_))
   intro W s
   refine ⟨λh=>absurd z h,?_⟩
   exact .done (⟨z,g9,v20,v19,sb z,s.to [2,2,0,0,0]⟩)
  intro J3
  refine .memo (λE' W'=>∃ (v23:Hd) (v24:Hd),aB E' [(2,Pt g1),(22,(sv v23)),(23,(sv v24)),(24,(sv v1))]/\Sep No w W' [ae (sv v1) 3 1 (D.int .i64) y1.1,.box g1 28 [sv aw,vi 0,sv aw],ae (sv v23) 3 1 (D.int .i64) r1,ae (sv v24) 3 1 (D.int .i64) [0]]) 4 (oe 7 [0,1,2]) ?_ ?_
  ·intro E W hJ
   obtain ⟨v25,v26,hE,s⟩:=hJ
   refine .sub hE ?_
   have t:=s.to [0,0]
   refine .by [3,5] ⟨⟨_,z,?_⟩,⟨_,z,?_⟩,trivial⟩
   ·have hT0:=s.p3
    refine (.av hr2 hT0 hT0.p1.lv (λ_=>z) u23 T.t3 z z z ?_)
    intro v27 W s
    refine s.an [1,1] λt=>?_
    exact .atl (J1 _ _ ⟨v25,v27,sb z,s.to [1,1,1,0]⟩) (by kernel_rfl)
   refine (.alloc t28 s ?_)
   intro g10 W s
   refine s.an [1,1] λt=>?_
   exact .atl (J2 _ _ ⟨g10,v25,v26,sb z,s.to [1,1,0,0,0]⟩) (by kernel_rfl)
  intro J4
  refine .memo (λE' W'=>∃ (g12:Nat) (v29:Hd),aB E' [(2,Pt g1),(6,Pt g12),(23,(sv v29)),(24,(sv v1))]/\Sep No w W' [ae (sv v1) 3 1 (D.int .i64) y1.1,.box g1 28 [sv aw,vi 0,sv aw],.box g12 28 [sv aw,vi 0,sv aw],ae (sv v29) 3 1 (D.int .i64) [0]]) 4 (oe 7 [1,2,5]) ?_ ?_
  ·intro E W hJ
   obtain ⟨g13,v30,hE,s⟩:=hJ
   refine .sub hE ?_
   have t:=s.to [0,0]
   refine .by [0,3] ⟨⟨_,z,?_⟩,⟨_,z,?_⟩,trivial⟩
   ·refine (.mkv 0 (D.int .i64) hr1 u23 T.t3 s z z z z z (λ_=>z) ?_)
    intro v31 W s
    refine s.an [1,1] λt=>?_
    exact .atl (J2 _ _ ⟨g13,v31,v30,sb z,s.to [1,1,1,0,0]⟩) (by kernel_rfl)
   have hT0:=s.p3
   refine (.av hr2 hT0 hT0.p1.lv (λ_=>z) u23 T.t3 z z z ?_)
   intro v32 W s
   refine s.an [1,1] λt=>?_
   exact .atl (J3 _ _ ⟨g13,v32,sb z,s.to [1,1,1,0]⟩) (by kernel_rfl)
  intro J5
  refine .tp' 2 z z t (.by [0,1,5] ⟨⟨_,z,?_⟩,⟨_,z,?_⟩,⟨_,z,?_⟩,trivial⟩)
  ·refine (.mkv 0 (D.int .i64) hr1 u23 T.t3 s z z z z z (λ_=>z) ?_)
   intro v33 W s
   refine s.an [1,1] λt=>.by [1,5] ⟨⟨_,z,?_⟩,⟨_,z,?_⟩,trivial⟩
   ·refine (.liv [0] (D.int .i64) u23 T.t3 s z z z z ?_ z (λ_=>z))
    intro v34 W s
    refine s.an [2,2] λt=>?_
    exact .atl (J4 _ _ ⟨v33,v34,sb z,s.to [2,2,1,0]⟩) (by kernel_rfl)
   refine (.alloc t28 s ?_)
   intro g14 W s
   refine s.an [2,2] λt=>.by1 1 z (.liv [0] (D.int .i64) u23 T.t3 s z z z z ?_ z (λ_=>z))
   intro v35 W s
   refine s.an [3,3] λt=>?_
   have hT0:=s
   refine .by1 3 z (.av hr2 hT0 hT0.p3.lv (λ_=>z) u23 T.t3 z z z ?_)
   intro v36 W s
   refine s.an [3,3] λt=>.ts' 4 z (λW t=>bs T.s28 z z) t z (.by1 6 z (.st t28 s.p1 z z z ?_))
   intro W s
   refine ⟨λh=>absurd z h,?_⟩
   exact .done (⟨z,g14,v33,v36,sb z,s.to [3,3,0,1,0]⟩)
  ·refine (.liv [0] (D.int .i64) u23 T.t3 s z z z z ?_ z (λ_=>z))
   intro v37 W s
   refine s.an [1,1] λt=>.by [0,3,5] ⟨⟨_,z,?_⟩,⟨_,z,?_⟩,⟨_,z,?_⟩,trivial⟩
   ·refine (.mkv 0 (D.int .i64) hr1 u23 T.t3 s z z z z z (λ_=>z) ?_)
    intro v38 W s
    refine s.an [2,2] λt=>?_
    exact .atl (J4 _ _ ⟨v38,v37,sb z,s.to [2,2,0,0]⟩) (by kernel_rfl)
   ·have hT0:=s
    refine (.av hr2 hT0 hT0.p1.lv (λ_=>z) u23 T.t3 z z z ?_)
    intro v39 W s
    refine s.an [1,1] λt=>.by [0,5] ⟨⟨_,z,?_⟩,⟨_,z,?_⟩,trivial⟩
    ·refine (.mkv 0 (D.int .i64) hr1 u23 T.t3 s z z z z z (λ_=>z) ?_)
     intro v40 W s
     refine s.an [2,2] λt=>?_
     exact .atl (J1 _ _ ⟨v40,v39,sb z,s.to [2,2,0,0]⟩) (by kernel_rfl)
    refine (.alloc t28 s ?_)
    intro g15 W s
    refine s.an [2,2] λt=>?_
    exact .atl (J3 _ _ ⟨g15,v39,sb z,s.to [2,2,0,0]⟩) (by kernel_rfl)
   refine (.alloc t28 s ?_)
   intro g16 W s
   refine s.an [2,2] λt=>?_
   exact .atl (J5 _ _ ⟨g16,v37,sb z,s.to [2,2,0,0]⟩) (by kernel_rfl)
  refine (.alloc t28 s ?_)
  intro g17 W s
  refine s.an [1,1] λt=>.by [0,1] ⟨⟨_,z,?_⟩,⟨_,z,?_⟩,trivial⟩
  ·refine (.mkv 0 (D.int .i64) hr1 u23 T.t3 s z z z z z (λ_=>z) ?_)
   intro v41 W s
   refine s.an [2,2] λt=>.by1 1 z (.liv [0] (D.int .i64) u23 T.t3 s z z z z ?_ z (λ_=>z))
   intro v42 W s
   refine s.an [3,3] λt=>?_
   have hT0:=s
   refine .by1 3 z (.av hr2 hT0 hT0.p3.lv (λ_=>z) u23 T.t3 z z z ?_)
   intro v43 W s
   refine s.an [3,3] λt=>.ts' 4 z (λW t=>bs T.s28 z z) t z (.by1 6 z (.st t28 s.p2 z z z ?_))
   intro W s
   refine ⟨λh=>absurd z h,?_⟩
   exact .done (⟨z,g17,v41,v43,sb z,s.to [3,3,0,1,0]⟩)
  refine (.liv [0] (D.int .i64) u23 T.t3 s z z z z ?_ z (λ_=>z))
  intro v44 W s
  refine s.an [2,2] λt=>?_
  exact .atl (J5 _ _ ⟨g17,v44,sb z,s.to [2,2,1,0]⟩) (by kernel_rfl)
 intro x E W hJ
 obtain ⟨rfl,g18,v45,v46,hE,s⟩:=hJ
 refine ⟨_,hE.sub,?_⟩
 refine .g (.s (fa f28_0 z z z) z (.s (ld t23 s.p2 z z z z z) z (.s (fa f28_2 z z z) z (.s (ld t23 s.p2 z z z z z) z (.s (aZ s.p4.lv u23 z z) z (.q z (bv h λx1 hx1 h=>.s (ixv s.p3.lv hx1 u23 T.t3 z z z) z (bv h λr3 hr3 h=>.c (.sev hr3 hx1 s.p3 T.t3 z z z z z z ?_)))))))))
 intro W s
 refine .nil (.g (.s (fa f28_2 z z z) z (.s (ld t23 s.p3 z z z z z) z (bv h λr4 hr4 h=>.c (.appz 0 hr4 s.p4 u23 u3 T.t3 z z z z ?_ (λ_=>z))))))
 intro v47 W s
 refine .s (fa f28_2 z z z) z (.c (.st t23 s.p4 z z z ?_))
 intro W s
 refine .nil (.g (.s (ld t28 s z z z z z) z (.c (.st t28 s.p4 z z z ?_))))
 intro W s
 cases h
 exact .qn z (.ret (ac (vs:=[_,_]) (v45,v47) (rc s t28 z (rt z rn) z z) z (s.to [3,2])))
def vg (w:World) (r:bQ×Bool):Env->World->Prop:=Fin Tryz.prog Tryz.f52 No w (λs:Hd×Hd×Hd=>.tuple #[.agg #[(sv s.1),(sv s.2.1),vi r.1.Turn,vi r.1.Idle,(sv s.2.2)],.bool r.2]) (λs=>[ae (sv s.1) 28 3 bo r.1.Harts,ae (sv s.2.1) 95 2 bp r.1.Boxes,ae (sv s.2.2) 3 1 (D.int .i64) r.1.Out]) .ret
theorem ur {a0:List Int} {a1:List (List Instr)} {v_0:Hd} {v_1:Hd} {w:World} {r:bQ×Bool} (h:iG a0 a1=some r) (q_0:RO w v_0 3 1 (D.int .i64) a0) (q_1:RO w v_1 66 1 (λ(l:List Instr)=>D.row 105 5 (l.map aP)) a1) (hG:Gl w):CL 52 #[sv v_0,sv v_1] w (Ret No w (λs:Hd×Hd×Hd=>.tuple #[.agg #[(sv s.1),(sv s.2.1),vi r.1.Turn,vi r.1.Idle,(sv s.2.2)],.bool r.2]) (λs=>[ae (sv s.1) 28 3 bo r.1.Harts,ae (sv s.2.1) 95 2 bp r.1.Boxes,ae (sv s.2.2) 3 1 (D.int .i64) r.1.Out])):=by
 unfold iG at h
 refine ar func52 z z ?_
 have s:=Sep.start w
 refine .g (.c (.alloc t54 s ?_))
 intro g1 W s
 refine .qn z (.seq (.g (.q z (bv h λy1 hy1 h=>.c (.cO s func28 (nR hy1 (s.keep q_0)) z z ?_)))))
 intro W s
 refine .q z (.q z (.cu 4 18 ((!y1)||(decide ((a1.length:Int)<1))) s ?_ ?_))
 ·refine .both (!y1) (λb=>?_) (λb=>?_)
  ·exact .xx b z (.xx b z (.xx b z (.s (pkt b z z z) z (.nil (ck 4 s z (fk b))))))
  have hg1:=b
  exact .g hg1 (.q z (.g hg1 (.s (aZ (s.keep q_1) u24 z z) z (.g hg1 (.q z (.s (pkf hg1 z z z) z (.nil (ck 4 s z (fp hg1)))))))))
 intro W s
 refine .q z (.cu 4 23 (((!y1)||(decide ((a1.length:Int)<1)))||(decide ((a1.length:Int)>3))) s ?_ ?_)
 ·refine .both ((!y1)||(decide ((a1.length:Int)<1))) (λb=>?_) (λb=>?_)
  ·exact .xx b z (.xx b z (.xx b z (.s (pkt b z z z) z (.nil (ck 4 s z (fk b))))))
  have hg2:=b
  exact .g hg2 (.q z (.g hg2 (.s (aZ (s.keep q_1) u24 z z) z (.g hg2 (.q z (.s (pkf hg2 z z z) z (.nil (ck 4 s z (fp hg2)))))))))
 intro W s
 refine .nil ?_
 refine .cs z h ?_ ?_ <;> intro h
 ·refine .g (.s (bs T.s54 z z) z (.c (.st t54 s z z z ?_)))
  intro W s
  refine .qn z (.ret ?_)
  have s:=s.nilv 28 3 bo
  have s:=s.nilv 95 2 bp
  have s:=s.nilv 3 1 (D.int .i64)
  cases h
  exact ac (vs:=[_,_]) (aw,aw,aw) (rc s.p3 t54 z (rt z rn) z z) z (s.to [2,1,0])
 refine .skip (.g (.q z (bv h λy2 hy2 h=>.c (.cV s func42 (pd hy2 (s.keep q_0)) z z ?_))))
 intro v1 W s
 refine .s (bs T.s54 z z) z (.c (.alloc t54 s ?_))
 intro g2 W s
 refine .c (.st t54 s z z z ?_)
 intro W s
 refine .nil (.seq (.g (.q z (.s (aZ (s.keep q_1) u24 z z) z (.qn z (.block ?_))))))
 have s:=s.nilv 28 3 bo
 refine bv h λy3 hy3 h=>?_
 refine .via (.iter (λs1 E' W'=>∃ (v4:Hd),aB E' [(4,Pt g1),(6,Pt g2),(28,(sv v_1)),(29,vi (a1.length:Int)),(30,vi s1.1)]/\Sep No w W' [.box g2 54 [sv v4,sv v1,vi 0,vi 0,sv aw],ae (sv v1) 95 2 bp y2,.box g1 54 [sv aw,sv aw,vi 0,vi 0,sv aw],ae (sv v4) 28 3 bo s1.2]) (λy4 x E' W'=>(match y4 with | .inl o1=>x=.ret/\vg w o1 E' W' | .inr o2=>x=.exit 0/\∃ (v5:Hd),aB E' [(4,Pt g1),(6,Pt g2)]/\Sep No w W' [.box g2 54 [sv v5,sv v1,vi 0,vi 0,sv aw],ae (sv v1) 95 2 bp y2,.box g1 54 [sv aw,sv aw,vi 0,vi 0,sv aw],ae (sv v5) 28 3 bo o2])) hy3 ⟨aw,sb rfl,s.to [1,1,1,0] rfl⟩ ?_) ?_
 ·intro s1 y5 E W h hI
  obtain ⟨v3,hE,s⟩:=hI
  refine CW.sub hE ?_
  unfold gM at h
  refine .g (.qn z (.seq ?_))
  refine .cs z h ?_ ?_ <;> intro h
  ·refine .skip (.seq (.block (.g (bv h λx1 hx1 h=>?_))))
   obtain ⟨k1,hd,hck1⟩:=RV.el2 q_1 hx1
   obtain ⟨v6,k1,rfl,q5,hd1⟩:=cQ q_1 hd
   obtain rfl:=gi q_1 hd1
   refine .s (ixv (s.keep q_1) hx1 u24 t66 z z z) z (.s (lde (hck1 _ s.agree) t66 z z z z z) z (.qn z (.g (.q z (bv h λy6 hy6 h=>.c (.call s func100 (vf hy6 (s.keep (q5 _ q_1)) (hG.at s (λ_ _ h=>h))) z z ?_))))))
   rintro ⟨v7,v8⟩ W s
   refine .q z (.q z (.q z (.c (.alloc t28 s ?_))))
   intro g3 W s
   refine .c (.st t28 s z z z ?_)
   intro W s
   refine .qn z (.seq (.g (.q z (.q z (.nil ?_)))))
   refine .cs z h ?_ ?_ <;> intro h
   ·refine .g (.s (bs T.s54 z z) z (.c (.st t54 s.p5 z z z ?_)))
    intro W s
    refine .qn z (.ret ?_)
    have s:=s.nilv 28 3 bo
    have s:=s.nilv 95 2 bp
    have s:=s.nilv 3 1 (D.int .i64)
    cases h
    exact ⟨by simp,z,ac (vs:=[_,_]) (aw,aw,aw) (rc s.p3 t54 z (rt z rn) z z) z (s.to [2,1,0])⟩
   refine .skip (.region (.s (fa f54_0 z z z) z (.s (ld t52 s.p3 z z z z z) z (.s (ld t28 s z z z z z) z (.c (.lg (L1:=[ae (sv v7) 3 1 (D.int .i64) y6.1.Regs,ae (sv v8) 3 1 (D.int .i64) y6.1.Mem]) [(al.mk y6.1.Regs y6.1.Pc y6.1.Mem)] bo u52 t28 (s.to [1,1,0,0,0,0,0]) z z z (.agg (.row (.flat (c1:=[vi y6.1.Pc]) z (.row .nil)))) ?_ z (λ_=>z)))))))
   intro v9 W s
   refine bv h λr1 hr1 h=>.c (.appv hr1 (s.to [5,0,0,0,0,0]) u52 t28 z z z ?_)
   intro v10 W s
   refine .s (fa f54_0 z z z) z (.c (.st t52 s.p2 z z z ?_))
   intro W s
   refine .nil (.region (.q z (.q z (.nil ?_))))
   cases h
   exact ⟨z,v10,sb z,s.to [0,2,2,0]⟩
  refine .exit ?_
  cases h
  exact ⟨by simp,z,v3,sb z,s.to [0,0,0,0]⟩
 intro x E W hJ
 rcases y3 with o3 | o4
 ·obtain ⟨rfl,hF⟩:=hJ
  refine ⟨_,λ_ _ h=>h,?_⟩
  cases h
  exact hF
 obtain ⟨rfl,v11,hE,s⟩:=hJ
 refine ⟨_,hE.sub,?_⟩
 refine .g (.s (ld t54 s z z z z z) z (.c (.st t54 s.p2 z z z ?_)))
 intro W s
 refine .qn z (.ret ?_)
 have s:=s.nilv 3 1 (D.int .i64)
 cases h
 exact ac (vs:=[_,_]) (v11,v1,aw) (rc s.p1 t54 z (rt z rn) z z) z (s.to [4,3,0])
theorem gg {a0:List Box} {v_0:Hd} {w:World} {r:(List Box)} (h:ez a0=some r) (q_0:RO w v_0 95 2 bp a0):CL 101 #[sv v_0] w (Ret No w (λs:Hd=>(sv s)) (λs=>[ae (sv s) 95 2 bp r])):=by
 unfold ez at h
 refine ar func101 z z ?_
 have s:=Sep.start w
 refine .g (.qn z (.g (.qn z (.seq (.g (.q z (.s (aZ (s.keep q_0) u40 z z) z (.qn z (.block ?_)))))))))
 have s:=s.nilv 95 2 bp
 refine bv h λy1 hy1 h=>?_
 refine .via (.iter (λs1 E' W'=>∃ (v3:Hd),aB E' [(3,(sv v3)),(6,(sv v_0)),(7,vi (a0.length:Int)),(8,vi s1.2)]/\Sep No w W' [ae (sv v3) 95 2 bp s1.1]) (λy2 x E' W'=>x=.exit 0/\∃ (v4:Hd),aB E' [(3,(sv v4))]/\Sep No w W' [ae (sv v4) 95 2 bp y2]) hy1 ⟨aw,sb z,s.to [0]⟩ ?_) ?_
 ·intro s1 y3 E W h hI
  obtain ⟨v2,hE,s⟩:=hI
  refine CW.sub hE ?_
  unfold dH at h
  refine .g (.qn z (.seq ?_))
  refine .cs z h ?_ ?_ <;> intro h
  ·refine .skip (.seq (.block (.g (bv h λx1 hx1 h=>?_))))
   obtain ⟨k1,hd,hck1⟩:=RV.el2 q_0 hx1
   have hd1:=pV hd
   obtain ⟨k1,rfl,hd2⟩:=dA q_0 z hd1
   obtain ⟨v5,k1,rfl,q5,hd3⟩:=cQ q_0 hd2
   obtain rfl:=gi q_0 hd3
   refine .s (ixv (s.keep q_0) hx1 u40 t95 z z z) z (.s (lde (hck1 _ s.agree) t95 z z z z z) z (.c (.alloc t95 s ?_)))
   intro g1 W s
   refine .c (.st t95 s z z z ?_)
   intro W s
   refine .nil (.rk 10 s [0] T.mix ?_)
   intro W s
   have t:=s.to [0]
   refine .tp' 0 z z t (.ts' 1 z (λW t=>fa f95_0 z z z) t z (.ts' 2 z (λW t=>ld T.t3 t z z z z z) t z (.ts' 3 z (λW t=>fa f95_1 z z z) t z (.ts' 4 z (λW t=>ld t23 t z z z z z) t z (bv h λy4 hy4 h=>.by1 5 z (.cV s func58 (aV hy4 (s.keep (q5 _ q_0))) z z ?_))))))
   intro v6 W s
   refine s.an [1] λt=>.ts' 6 z (λW t=>bs T.s95 z z) t z (.by1 7 z (.lg (L1:=[ae (sv v6) 3 1 (D.int .i64) y4]) [(Box.mk x1.Room y4)] bp u40 t95 (s.to [0,0,0]) z z z (.agg (.flat (c1:=[vi x1.Room]) z (.row .nil))) ?_ z (λ_=>z)))
   intro v7 W s
   refine s.an [1] λt=>bv h λr1 hr1 h=>.by1 8 z (.appv hr1 (s.to [2,0,0]) u40 t95 z z z ?_)
   intro v8 W s
   refine s.an [1] λt=>.tp' 9 z z t (.done (.region (.q z (.q z (.nil ?_)))))
   cases h
   exact ⟨z,v8,sb z,s.to [0]⟩
  refine .exit ?_
  cases h
  exact ⟨by simp,z,v2,sb z,s.to [0]⟩
 intro x E W hJ
 obtain ⟨rfl,v9,hE,s⟩:=hJ
 refine ⟨_,hE.sub,?_⟩
 obtain rfl:=o9 h
 exact .g (.q z (.qn z (.ret (ac v9 (rt z rn) z (s.to [0])))))
end
noncomputable section
theorem pi {a0:Int} {a1:Int} {a2:Int} {a3:Int} {w:World} {r:Int×Int×Bool} (h:eY a0 a1 a2 a3=some r):CL 153 #[vi a0,vi a1,vi a2,vi a3] w (RU w (.tuple #[vi r.1,vi r.2.1,.bool r.2.2])):=by
 unfold eY at h
 refine ar func153 z z ?_
 have s:=Sep.start w
 refine .g (.q z (.q z (.qn z (.seq (.g (.q z (.q z (.q z (.cu 3 16 ((decide (a0<1))||(decide (a0>3))) s ?_ ?_)))))))))
 ·refine .both (decide (a0<1)) (λb=>?_) (λb=>?_)
  ·exact .xx b z (.xx b z (.s (pkt b z z z) z (.nil (ck 3 s z (fk b)))))
  have hg1:=b
  exact .g hg1 (.q z (.g hg1 (.q z (.s (pkf hg1 z z z) z (.nil (ck 3 s z (fp hg1)))))))
 intro W s
 refine .q z (.cu 3 20 (((decide (a0<1))||(decide (a0>3)))||(decide (a1<0))) s ?_ ?_)
 ·refine .both ((decide (a0<1))||(decide (a0>3))) (λb=>?_) (λb=>?_)
  ·exact .xx b z (.xx b z (.s (pkt b z z z) z (.nil (ck 3 s z (fk b)))))
  have hg2:=b
  exact .g hg2 (.q z (.g hg2 (.q z (.s (pkf hg2 z z z) z (.nil (ck 3 s z (fp hg2)))))))
 intro W s
 refine .q z (.cu 4 25 ((((decide (a0<1))||(decide (a0>3)))||(decide (a1<0)))||(decide (a1>=a0))) s ?_ ?_)
 ·refine .both (((decide (a0<1))||(decide (a0>3)))||(decide (a1<0))) (λb=>?_) (λb=>?_)
  ·exact .xx b z (.xx b z (.xx b z (.s (pkt b z z z) z (.nil (ck 4 s z (fk b))))))
  have hg3:=b
  exact .g hg3 (.q z (.g hg3 (.q z (.g hg3 (.q z (.s (pkf hg3 z z z) z (.nil (ck 4 s z (fp hg3)))))))))
 intro W s
 refine .q z (.cu 3 29 (((((decide (a0<1))||(decide (a0>3)))||(decide (a1<0)))||(decide (a1>=a0)))||(decide (a2<0))) s ?_ ?_)
 ·refine .both ((((decide (a0<1))||(decide (a0>3)))||(decide (a1<0)))||(decide (a1>=a0))) (λb=>?_) (λb=>?_)
  ·exact .xx b z (.xx b z (.s (pkt b z z z) z (.nil (ck 3 s z (fk b)))))
  have hg4:=b
  exact .g hg4 (.q z (.g hg4 (.q z (.s (pkf hg4 z z z) z (.nil (ck 3 s z (fp hg4)))))))
 intro W s
 refine .q z (.cu 4 34 ((((((decide (a0<1))||(decide (a0>3)))||(decide (a1<0)))||(decide (a1>=a0)))||(decide (a2<0)))||(decide (a2>=a0))) s ?_ ?_)
 ·refine .both (((((decide (a0<1))||(decide (a0>3)))||(decide (a1<0)))||(decide (a1>=a0)))||(decide (a2<0))) (λb=>?_) (λb=>?_)
  ·exact .xx b z (.xx b z (.xx b z (.s (pkt b z z z) z (.nil (ck 4 s z (fk b))))))
  have hg5:=b
  exact .g hg5 (.q z (.g hg5 (.q z (.g hg5 (.q z (.s (pkf hg5 z z z) z (.nil (ck 4 s z (fp hg5)))))))))
 intro W s
 refine .nil ?_
 refine .cs z h ?_ ?_ <;> intro h
 ·cases h
  exact .g (.q z (.q z (.qn z (.ret (ac (vs:=[_,_,_]) () (rt z (rt z (rt z rn))) z (s.to []))))))
 refine .skip (.seq (.g (.qn z (.block (.g (.q z (.q z (.nil ?_))))))))
 refine .cs z h ?_ ?_ <;> intro h
 ·cases h
  exact .g (.q z (.q z (.q z (.qn z (.ret (ac (vs:=[_,_,_]) () (rt z (rt z (rt z rn))) z (s.to [])))))))
 refine .g (.q z (.q z (.nil ?_)))
 refine .cs z h ?_ ?_ <;> intro h
 ·refine .g (.q z (.q z (.q z (bv h λd1 hd1 h=>.s (dr hd1 z z z) z (.q z (.q z (.qn z (.ret ?_))))))))
  cases h
  exact ac (vs:=[_,_,_]) () (rt z (rt z (rt z rn))) z (s.to [])
 refine bv h λy1 hy1 h=>?_
 refine .seq (CW.via (R':=λx E' W'=>x=.normal/\aB E' [(0,vi a0),(1,vi a1),(2,vi a2),(45,.bool y1)]/\Sep No w W' []) ?_ ?_)
 ·have h:=hy1
  refine .g (.q z (.q z (.nil ?_)))
  refine .cs z h ?_ ?_ <;> intro h
  ·refine .skip ?_
   cases h
   exact ⟨z,sb z,s.to []⟩
  refine .region (.q z (.q z (.nil ?_)))
  cases h
  exact ⟨z,sb z,s.to []⟩
 intro x E W hJ
 obtain ⟨rfl,hE,s⟩:=hJ
 refine ⟨_,hE.sub,?_⟩
 refine .cs z h ?_ ?_ <;> intro h
 ·refine .g (.q z (.q z (.q z (bv h λd2 hd2 h=>.s (dr hd2 z z z) z (.q z (.q z (.q z (.q z (.qn z (.ret ?_))))))))))
  cases h
  exact ac (vs:=[_,_,_]) () (rt z (rt z (rt z rn))) z (s.to [])
 cases h
 exact .skip (.g (.q z (.q z (.qn z (.ret (ac (vs:=[_,_,_]) () (rt z (rt z (rt z rn))) z (s.to [])))))))
theorem nY {a0:Box} {a1:Int} {db:Hd} {h_0:Hd} {A_0:Type} {e_0:A_0->D} {l_0:List A_0} {k_0:Nat} {S:Nat->Prop} {w:World} {r:Bool×(List Int)} (h:er a0 a1=some r) (hO:bS w [ae (sv db) 3 1 (D.int .i64) a0.Items,cB (sv h_0) 95 2 e_0 l_0 k_0 [vi a0.Room,sv db]] S) (hlt:∀ b,S b->b<w.heap.size):CL 154 #[.pointer (some (cT (adr (sv h_0)) (k_0*2+0))),vi a1] w (Ret S w (λs:Hd=>.bool r.1) (λs=>[cB (sv h_0) 95 2 e_0 l_0 k_0 [vi a0.Room,sv s],ae (sv s) 3 1 (D.int .i64) r.2])):=by
 unfold er at h
 refine ar func154 z z ?_
 have s:=Sep.sm hO hlt
 refine .g (.qn z (.seq (.seq (.rk 10 s [0,0] T.mix ?_))))
 intro W s
 have t:=s.to [0,0]
 refine .tp' 0 z z t (.tp' 1 z z t (.ts' 2 z (λW t=>fe f95_1 z z z) t z (.ts' 3 z (λW t=>lde (t.p1.hcellsv) t23 z z z z z) t z (.ts' 4 z (λW t=>aZ s.lv u23 z z) t z (.tp' 5 z z t (.tp' 6 z z t (.ts' 7 z (λW t=>fe f95_0 z z z) t z (.ts' 8 z (λW t=>lde (t.p1.hcellsv) T.t3 z z z z z) t z (.tp' 9 z z t (.done ?_))))))))))
 refine .cs z h ?_ ?_ <;> intro h
 ·cases h
  exact .g (.qn z (.ret (ac db (rt z rn) z (s.to [1,0]))))
 refine .skip (.g (.q z (.q z (.q z (.s (fe f95_1 z z z) z (.s (lde (s.p1.hcellsv) t23 z z z z z) z (.q z (.c (.liv [a1] (D.int .i64) u23 T.t3 s z z z z ?_ z (λ_=>z))))))))))
 intro v1 W s
 refine bv h λr1 hr1 h=>?_
 have hT0:=s.p1
 refine .c (.av hr1 hT0 hT0.p1.lv (λ_=>z) u23 T.t3 z z z ?_)
 intro v2 W s
 refine .q z (.s (fe f95_1 z z z) z (.c (.sthv s.p2 t23 z z z ?_)))
 intro W s
 cases h
 exact .nil (.g (.qn z (.ret (ac v2 (rt z rn) z (s.to [0,0])))))
theorem nh {a0:Box} {db:Hd} {h_0:Hd} {A_0:Type} {e_0:A_0->D} {l_0:List A_0} {k_0:Nat} {S:Nat->Prop} {w:World} {r:Int×Bool×(List Int)} (h:dU a0=some r) (hO:bS w [ae (sv db) 3 1 (D.int .i64) a0.Items,cB (sv h_0) 95 2 e_0 l_0 k_0 [vi a0.Room,sv db]] S) (hlt:∀ b,S b->b<w.heap.size):CL 155 #[.pointer (some (cT (adr (sv h_0)) (k_0*2+0)))] w (Ret S w (λs:Hd=>.tuple #[vi r.1,.bool r.2.1]) (λs=>[cB (sv h_0) 95 2 e_0 l_0 k_0 [vi a0.Room,sv s],ae (sv s) 3 1 (D.int .i64) r.2.2])):=by
 unfold dU at h
 refine ar func155 z z ?_
 have s:=Sep.sm hO hlt
 refine .g (.q z (.qn z (.seq (.g (.q z (.q z (.s (fe f95_1 z z z) z (.s (lde (s.p1.hcellsv) t23 z z z z z) z (.s (aZ s.lv u23 z z) z (.q z (.nil ?_)))))))))))
 refine .cs z h ?_ ?_ <;> intro h
 ·cases h
  exact .g (.q z (.qn z (.ret (ac (vs:=[_,_]) db (rt z (rt z rn)) z (s.to [1,0])))))
 refine .skip (.g (.q z (.q z (.s (fe f95_1 z z z) z (.s (lde (s.p1.hcellsv) t23 z z z z z) z (bv h λx1 hx1 h=>.s (ixv s.lv hx1 u23 T.t3 z z z) z (.s (lde (RV.flat s.lv hx1 z) T.t3 z z z z z) z (.qn z (.seq (bv h λr1 hr1 h=>bv h λr2 hr2 h=>.rm 11 (λW=>Sep S w W [cB (sv h_0) 95 2 e_0 l_0 k_0 [vi a0.Room,sv db]]) s T.mix ?_))))))))))
 intro W s
 have t:=s.to [1]
 have hq:=s.lv
 refine .tp 0 z (λW=>pr z) t (.tp 1 z (λW=>pr z) t (.tp 2 z (λW=>pr z) t (.tp 3 z (λW=>fe f95_1 z z z) t (.t1 4 5 z (λW t=>lde (t.hcellsv) t23 z z z z z) t (.tp 6 z (λW=>pr z) t (.tp 7 z (λW=>pr z) t (.tp 8 z (λW=>fe f95_1 z z z) t (.t1 9 10 z (λW t=>lde (t.hcellsv) t23 z z z z z) t (.tp 5 z (λW=>slv Bo hq u23 T.t3 z z z z) t (.tp 10 z (λW=>slv hr1 hq u23 T.t3 z z z z) t (.byd 11 z (.tak hr1 hr2 s (λ_=>z) u23 T.t3 z z z ?_)) (by kernel_rfl) z z) (by kernel_rfl) z z) (by kernel_rfl) z z) (by kernel_rfl) z z) (by kernel_rfl) z z) (by kernel_rfl) z z) (by kernel_rfl) z z) (by kernel_rfl) z z) (by kernel_rfl) z z) (by kernel_rfl) z z) (by kernel_rfl) z z
 intro v1 W s
 refine .byd 12 z (.runs (pr z) z z (.byd 13 z (.runs (fe f95_1 z z z) z z (.byd 14 z (.sthv s.p1 t23 z z z ?_)))))
 intro W s
 cases h
 exact .done (.g (.q z (.q z (.qn z (.ret (ac (vs:=[_,_]) v1 (rt z (rt z rn)) z (s.to [0,0])))))))
def pH (w:World) (S:Nat->Prop) (ao:Hd) (bc:Hd) (h_0:Hd) (A_0:Type) (e_0:A_0->D) (l_0:List A_0) (k_0:Nat) (v_1:Hd) (v_2:Hd) (g_2:Nat) (o_2_0:Value) (o_2_1:Value) (o_2_2:Value) (o_2_3:Value) (a0:al) (a1:List Box) (a2:List Int) (r:Int×(List Int)×Int×(List Int)×(List Box)):Env->World->Prop:=Fin Tryz.prog Tryz.f104 S w (λs:Hd×Hd=>.int .i64 r.1) (λs=>[cB (sv h_0) 28 3 e_0 l_0 k_0 [(sv s.1),vi r.2.2.1,sv bc],ae (sv v_1) 95 2 bp r.2.2.2.2,.box g_2 54 [o_2_0,o_2_1,o_2_2,o_2_3,(sv s.2)],ae (sv s.1) 3 1 (D.int .i64) r.2.1,ae (sv s.2) 3 1 (D.int .i64) r.2.2.2.1]) .ret
theorem pj {a0:al} {a1:List Box} {a2:List Int} {ao:Hd} {bc:Hd} {h_0:Hd} {A_0:Type} {e_0:A_0->D} {l_0:List A_0} {k_0:Nat} {v_1:Hd} {v_2:Hd} {g_2:Nat} {o_2_0 o_2_1 o_2_2 o_2_3:Value} {S:Nat->Prop} {w:World} {r:Int×(List Int)×Int×(List Int)×(List Box)} (h:cG a0 a1 a2=some r) (lQ:RV w (Old S w) (sv bc) 3 1 (D.int .i64) a0.Mem) (hO:bS w [ae (sv ao) 3 1 (D.int .i64) a0.Regs,cB (sv h_0) 28 3 e_0 l_0 k_0 [sv ao,vi a0.Pc,sv bc],ae (sv v_1) 95 2 bp a1,ae (sv v_2) 3 1 (D.int .i64) a2,.box g_2 54 [o_2_0,o_2_1,o_2_2,o_2_3,sv v_2]] S) (hlt:∀ b,S b->b<w.heap.size):CL 104 #[.pointer (some (cT (adr (sv h_0)) (k_0*3+0))),sv v_1,.pointer (some ⟨g_2,4,none⟩)] w (Ret S w (λs:Hd×Hd=>.int .i64 r.1) (λs=>[cB (sv h_0) 28 3 e_0 l_0 k_0 [(sv s.1),vi r.2.2.1,sv bc],ae (sv v_1) 95 2 bp r.2.2.2.2,.box g_2 54 [o_2_0,o_2_1,o_2_2,o_2_3,(sv s.2)],ae (sv s.1) 3 1 (D.int .i64) r.2.1,ae (sv s.2) 3 1 (D.int .i64) r.2.2.2.1])):=by
 unfold cG at h
 refine ar func104 z z ?_
 have s:=Sep.sm hO hlt
 refine .g (.qn z (.seq (.rk 14 s [0,0,0,0,0] T.mix ?_)))
 intro W s
 have t:=s.to [0,0,0,0,0]
 refine .tp' 0 z z t (.tp' 1 z z t (.ts' 2 z (λW t=>fe f28_0 z z z) t z (.ts' 3 z (λW t=>lde (t.p1.hcellsv) t23 z z z z z) t z (bv h λx1 hx1 h=>.ts' 4 z (λW t=>ixv s.lv hx1 u23 T.t3 z z z) t z (.ts' 5 z (λW t=>lde (RV.flat t.lv hx1 z) T.t3 z z z z z) t z (.tp' 6 z z t (.tp' 7 z z t (.ts' 8 z (λW t=>fe f28_0 z z z) t z (.ts' 9 z (λW t=>lde (t.p1.hcellsv) t23 z z z z z) t z (bv h λx2 hx2 h=>.ts' 10 z (λW t=>ixv s.lv hx2 u23 T.t3 z z z) t z (.ts' 11 z (λW t=>lde (RV.flat t.lv hx2 z) T.t3 z z z z z) t z (.tp' 12 z z t (.tp' 13 z z t (.done (.seq (.g (.q z (.q z (.s (fe f28_1 z z z) z (.s (lde (s.p1.hcellsv) T.t3 z z z z z) z (.q z (.q z (.cu 17 46 ((a0.Pc !=0)||(((x1==1)||(x1==2))&&((decide (x2<0))||(decide (x2>=(a1.length:Int)))))) s ?_ ?_)))))))))))))))))))))))
 ·refine .both (a0.Pc !=0) (λb=>?_) (λb=>?_)
  ·exact .xx b z (.xx b z (.xx b z (.xu (.xu (.xx b z (.xx b z (.xu (.xu (.xu (.xu (.xu (.xu (.xu (.xu (.xx b z (.s (pkt b z z z) z (.nil (ck 17 s z (fk b)))))))))))))))))))
  have hg1:=b
  refine .g hg1 (.q z (.g hg1 (.q z (.g hg1 (.q z (.cu 3 35 ((x1==1)||(x1==2)) s ?_ ?_))))))
  ·refine .both (x1==1) (λb=>?_) (λb=>?_)
   ·exact .xx b z (.xx b z (.g hg1 (.s (pkt b z z z) z (.nil (ck 3 s z (fk b))))))
   have hg2:=b
   exact .g hg2 (.q z (.g hg2 (.q z (.g hg1 (.s (pkf hg2 z z z) z (.nil (ck 3 s z (fp hg2))))))))
  intro W s
  refine .g hg1 (.q z (.cu 9 45 (((x1==1)||(x1==2))&&((decide (x2<0))||(decide (x2>=(a1.length:Int))))) s ?_ ?_))
  ·refine .both ((x1==1)||(x1==2)) (λb=>?_) (λb=>?_)
   ·have hg3:=b
    refine .g hg3 (.q z (.g hg3 (.q z (.g hg3 (.q z (.cu 5 44 ((decide (x2<0))||(decide (x2>=(a1.length:Int)))) s ?_ ?_))))))
    ·refine .both (decide (x2<0)) (λb=>?_) (λb=>?_)
     ·exact .xx b z (.xx b z (.xx b z (.xx b z (.g hg3 (.s (pkt b z z z) z (.nil (ck 5 s z (fk b))))))))
     have hg4:=b
     exact .g hg4 (.q z (.g hg4 (.q z (.g hg4 (.s (aZ s.p2.lv u40 z z) z (.g hg4 (.q z (.g hg3 (.s (pkf hg4 z z z) z (.nil (ck 5 s z (fp hg4))))))))))))
    intro W s
    exact .g hg1 (.s (pkt hg3 z z z) z (.nil (ck 5 s z (bf hg3))))
   exact .xx b z (.xx b z (.xx b z (.xu (.xu (.xu (.xu (.xx b z (.g hg1 (.s (pkf b z z z) z (.nil (ck 9 s z (bg b))))))))))))
  intro W s
  exact .s (pkf hg1 z z z) z (.nil (ck 7 s z (fp hg1)))
 intro W s
 refine .nil ?_
 refine .cs z h ?_ ?_ <;> intro h
 ·cases h
  exact .g (.qn z (.ret (ac (ao,v_2) (rt z rn) z (s.to [1,1,2,0,0]))))
 refine .skip (.g (.qn z (bv h λy1 hy1 h=>?_)))
 refine .seq (CW.via (R':=λx E' W'=>(match y1 with | .inl o1=>x=.normal/\∃ (v1:Hd),aB E' [(0,.pointer (some (cT (adr (sv h_0)) (k_0*3+0)))),(9,vi o1.1)]/\Sep S w W' [ae (sv ao) 3 1 (D.int .i64) o1.2.2.1,cB (sv h_0) 28 3 e_0 l_0 k_0 [sv ao,vi a0.Pc,sv bc],ae (sv v_1) 95 2 bp o1.2.2.2,.box g_2 54 [o_2_0,o_2_1,o_2_2,o_2_3,sv v1],ae (sv v1) 3 1 (D.int .i64) o1.2.1] | .inr o2=>x=.ret/\pH w S ao bc h_0 A_0 e_0 l_0 k_0 v_1 v_2 g_2 o_2_0 o_2_1 o_2_2 o_2_3 a0 a1 a2 o2 E' W')) ?_ ?_)
 ·have h:=hy1
  refine .g (.qn z (.block (.g (.q z (.qn z (.cond z (λb=>?_) (λb=>?_)))))))
  ·have h:=aJ b h
   refine .seq (.rk 11 s [0,0,1,1] T.mix ?_)
   intro W s
   have t:=s.to [0,0,1,1]
   refine .tp' 0 z z t (.tp' 1 z z t (bv h λx3 hx3 h=>.ts' 2 z (λW t=>ixv s.p2.lv hx3 u40 t95 z z z) t z (.tp' 3 z z t (.tp' 4 z z t (.ts' 5 z (λW t=>fe f28_0 z z z) t z (.ts' 6 z (λW t=>lde (t.p1.hcellsv) t23 z z z z z) t z (bv h λx4 hx4 h=>.ts' 7 z (λW t=>ixv s.lv hx4 u23 T.t3 z z z) t z (.ts' 8 z (λW t=>lde (RV.flat t.lv hx4 z) T.t3 z z z z z) t z ?_))))))))
   obtain ⟨k1,s⟩:=Sep.ov s.p2 hx3
   have s:=s.oa
   obtain ⟨k1,rfl,s⟩:=Sep.oF z s
   obtain ⟨v2,k1,rfl,s⟩:=s.ow
   obtain ⟨rfl,s⟩:=s.oN
   refine bv h λy2 hy2 h=>?_
   have s:=s.p1.p1
   refine .by1 9 z (.cS (L0:=[ae (sv v2) 3 1 (D.int .i64) x3.Items,cB (sv v_1) 95 2 bp a1 (Int.toNat x2) [vi x3.Room,sv v2]]) s func154 (λS h1 h2 h3=>(nY hy2 h2 (zz h1))) z z ?_)
   rintro v3 W s
   refine s.an [2,2,2,2] λt=>.tp' 10 z z t (.done ?_)
   refine .cs z h ?_ ?_ <;> intro h
   ·refine .g (.qn z (.ret ?_))
    have s:=Sep.gat (ds:=[bp (Box.mk x3.Room y2.2)]) (cs:=[vi x3.Room,sv v3]) (L1:=[ae (sv v3) 3 1 (D.int .i64) y2.2]) (.agg (.flat (c1:=[vi x3.Room]) z (.row .nil))) (s.to [1,0,0,0,0,0])
    have s:Sep _ _ _ [ae (sv v_1) 95 2 bp (a1.set (Int.toNat x2) (Box.mk x3.Room y2.2)),ae (sv ao) 3 1 (D.int .i64) a0.Regs,cB (sv h_0) 28 3 e_0 l_0 k_0 [sv ao,vi a0.Pc,sv bc],ae (sv v_2) 3 1 (D.int .i64) a2,.box g_2 54 [o_2_0,o_2_1,o_2_2,o_2_3,sv v_2]]:=s.bv
    cases h
    exact ⟨z,ac (vs:=[_]) (ao,v_2) (rt z rn) z (s.to [2,0,2,0,0])⟩
   refine .skip ?_
   have s:=Sep.gat (ds:=[bp (Box.mk x3.Room y2.2)]) (cs:=[vi x3.Room,sv v3]) (L1:=[ae (sv v3) 3 1 (D.int .i64) y2.2]) (.agg (.flat (c1:=[vi x3.Room]) z (.row .nil))) (s.to [1,0,0,0,0,0])
   have s:Sep _ _ _ [ae (sv v_1) 95 2 bp (a1.set (Int.toNat x2) (Box.mk x3.Room y2.2)),ae (sv ao) 3 1 (D.int .i64) a0.Regs,cB (sv h_0) 28 3 e_0 l_0 k_0 [sv ao,vi a0.Pc,sv bc],ae (sv v_2) 3 1 (D.int .i64) a2,.box g_2 54 [o_2_0,o_2_1,o_2_2,o_2_3,sv v_2]]:=s.bv
   cases h
   exact ⟨z,v_2,sb z,s.to [1,1,0,1,0]⟩
  have h:=aK b h
  refine .g (.q z (.qn z (.cond z (λb=>?_) (λb=>?_))))
  ·have h:=aJ b h
   refine .g (.q z (.q z (bv h λx5 hx5 h=>.s (ixv s.p2.lv hx5 u40 t95 z z z) z ?_)))
   obtain ⟨k2,s⟩:=Sep.ov s.p2 hx5
   have s:=s.oa
   obtain ⟨k2,rfl,s⟩:=Sep.oF z s
   obtain ⟨v4,k2,rfl,s⟩:=s.ow
   obtain ⟨rfl,s⟩:=s.oN
   refine bv h λy3 hy3 h=>?_
   have s:=s.p1.p1
   refine .c (.cS (L0:=[ae (sv v4) 3 1 (D.int .i64) x5.Items,cB (sv v_1) 95 2 bp a1 (Int.toNat x2) [vi x5.Room,sv v4]]) s func155 (λS h1 h2 h3=>(nh hy3 h2 (zz h1))) z z ?_)
   rintro v5 W s
   refine .q z (.q z (.q z (.q z (.qn z (.seq (.g (.q z (.q z (.nil ?_)))))))))
   refine .cs z h ?_ ?_ <;> intro h
   ·refine .g (.qn z (.ret ?_))
    have s:=Sep.gat (ds:=[bp (Box.mk x5.Room y3.2.2)]) (cs:=[vi x5.Room,sv v5]) (L1:=[ae (sv v5) 3 1 (D.int .i64) y3.2.2]) (.agg (.flat (c1:=[vi x5.Room]) z (.row .nil))) (s.to [1,0,0,0,0,0])
    have s:Sep _ _ _ [ae (sv v_1) 95 2 bp (a1.set (Int.toNat x2) (Box.mk x5.Room y3.2.2)),ae (sv ao) 3 1 (D.int .i64) a0.Regs,cB (sv h_0) 28 3 e_0 l_0 k_0 [sv ao,vi a0.Pc,sv bc],ae (sv v_2) 3 1 (D.int .i64) a2,.box g_2 54 [o_2_0,o_2_1,o_2_2,o_2_3,sv v_2]]:=s.bv
    cases h
    exact ⟨z,ac (vs:=[_]) (ao,v_2) (rt z rn) z (s.to [2,0,2,0,0])⟩
   refine .skip (.region (.q z (.q z (.s (fe f28_0 z z z) z (.s (lde (s.p3.hcellsv) t23 z z z z z) z (.q z (bv h λx6 hx6 h=>.s (ixv s.p2.lv hx6 u23 T.t3 z z z) z (bv h λr1 hr1 h=>.c (.sev hr1 hx6 s.p2 T.t3 z z z z z z ?_)))))))))
   intro W s
   refine .nil ?_
   have s:=Sep.gat (ds:=[bp (Box.mk x5.Room y3.2.2)]) (cs:=[vi x5.Room,sv v5]) (L1:=[ae (sv v5) 3 1 (D.int .i64) y3.2.2]) (.agg (.flat (c1:=[vi x5.Room]) z (.row .nil))) (s.to [2,1,0,0,0,0])
   have s:Sep _ _ _ [ae (sv v_1) 95 2 bp (a1.set (Int.toNat x2) (Box.mk x5.Room y3.2.2)),ae (sv ao) 3 1 (D.int .i64) r1,cB (sv h_0) 28 3 e_0 l_0 k_0 [sv ao,vi a0.Pc,sv bc],ae (sv v_2) 3 1 (D.int .i64) a2,.box g_2 54 [o_2_0,o_2_1,o_2_2,o_2_3,sv v_2]]:=s.bv
   cases h
   exact ⟨z,v_2,sb z,s.to [1,1,0,1,0]⟩
  have h:=aK b h
  refine .g (.q z (.q z (.nil ?_)))
  refine .cs z h ?_ ?_ <;> intro h
  ·refine .region (.q z (.nil ?_))
   cases h
   exact ⟨z,v_2,sb z,s.to [0,0,0,1,0]⟩
  refine .g (.q z (.q z (.nil ?_)))
  refine .cs z h ?_ ?_ <;> intro h
  ·refine .rk 13 s [0,0,0,1] T.mix ?_
   intro W s
   have t:=s.to [0,0,0,1]
   refine .tp' 0 z z t (.tp' 1 z z t (.tp' 2 z z t (.ts' 3 z (λW t=>ld t23 t.p3 z z z z z) t z (.tp' 4 z z t (.tp' 5 z z t (.ts' 6 z (λW t=>fe f28_0 z z z) t z (.ts' 7 z (λW t=>lde (t.p1.hcellsv) t23 z z z z z) t z (bv h λx7 hx7 h=>.ts' 8 z (λW t=>ixv s.lv hx7 u23 T.t3 z z z) t z (.ts' 9 z (λW t=>lde (RV.flat t.lv hx7 z) T.t3 z z z z z) t z (.by1 10 z (.liv [x7] (D.int .i64) u23 T.t3 s z z z z ?_ z (λ_=>z))))))))))))
   intro v6 W s
   refine s.an [1,1,1,2] λt=>bv h λr2 hr2 h=>?_
   have hT0:=s.p4
   refine .by1 11 z (.av hr2 hT0 hT0.p1.lv (λ_=>z) u23 T.t3 z z z ?_)
   intro v7 W s
   refine s.an [2,2,2,2] λt=>.tp' 12 z z t (.by1 13 z (.st t23 s.p5 z z z ?_))
   intro W s
   refine ⟨λh=>absurd z h,?_⟩
   refine .done ?_
   cases h
   exact ⟨z,v7,sb z,s.to [3,3,3,0,0]⟩
  refine .g (.q z (.q z (.nil ?_)))
  refine .cs z h ?_ ?_ <;> intro h
  ·refine .g (.qn z (.ret ?_))
   cases h
   exact ⟨z,ac (vs:=[_]) (ao,v_2) (rt z rn) z (s.to [1,1,2,0,0])⟩
  refine .g (.qn z (.ret ?_))
  cases h
  exact ⟨z,ac (vs:=[_]) (ao,v_2) (rt z rn) z (s.to [1,1,2,0,0])⟩
 intro x E W hJ
 rcases y1 with o3 | o4
 ·obtain ⟨rfl,v8,hE,s⟩:=hJ
  refine ⟨_,hE.sub,?_⟩
  refine .g (.q z (.q z (.q z (.s (fe f28_0 z z z) z (.s (lde (s.p1.hcellsv) t23 z z z z z) z (bv h λx8 hx8 h=>.s (ixv s.lv hx8 u23 T.t3 z z z) z (.s (lde (RV.flat s.lv hx8 z) T.t3 z z z z z) z (.q z (.s (fe f28_1 z z z) z (.c (.sthv s.p1 T.t3 z z z ?_)))))))))))
  intro W s
  cases h
  exact .nil (.g (.q z (.qn z (.ret (ac (ao,v8) (rt z rn) z (s.to [0,1,1,0,0]))))))
 obtain ⟨rfl,hF⟩:=hJ
 refine ⟨_,λ_ _ h=>h,?_⟩
 cases h
 exact hF
theorem kK {a0:al} {a1:Int} {ao:Hd} {bc:Hd} {h_0:Hd} {A_0:Type} {e_0:A_0->D} {l_0:List A_0} {k_0:Nat} {S:Nat->Prop} {w:World} {r:Int} (h:dD a0 a1=some r) (dQ:RV w (Old S w) (sv ao) 3 1 (D.int .i64) a0.Regs) (lQ:RV w (Old S w) (sv bc) 3 1 (D.int .i64) a0.Mem) (hO:bS w [cB (sv h_0) 28 3 e_0 l_0 k_0 [sv ao,vi a0.Pc,sv bc]] S) (hlt:∀ b,S b->b<w.heap.size):CL 124 #[.pointer (some (cT (adr (sv h_0)) (k_0*3+0))),vi a1] w (Ret S w (λs:Unit=>Bn (sv bc) 1 r) (λs=>[cB (sv h_0) 28 3 e_0 l_0 k_0 [sv ao,vi a0.Pc,sv bc]])):=by
 unfold dD at h
 refine ar func124 z z ?_
 have s:=Sep.sm hO hlt
 refine .g (.qn z (.seq (.g (.q z (.q z (.q z (.cu 4 11 ((decide (a1<0))||((Int.tmod a1 4) !=0)) s ?_ ?_)))))))
 ·refine .both (decide (a1<0)) (λb=>?_) (λb=>?_)
  ·exact .xx b z (.xx b z (.xx b z (.s (pkt b z z z) z (.nil (ck 4 s z (fk b))))))
  have hg1:=b
  exact .g hg1 (.q z (.g hg1 (.q z (.g hg1 (.q z (.s (pkf hg1 z z z) z (.nil (ck 4 s z (fp hg1)))))))))
 intro W s
 refine .q z (.cu 9 21 (((decide (a1<0))||((Int.tmod a1 4) !=0))||(decide ((w64 (Int.tdiv a1 4))>=(a0.Mem.length:Int)))) s ?_ ?_)
 ·refine .both ((decide (a1<0))||((Int.tmod a1 4) !=0)) (λb=>?_) (λb=>?_)
  ·exact .xx b z (.xx b z (.xx b z (.xx b z (.xx b z (.xx b z (.xx b z (.xx b z (.s (pkt b z z z) z (.nil (ck 9 s z (fk b)))))))))))
  have hg2:=b
  exact .g hg2 (.q z (.g hg2 (.q z (.g hg2 (.q z (.g hg2 (.q z (.g hg2 (.s (fe f28_2 z z z) z (.g hg2 (.s (lde (s.hcellsv) t23 z z z z z) z (.g hg2 (.s (aZ (s.keep lQ) u23 z z) z (.g hg2 (.q z (.s (pkf hg2 z z z) z (.nil (ck 9 s z (fp hg2)))))))))))))))))))
 intro W s
 refine .nil ?_
 refine .cs z h ?_ ?_ <;> intro h
 ·cases h
  exact .g (.qn z (.ret (ac () (rt z rn) z (s.to [0]))))
 refine .skip (.g (.q z (.q z (.s (fe f28_2 z z z) z (.s (lde (s.hcellsv) t23 z z z z z) z (.q z (.q z (bv h λx1 hx1 h=>.s (ixv (s.keep lQ) hx1 u23 T.t3 z z z) z (.qn z (.ret ?_))))))))))
 cases h
 exact ac () (rt z rn) (xA hx1).symm (s.to [0])
theorem cX {a0:al} {a1:Int} {a2:Int} {ao:Hd} {bc:Hd} {h_0:Hd} {A_0:Type} {e_0:A_0->D} {l_0:List A_0} {k_0:Nat} {S:Nat->Prop} {w:World} {r:(List Int)} (h:bk a0 a1 a2=some r) (lQ:RV w (Old S w) (sv bc) 3 1 (D.int .i64) a0.Mem) (hO:bS w [ae (sv ao) 3 1 (D.int .i64) a0.Regs,cB (sv h_0) 28 3 e_0 l_0 k_0 [sv ao,vi a0.Pc,sv bc]] S) (hlt:∀ b,S b->b<w.heap.size):CL 126 #[.pointer (some (cT (adr (sv h_0)) (k_0*3+0))),vi a1,vi a2] w (Ret S w (λs:Hd=>.tuple #[]) (λs=>[cB (sv h_0) 28 3 e_0 l_0 k_0 [sv s,vi a0.Pc,sv bc],ae (sv s) 3 1 (D.int .i64) r])):=by
 unfold bk at h
 refine ar func126 z z ?_
 have s:=Sep.sm hO hlt
 refine .g (.q z (.q z (.nil ?_)))
 refine .cs z h ?_ ?_ <;> intro h
 ·refine .region (.q z (.q z (.s (fe f28_0 z z z) z (.s (lde (s.p1.hcellsv) t23 z z z z z) z (.q z (.q z (bv h λx1 hx1 h=>.s (ixv s.lv hx1 u23 T.t3 z z z) z (bv h λr1 hr1 h=>.c (.sev hr1 hx1 s T.t3 z z z z z z ?_)))))))))
  intro W s
  obtain rfl:=o9 h
  exact .nil (ac (vs:=[]) ao (rn) z (s.to [1,0]))
 cases h
 exact .skip (ac (vs:=[]) ao (rn) z (s.to [1,0]))
def pI (w:World) (S:Nat->Prop) (ao:Hd) (bc:Hd) (h_0:Hd) (A_0:Type) (e_0:A_0->D) (l_0:List A_0) (k_0:Nat) (a0:al) (r:Int×(List Int)×Int×(List Int)):Env->World->Prop:=Fin Tryz.prog Tryz.f81 S w (λs:Hd×Hd=>.int .i64 r.1) (λs=>[cB (sv h_0) 28 3 e_0 l_0 k_0 [(sv s.1),vi r.2.2.1,(sv s.2)],ae (sv s.1) 3 1 (D.int .i64) r.2.1,ae (sv s.2) 3 1 (D.int .i64) r.2.2.2]) .ret
theorem pm {a0:al} {ao:Hd} {bc:Hd} {h_0:Hd} {A_0:Type} {e_0:A_0->D} {l_0:List A_0} {k_0:Nat} {S:Nat->Prop} {w:World} {r:Int×(List Int)×Int×(List Int)} (h:eD a0=some r) (hO:bS w [ae (sv ao) 3 1 (D.int .i64) a0.Regs,ae (sv bc) 3 1 (D.int .i64) a0.Mem,cB (sv h_0) 28 3 e_0 l_0 k_0 [sv ao,vi a0.Pc,sv bc]] S) (hlt:∀ b,S b->b<w.heap.size) (hG:Gl w) (hM:∀ g,g<NGl->¬ S g):CL 81 #[.pointer (some (cT (adr (sv h_0)) (k_0*3+0)))] w (Ret S w (λs:Hd×Hd=>.int .i64 r.1) (λs=>[cB (sv h_0) 28 3 e_0 l_0 k_0 [(sv s.1),vi r.2.2.1,(sv s.2)],ae (sv s.1) 3 1 (D.int .i64) r.2.1,ae (sv s.2) 3 1 (D.int .i64) r.2.2.2])):=by
 unfold eD at h
 refine ar func81 z z ?_
 have s:=Sep.sm hO hlt
 refine .g (.qn z (.g (.q z (.q z (.q z (.s (fe f28_1 z z z) z (.s (lde (s.p2.hcellsv) T.t3 z z z z z) z (bv h λy1 hy1 h=>?_))))))))
 have s:=s.p2
 refine .c (.cS (L0:=[cB (sv h_0) 28 3 e_0 l_0 k_0 [sv ao,vi a0.Pc,sv bc]]) s func124 (λS h1 h2 h3=>(kK hy1 (h3.rdv (k:=0) z) (h3.rdv (k:=1) z) h2 (zz h1))) z z ?_)
 rintro ⟨⟩ W s
 refine .qn z (.seq (.g (.q z (.s (EG u153 z z) z (.nil ?_)))))
 refine .cs z h ?_ ?_ <;> intro h
 ·cases h
  exact .g (.qn z (.ret (ac (ao,bc) (rt z rn) z (s.to [0,0,0]))))
 refine .skip (.g (.q z (bv h λx1 hx1 h=>.eqv 19 z (xA hx1) (.s (pr z) z (.s (lde (RV.flat s.p2.lv hx1 z) T.t3 z z z z z) z (bv h λy2 hy2 h=>.c (.cO s func111 (fi hy2) z z ?_)))))))
 intro W s
 refine bv h λy3 hy3 h=>.c (.cO s func125 (ra hy3 (hG.at s hM)) z z ?_)
 intro W s
 refine .q z (.q z (.q z (.c (.alloc t105 s ?_))))
 intro g1 W s
 refine .c (.st t105 s z z z ?_)
 intro W s
 refine .qn z (.seq (.g (.q z (.q z (.nil ?_)))))
 refine .cs z h ?_ ?_ <;> intro h
 ·cases h
  exact .g (.qn z (.ret (ac (ao,bc) (rt z rn) z (s.to [1,1,1]))))
 refine .skip (.seq (.rk 18 s [0,0,0,0] T.mix ?_))
 intro W s
 have t:=s.to [0,0,0,0]
 refine .tp' 0 z z t (.tp' 1 z z t (.ts' 2 z (λW t=>fe f28_0 z z z) t z (.ts' 3 z (λW t=>lde (t.p1.hcellsv) t23 z z z z z) t z (.ts' 4 z (λW t=>fa f105_2 z z z) t z (.ts' 5 z (λW t=>ld T.t3 t z z z z z) t z (bv h λx2 hx2 h=>.ts' 6 z (λW t=>ixv s.p2.lv hx2 u23 T.t3 z z z) t z (.ts' 7 z (λW t=>lde (RV.flat t.p2.lv hx2 z) T.t3 z z z z z) t z (.tp' 8 z z t (.tp' 9 z z t (.ts' 10 z (λW t=>fe f28_0 z z z) t z (.ts' 11 z (λW t=>lde (t.p1.hcellsv) t23 z z z z z) t z (.ts' 12 z (λW t=>fa f105_3 z z z) t z (.ts' 13 z (λW t=>ld T.t3 t z z z z z) t z (bv h λx3 hx3 h=>.ts' 14 z (λW t=>ixv s.p2.lv hx3 u23 T.t3 z z z) t z (.ts' 15 z (λW t=>lde (RV.flat t.p2.lv hx3 z) T.t3 z z z z z) t z (.tp' 16 z z t (.tp' 17 z z t (.done (.g (.q z (.q z (.s (fe f28_1 z z z) z (.s (lde (s.p1.hcellsv) T.t3 z z z z z) z (.q z (bv h λy4 hy4 h=>.c (.cO s func63 (da hy4) z z ?_))))))))))))))))))))))))))
 intro W s
 refine .qn z (bv h λy5 hy5 h=>?_)
 refine .seq (CW.via (R':=λx E' W'=>(match y5 with | .inl o1=>x=.normal/\∃ (v1:Hd),aB E' [(0,.pointer (some (cT (adr (sv h_0)) (k_0*3+0)))),(8,vi o1.1)]/\Sep S w W' [.box g1 105 [vi y3.1.Op,vi y3.1.Rd,vi y3.1.Rs,vi y3.1.Rt,vi y3.1.Imm],cB (sv h_0) 28 3 e_0 l_0 k_0 [sv v1,vi a0.Pc,sv bc],ae (sv bc) 3 1 (D.int .i64) o1.2.2,ae (sv v1) 3 1 (D.int .i64) o1.2.1] | .inr o2=>x=.ret/\pI w S ao bc h_0 A_0 e_0 l_0 k_0 a0 o2 E' W')) ?_ ?_)
 ·have h:=hy5
  refine .g (.s (fa f105_0 z z z) z (.s (ld T.t3 s z z z z z) z (.nil (.block (.g (.q z (.q z (.nil ?_))))))))
  refine .cs z h ?_ ?_ <;> intro h
  ·refine .g (.qn z (.ret ?_))
   cases h
   exact ⟨z,ac (vs:=[_]) (ao,bc) (rt z rn) z (s.to [1,1,1])⟩
  refine .g (.q z (.qn z (.cond z (λb=>?_) (λb=>?_))))
  ·have h:=aJ b h
   refine .rk 9 s [0,2] T.mix ?_
   intro W s
   have t:=s.to [0,2]
   refine .tp' 0 z z t (.ts' 1 z (λW t=>fa f105_1 z z z) t z (.ts' 2 z (λW t=>ld T.t3 t z z z z z) t z (.tp' 3 z z t (.ts' 4 z (λW t=>fa f105_4 z z z) t z (.ts' 5 z (λW t=>ld T.t3 t z z z z z) t z (.tp' 6 z z t (bv h λy6 hy6 h=>.by1 7 z (.cO s func63 (da hy6) z z ?_))))))))
   intro W s
   refine s.an [0,2] λt=>bv h λy7 hy7 h=>?_
   have s:=s.p1.p2
   refine .by1 8 z (.cS (L0:=[ae (sv ao) 3 1 (D.int .i64) a0.Regs,cB (sv h_0) 28 3 e_0 l_0 k_0 [sv ao,vi a0.Pc,sv bc]]) s func126 (λS h1 h2 h3=>(cX hy7 (h3.rdv (k:=1) z) h2 (zz h1))) z z ?_)
   rintro v2 W s
   refine s.an [2,2] λt=>.done ?_
   cases h
   exact ⟨z,v2,sb z,s.to [2,0,1,0]⟩
  have h:=aK b h
  refine .g (.q z (.qn z (.cond z (λb=>?_) (λb=>?_))))
  ·have h:=aJ b h
   refine .rk 11 s [0,2] T.mix ?_
   intro W s
   have t:=s.to [0,2]
   refine .tp' 0 z z t (.ts' 1 z (λW t=>fa f105_1 z z z) t z (.ts' 2 z (λW t=>ld T.t3 t z z z z z) t z (.tp' 3 z z t (.ts' 5 z (λW t=>fa f105_4 z z z) t z (.ts' 6 z (λW t=>ld T.t3 t z z z z z) t z (bv h λy8 hy8 h=>.by1 4 z (.cO s func111 (fi hy8) z z ?_)))))))
   intro W s
   refine s.an [0,2] λt=>bv h λy9 hy9 h=>.by1 7 z (.cO s func111 (fi hy9) z z ?_)
   intro W s
   refine s.an [0,2] λt=>.tp' 8 z z t (bv h λy10 hy10 h=>.by1 9 z (.cO s func127 (oH hy10) z z ?_))
   intro W s
   refine s.an [0,2] λt=>bv h λy11 hy11 h=>?_
   have s:=s.p1.p2
   refine .by1 10 z (.cS (L0:=[ae (sv ao) 3 1 (D.int .i64) a0.Regs,cB (sv h_0) 28 3 e_0 l_0 k_0 [sv ao,vi a0.Pc,sv bc]]) s func126 (λS h1 h2 h3=>(cX hy11 (h3.rdv (k:=1) z) h2 (zz h1))) z z ?_)
   rintro v3 W s
   refine s.an [2,2] λt=>.done ?_
   cases h
   exact ⟨z,v3,sb z,s.to [2,0,1,0]⟩
  have h:=aK b h
  refine bv h λy12 hy12 h=>?_
  refine .seq (CW.via (R':=λx E' W'=>x=.normal/\aB E' [(0,.pointer (some (cT (adr (sv h_0)) (k_0*3+0)))),(4,Pt g1),(6,vi x2),(7,vi x3),(8,vi y4),(51,vi y3.1.Op),(90,.bool y12)]/\Sep S w W' [.box g1 105 [vi y3.1.Op,vi y3.1.Rd,vi y3.1.Rs,vi y3.1.Rt,vi y3.1.Imm],cB (sv h_0) 28 3 e_0 l_0 k_0 [sv ao,vi a0.Pc,sv bc],ae (sv ao) 3 1 (D.int .i64) a0.Regs,ae (sv bc) 3 1 (D.int .i64) a0.Mem]) ?_ ?_)
  ·have h:=hy12
   refine .g (.q z (.q z (.nil ?_)))
   refine .cs z h ?_ ?_ <;> intro h
   ·refine .skip ?_
    cases h
    exact ⟨z,sb z,s.to [0,0,0,0]⟩
   refine .region (.q z (.q z (.nil ?_)))
   cases h
   exact ⟨z,sb z,s.to [0,0,0,0]⟩
  intro x E W hJ
  obtain ⟨rfl,hE,s⟩:=hJ
  refine ⟨_,hE.sub,?_⟩
  refine .cond z (λb=>?_) (λb=>?_)
  ·have h:=aJ b h
   refine .g (.q z (.q z (.s (fa f105_4 z z z) z (.s (ld T.t3 s z z z z z) z (.q z (bv h λy13 hy13 h=>.c (.cO s func63 (da hy13) z z ?_)))))))
   intro W s
   refine bv h λy14 hy14 h=>?_
   have s:=s.p1
   refine .c (.cS (L0:=[cB (sv h_0) 28 3 e_0 l_0 k_0 [sv ao,vi a0.Pc,sv bc]]) s func124 (λS h1 h2 h3=>(kK hy14 (h3.rdv (k:=1) z) (h3.rdv (k:=2) z) h2 (zz h1))) z z ?_)
   rintro ⟨⟩ W s
   refine .qn z (.seq (.g (.q z (.s (EG u153 z z) z (.nil ?_)))))
   refine .cs z h ?_ ?_ <;> intro h
   ·refine .g (.qn z (.ret ?_))
    cases h
    exact ⟨z,ac (vs:=[_]) (ao,bc) (rt z rn) z (s.to [0,1,1])⟩
   refine .skip (.g (.s (fa f105_0 z z z) z (.s (ld T.t3 s.p1 z z z z z) z (.qn z (.cond z (λb=>?_) (λb=>?_))))))
   ·have h:=aJ b h
    refine .region (.q z (.q z (bv h λx4 hx4 h=>.eqv 105 z (xA hx4) (.s (pr z) z (bv h λr1 hr1 h=>.c (.sev hr1 hx4 s.p3 T.t3 z z z z z z ?_))))))
    intro W s
    refine .nil ?_
    cases h
    exact ⟨z,ao,sb z,s.to [2,1,0,0]⟩
   have h:=aK b h
   refine bv h λx5 hx5 h=>.eqv 9 z (xA hx5) (.rk 7 s [1,2] T.mix ?_)
   intro W s
   have t:=s.to [1,2]
   refine .tp' 0 z z t (.ts' 1 z (λW t=>fa f105_1 z z z) t z (.ts' 2 z (λW t=>ld T.t3 t z z z z z) t z (.tp' 3 z z t (.tp' 4 z z t (.ts' 5 z (λW t=>lde (RV.flat t.p1.lv hx5 z) T.t3 z z z z z) t z (bv h λy15 hy15 h=>?_))))))
   have s:=s.p2
   refine .by1 6 z (.cS (L0:=[ae (sv ao) 3 1 (D.int .i64) a0.Regs,cB (sv h_0) 28 3 e_0 l_0 k_0 [sv ao,vi a0.Pc,sv bc]]) s func126 (λS h1 h2 h3=>(cX hy15 (h3.rdv (k:=1) z) h2 (zz h1))) z z ?_)
   rintro v4 W s
   refine s.an [2,2] λt=>.done ?_
   cases h
   exact ⟨z,v4,sb z,s.to [2,0,1,0]⟩
  have h:=aK b h
  refine .g (.q z (.qn z (.cond z (λb=>?_) (λb=>?_))))
  ·have h:=aJ b h
   refine .g (.q z (.s (fa f105_1 z z z) z (.s (ld T.t3 s z z z z z) z (.q z (bv h λy16 hy16 h=>?_)))))
   have s:=s.p1.p2
   refine .c (.cS (L0:=[ae (sv ao) 3 1 (D.int .i64) a0.Regs,cB (sv h_0) 28 3 e_0 l_0 k_0 [sv ao,vi a0.Pc,sv bc]]) s func126 (λS h1 h2 h3=>(cX hy16 (h3.rdv (k:=1) z) h2 (zz h1))) z z ?_)
   rintro v5 W s
   refine .nil (.region (.q z (.s (fa f105_4 z z z) z (.s (ld T.t3 s.p2 z z z z z) z (.q z (bv h λy17 hy17 h=>.c (.cO s func63 (da hy17) z z ?_)))))))
   intro W s
   refine .q z (.q z (.nil ?_))
   cases h
   exact ⟨z,v5,sb z,s.to [2,0,1,0]⟩
  have h:=aK b h
  refine bv h λy18 hy18 h=>?_
  refine .seq (CW.via (R':=λx E' W'=>x=.normal/\aB E' [(0,.pointer (some (cT (adr (sv h_0)) (k_0*3+0)))),(4,Pt g1),(6,vi x2),(7,vi x3),(8,vi y4),(51,vi y3.1.Op),(128,.bool y18)]/\Sep S w W' [.box g1 105 [vi y3.1.Op,vi y3.1.Rd,vi y3.1.Rs,vi y3.1.Rt,vi y3.1.Imm],cB (sv h_0) 28 3 e_0 l_0 k_0 [sv ao,vi a0.Pc,sv bc],ae (sv ao) 3 1 (D.int .i64) a0.Regs,ae (sv bc) 3 1 (D.int .i64) a0.Mem]) ?_ ?_)
  ·have h:=hy18
   refine .g (.q z (.q z (.nil ?_)))
   refine .cs z h ?_ ?_ <;> intro h
   ·refine .skip ?_
    cases h
    exact ⟨z,sb z,s.to [0,0,0,0]⟩
   refine .region (.q z (.q z (.nil ?_)))
   cases h
   exact ⟨z,sb z,s.to [0,0,0,0]⟩
  intro x E W hJ
  obtain ⟨rfl,hE,s⟩:=hJ
  refine ⟨_,hE.sub,?_⟩
  refine .cs z h ?_ ?_ <;> intro h
  ·refine .g (.q z (.q z (.q z (.s (fa f105_0 z z z) z (.s (ld T.t3 s z z z z z) z (.q z (.s (eqb u4 z z z) z (.nil ?_))))))))
   refine .cs z h ?_ ?_ <;> intro h
   ·refine .rk 9 s [0,0,0,0] T.mix ?_
    intro W s
    have t:=s.to [0,0,0,0]
    refine .tp' 0 z z t (.tp' 1 z z t (.ts' 2 z (λW t=>fe f28_1 z z z) t z (.ts' 3 z (λW t=>lde (t.p1.hcellsv) T.t3 z z z z z) t z (.ts' 4 z (λW t=>fa f105_4 z z z) t z (.ts' 5 z (λW t=>ld T.t3 t z z z z z) t z (.tp' 6 z z t (bv h λy19 hy19 h=>.by1 7 z (.cO s func63 (da hy19) z z ?_))))))))
    intro W s
    refine s.an [0,0,0,0] λt=>.tp' 8 z z t (.done ?_)
    cases h
    exact ⟨z,ao,sb z,s.to [0,0,1,0]⟩
   refine .skip ?_
   cases h
   exact ⟨z,ao,sb z,s.to [0,0,1,0]⟩
  refine .g (.q z (.qn z (.cond z (λb=>?_) (λb=>?_))))
  ·have h:=aJ b h
   refine .rk 8 s [0,2] T.mix ?_
   intro W s
   have t:=s.to [0,2]
   refine .tp' 0 z z t (.ts' 1 z (λW t=>fa f105_1 z z z) t z (.ts' 2 z (λW t=>ld T.t3 t z z z z z) t z (.ts' 3 z (λW t=>fa f105_4 z z z) t z (.ts' 4 z (λW t=>ld T.t3 t z z z z z) t z (.tp' 5 z z t (bv h λy20 hy20 h=>.by1 6 z (.cO s func63 (da hy20) z z ?_)))))))
   intro W s
   refine s.an [0,2] λt=>bv h λy21 hy21 h=>?_
   have s:=s.p1.p2
   refine .by1 7 z (.cS (L0:=[ae (sv ao) 3 1 (D.int .i64) a0.Regs,cB (sv h_0) 28 3 e_0 l_0 k_0 [sv ao,vi a0.Pc,sv bc]]) s func126 (λS h1 h2 h3=>(cX hy21 (h3.rdv (k:=1) z) h2 (zz h1))) z z ?_)
   rintro v6 W s
   refine s.an [2,2] λt=>.done ?_
   cases h
   exact ⟨z,v6,sb z,s.to [2,0,1,0]⟩
  have h:=aK b h
  refine .g (.q z (.qn z (.cond z (λb=>?_) (λb=>?_))))
  ·have h:=aJ b h
   refine .g (.q z (.s (fa f105_1 z z z) z (.s (ld T.t3 s z z z z z) z (.q z (bv h λy22 hy22 h=>?_)))))
   have s:=s.p1.p2
   refine .c (.cS (L0:=[ae (sv ao) 3 1 (D.int .i64) a0.Regs,cB (sv h_0) 28 3 e_0 l_0 k_0 [sv ao,vi a0.Pc,sv bc]]) s func126 (λS h1 h2 h3=>(cX hy22 (h3.rdv (k:=1) z) h2 (zz h1))) z z ?_)
   rintro v7 W s
   refine .nil (.rk 9 s [0,0,0,0] T.mix ?_)
   intro W s
   have t:=s.to [0,0,0,0]
   refine .tp' 0 z z t (.tp' 1 z z t (.ts' 2 z (λW t=>fe f28_1 z z z) t z (.ts' 3 z (λW t=>lde (t.hcellsv) T.t3 z z z z z) t z (.ts' 4 z (λW t=>fa f105_4 z z z) t z (.ts' 5 z (λW t=>ld T.t3 t.p2 z z z z z) t z (.tp' 6 z z t (bv h λy23 hy23 h=>.by1 7 z (.cO s func63 (da hy23) z z ?_))))))))
   intro W s
   refine s.an [0,0,0,0] λt=>.tp' 8 z z t (.done ?_)
   cases h
   exact ⟨z,v7,sb z,s.to [2,0,1,0]⟩
  have h:=aK b h
  refine .rk 12 s [0,2] T.mix ?_
  intro W s
  have t:=s.to [0,2]
  refine .tp' 0 z z t (.ts' 1 z (λW t=>fa f105_1 z z z) t z (.ts' 2 z (λW t=>ld T.t3 t z z z z z) t z (.ts' 3 z (λW t=>fa f105_0 z z z) t z (.ts' 4 z (λW t=>ld T.t3 t z z z z z) t z (.tp' 5 z z t (bv h λx6 hx6 h=>.ts' 6 z (λW t=>ixt hx6 z u159 T.t3 z z z) t z (.ts' 7 z (λW t=>ldt (hG.at t hM).2.2.1 hx6 T.t3 z z z z z) t z (.tp' 8 z z t (.tp' 9 z z t (bv h λy24 hy24 h=>.by1 10 z (.cO s func128 (rB hy24) z z ?_)))))))))))
  intro W s
  refine s.an [0,2] λt=>bv h λy25 hy25 h=>?_
  have s:=s.p1.p2
  refine .by1 11 z (.cS (L0:=[ae (sv ao) 3 1 (D.int .i64) a0.Regs,cB (sv h_0) 28 3 e_0 l_0 k_0 [sv ao,vi a0.Pc,sv bc]]) s func126 (λS h1 h2 h3=>(cX hy25 (h3.rdv (k:=1) z) h2 (zz h1))) z z ?_)
  rintro v8 W s
  refine s.an [2,2] λt=>.done ?_
  cases h
  exact ⟨z,v8,sb z,s.to [2,0,1,0]⟩
 intro x E W hJ
 rcases y5 with o3 | o4
 ·obtain ⟨rfl,v9,hE,s⟩:=hJ
  refine ⟨_,hE.sub,?_⟩
  refine .g (.q z (.q z (.q z (.s (fe f28_1 z z z) z (.c (.sthv s.p1 T.t3 z z z ?_))))))
  intro W s
  cases h
  exact .nil (.g (.qn z (.ret (ac (v9,bc) (rt z rn) z (s.to [0,2,1])))))
 obtain ⟨rfl,hF⟩:=hJ
 refine ⟨_,λ_ _ h=>h,?_⟩
 cases h
 exact hF
theorem r8 {a0:Int} {a1:bQ} {eF:Hd} {aI:Hd} {bZ:Hd} {g_1:Nat} {S:Nat->Prop} {w:World} {r:Int×(List al)×(List Box)×(List Int)} (h:fI a0 a1=some r) (hO:bS w [ae (sv eF) 28 3 bo a1.Harts,ae (sv aI) 95 2 bp a1.Boxes,ae (sv bZ) 3 1 (D.int .i64) a1.Out,.box g_1 54 [sv eF,sv aI,vi a1.Turn,vi a1.Idle,sv bZ]] S) (hlt:∀ b,S b->b<w.heap.size) (hG:Gl w) (hM:∀ g,g<NGl->¬ S g):CL 103 #[vi a0,Pt g_1] w (Ret S w (λs:Hd×Hd×Hd=>.int .i64 r.1) (λs=>[.box g_1 54 [(sv s.1),(sv s.2.1),vi a1.Turn,vi a1.Idle,(sv s.2.2)],ae (sv s.1) 28 3 bo r.2.1,ae (sv s.2.1) 95 2 bp r.2.2.1,ae (sv s.2.2) 3 1 (D.int .i64) r.2.2.2])):=by
 unfold fI at h
 refine ar func103 z z ?_
 have s:=Sep.sm hO hlt
 refine .g (.qn z (.g (.s (fa f54_0 z z z) z (.s (ld t52 s.p3 z z z z z) z (.q z (bv h λx1 hx1 h=>.s (ixv s.lv hx1 u52 t28 z z z) z (.qn z (.seq (.block (.g (.q z (.q z (.s (fe f28_1 z z z) z ?_)))))))))))))
 obtain ⟨k1,s⟩:=Sep.ov s hx1
 have s:=s.oa
 obtain ⟨v1,k1,rfl,s⟩:=s.ow
 obtain ⟨k1,rfl,s⟩:=Sep.oF z s
 obtain ⟨v2,k1,rfl,s⟩:=s.ow
 obtain ⟨rfl,s⟩:=s.oN
 refine .s (lde (s.p2.hcellsv) T.t3 z z z z z) z (.q z (.qn z (.cond z (λb=>?_) (λb=>?_))))
 ·have h:=aJ b h
  refine .g (.q z (.s (fa f54_1 z z z) z (.s (ld t40 s.p5 z z z z z) z (.s (fa f54_4 z z z) z (bv h λy1 hy1 h=>?_)))))
  have s:=s.p5.p5.p5.p5.p5
  refine .c (.cS (L0:=[ae (sv v1) 3 1 (D.int .i64) x1.Regs,cB (sv eF) 28 3 bo a1.Harts (Int.toNat a0) [sv v1,vi x1.Pc,sv v2],ae (sv aI) 95 2 bp a1.Boxes,ae (sv bZ) 3 1 (D.int .i64) a1.Out,.box g_1 54 [sv eF,sv aI,vi a1.Turn,vi a1.Idle,sv bZ]]) s func104 (λS h1 h2 h3=>(pj hy1 (h3.rdv (k:=0) z) h2 (zz h1))) z z ?_)
  rintro ⟨v3,v4⟩ W s
  refine .qn z (.ret ?_)
  have s:=Sep.gat (ds:=[bo (al.mk y1.2.1 y1.2.2.1 x1.Mem)]) (cs:=[sv v3,vi y1.2.2.1,sv v2]) (L1:=[ae (sv v3) 3 1 (D.int .i64) y1.2.1,ae (sv v2) 3 1 (D.int .i64) x1.Mem]) (.agg (.row (.flat (c1:=[vi y1.2.2.1]) z (.row .nil)))) (s.to [3,4,0,0,0,0])
  have s:Sep _ _ _ [ae (sv eF) 28 3 bo (a1.Harts.set (Int.toNat a0) (al.mk y1.2.1 y1.2.2.1 x1.Mem)),ae (sv aI) 95 2 bp y1.2.2.2.2,.box g_1 54 [sv eF,sv aI,vi a1.Turn,vi a1.Idle,sv v4],ae (sv v4) 3 1 (D.int .i64) y1.2.2.2.1]:=s.bv
  cases h
  exact ac (eF,aI,v4) (rt z rn) z (s.to [2,0,0,0])
 have h:=aK b h
 refine .g (.q z (bv h λy2 hy2 h=>?_))
 have s:=s.p2.p1.p2
 refine .c (.cS (L0:=[ae (sv v1) 3 1 (D.int .i64) x1.Regs,ae (sv v2) 3 1 (D.int .i64) x1.Mem,cB (sv eF) 28 3 bo a1.Harts (Int.toNat a0) [sv v1,vi x1.Pc,sv v2]]) s func81 (λS h1 h2 h3=>(pm hy2 h2 (zz h1) (hG.at s hM) (hG.noS hM h1))) z z ?_)
 rintro ⟨v5,v6⟩ W s
 refine .q z (.q z (.nil ?_))
 refine .cs z h ?_ ?_ <;> intro h
 ·refine .g (.qn z (.ret ?_))
  have s:=Sep.gat (ds:=[bo (al.mk y2.2.1 y2.2.2.1 y2.2.2.2)]) (cs:=[sv v5,vi y2.2.2.1,sv v6]) (L1:=[ae (sv v5) 3 1 (D.int .i64) y2.2.1,ae (sv v6) 3 1 (D.int .i64) y2.2.2.2]) (.agg (.row (.flat (c1:=[vi y2.2.2.1]) z (.row .nil)))) (s.to [1,1,0,0,0,0])
  have s:Sep _ _ _ [ae (sv eF) 28 3 bo (a1.Harts.set (Int.toNat a0) (al.mk y2.2.1 y2.2.2.1 y2.2.2.2)),ae (sv aI) 95 2 bp a1.Boxes,ae (sv bZ) 3 1 (D.int .i64) a1.Out,.box g_1 54 [sv eF,sv aI,vi a1.Turn,vi a1.Idle,sv bZ]]:=s.bv
  cases h
  exact ac (eF,aI,bZ) (rt z rn) z (s.to [3,0,0,0])
 refine .skip (.g (.qn z (.ret ?_)))
 have s:=Sep.gat (ds:=[bo (al.mk y2.2.1 y2.2.2.1 y2.2.2.2)]) (cs:=[sv v5,vi y2.2.2.1,sv v6]) (L1:=[ae (sv v5) 3 1 (D.int .i64) y2.2.1,ae (sv v6) 3 1 (D.int .i64) y2.2.2.2]) (.agg (.row (.flat (c1:=[vi y2.2.2.1]) z (.row .nil)))) (s.to [1,1,0,0,0,0])
 have s:Sep _ _ _ [ae (sv eF) 28 3 bo (a1.Harts.set (Int.toNat a0) (al.mk y2.2.1 y2.2.2.1 y2.2.2.2)),ae (sv aI) 95 2 bp a1.Boxes,ae (sv bZ) 3 1 (D.int .i64) a1.Out,.box g_1 54 [sv eF,sv aI,vi a1.Turn,vi a1.Idle,sv bZ]]:=s.bv
 cases h
 exact ac (eF,aI,bZ) (rt z rn) z (s.to [3,0,0,0])
def ri (w:World) (S:Nat->Prop) (pn:Hd) (gZ:Hd) (lU:Hd) (g_4:Nat) (a0:Int) (a1:Int) (a2:Int) (a3:Int) (a4:bQ) (r:Int×Int×Bool×(List al)×(List Box)×(List Int)):Env->World->Prop:=Fin Tryz.prog Tryz.f102 S w (λs:Hd×Hd×Hd=>.tuple #[vi r.1,vi r.2.1,.bool r.2.2.1]) (λs=>[.box g_4 54 [(sv s.1),(sv s.2.1),vi a4.Turn,vi a4.Idle,(sv s.2.2)],ae (sv s.1) 28 3 bo r.2.2.2.1,ae (sv s.2.1) 95 2 bp r.2.2.2.2.1,ae (sv s.2.2) 3 1 (D.int .i64) r.2.2.2.2.2]) .ret
end
noncomputable section
theorem qE {a0:Int} {a1:Int} {a2:Int} {a3:Int} {a4:bQ} {pn:Hd} {gZ:Hd} {lU:Hd} {g_4:Nat} {S:Nat->Prop} {w:World} {r:Int×Int×Bool×(List al)×(List Box)×(List Int)} (h:iO a0 a1 a2 a3 a4=some r) (hO:bS w [ae (sv pn) 28 3 bo a4.Harts,ae (sv gZ) 95 2 bp a4.Boxes,ae (sv lU) 3 1 (D.int .i64) a4.Out,.box g_4 54 [sv pn,sv gZ,vi a4.Turn,vi a4.Idle,sv lU]] S) (hlt:∀ b,S b->b<w.heap.size) (hG:Gl w) (hM:∀ g,g<NGl->¬ S g):CL 102 #[vi a0,vi a1,vi a2,vi a3,.func (.func 103) #[] #[Pt g_4]] w (Ret S w (λs:Hd×Hd×Hd=>.tuple #[vi r.1,vi r.2.1,.bool r.2.2.1]) (λs=>[.box g_4 54 [(sv s.1),(sv s.2.1),vi a4.Turn,vi a4.Idle,(sv s.2.2)],ae (sv s.1) 28 3 bo r.2.2.2.1,ae (sv s.2.1) 95 2 bp r.2.2.2.2.1,ae (sv s.2.2) 3 1 (D.int .i64) r.2.2.2.2.2])):=by
 unfold iO at h
 refine ar func102 z z ?_
 have s:=Sep.sm hO hlt
 refine .g (.q z (.q z (.qn z (.seq (.block (bv h λy1 hy1 h=>?_))))))
 refine .via (.iter (λs1 E' W'=>∃ (v7:Hd) (v8:Hd) (v9:Hd),aB E' [(0,vi s1.1),(1,vi a1),(2,vi s1.2.1),(3,vi s1.2.2.1),(4,.func (.func 103) #[] #[Pt g_4])]/\Sep S w W' [.box g_4 54 [sv v7,sv v8,vi a4.Turn,vi a4.Idle,sv v9],ae (sv v7) 28 3 bo s1.2.2.2.1,ae (sv v8) 95 2 bp s1.2.2.2.2.1,ae (sv v9) 3 1 (D.int .i64) s1.2.2.2.2.2]) (λy2 x E' W'=>(match y2 with | .inl o1=>x=.ret/\ri w S pn gZ lU g_4 a0 a1 a2 a3 a4 o1 E' W' | .inr o2=>x=.exit 0/\∃ (v10:Hd) (v11:Hd) (v12:Hd),aB E' [(2,vi o2.1),(3,vi o2.2.1)]/\Sep S w W' [.box g_4 54 [sv v10,sv v11,vi a4.Turn,vi a4.Idle,sv v12],ae (sv v10) 28 3 bo o2.2.2.1,ae (sv v11) 95 2 bp o2.2.2.2.1,ae (sv v12) 3 1 (D.int .i64) o2.2.2.2.2])) hy1 ⟨pn,gZ,lU,sb rfl,s.to [3,0,0,0] rfl⟩ ?_) ?_
 ·intro s1 y3 E W h hI
  obtain ⟨v4,v5,v6,hE,s⟩:=hI
  refine CW.sub hE ?_
  unfold dh at h
  refine .seq (.g (.q z (.q z (.q z (.cu 4 22 ((decide (s1.1>0))&&(decide (s1.2.2.1<a1))) s ?_ ?_)))))
  ·refine .both (decide (s1.1>0)) (λb=>?_) (λb=>?_)
   ·have hg1:=b
    exact .g hg1 (.q z (.g hg1 (.q z (.g hg1 (.q z (.s (pkt hg1 z z z) z (.nil (ck 4 s z (bf hg1)))))))))
   exact .xx b z (.xx b z (.xx b z (.s (pkf b z z z) z (.nil (ck 4 s z (bg b))))))
  intro W s
  refine .nil (.cond z (λb=>?_) (λb=>?_))
  ·have h:=aJ b h
   refine .skip (.seq (.block (.g (.q z (.q z (.q z (.q z (.q z (bv h λy4 hy4 h=>?_)))))))))
   have s:=s.p3.p3.p3
   refine .c (.callC (L0:=[ae (sv v4) 28 3 bo s1.2.2.2.1,ae (sv v5) 95 2 bp s1.2.2.2.2.1,ae (sv v6) 3 1 (D.int .i64) s1.2.2.2.2.2,.box g_4 54 [sv v4,sv v5,vi a4.Turn,vi a4.Idle,sv v6]]) (vs:=[vi s1.2.1]) (cap:=[Pt g_4]) s func103 (λS h1 h2 h3=>(r8 hy4 h2 (zz h1) (hG.at s hM) (hG.noS hM h1))) z z z ?_)
   rintro ⟨v13,v14,v15⟩ W s
   refine bv h λy5 hy5 h=>.c (.cO s func153 (pi hy5) z z ?_)
   intro W s
   refine .q z (.q z (.q z (.q z (.q z (.q z (.qn z (.seq (.g (.q z (.q z (.nil ?_)))))))))))
   refine .cs z h ?_ ?_ <;> intro h
   ·refine .g (.q z (.q z (.qn z (.ret ?_))))
    cases h
    exact ⟨by simp,z,ac (vs:=[_,_,_]) (v13,v14,v15) (rt z (rt z (rt z rn))) z (s.to [0,0,0,0])⟩
   refine .skip (.region (.q z (.q z (.q z (.qn z (.region (.q z (.q z (.q z (.nil ?_))))))))))
   cases h
   exact ⟨z,v13,v14,v15,sb z,s.to [0,0,0,0]⟩
  have h:=aK b h
  refine .exit ?_
  cases h
  exact ⟨by simp,z,v4,v5,v6,sb z,s.to [0,0,0,0]⟩
 intro x E W hJ
 rcases y1 with o3 | o4
 ·obtain ⟨rfl,hF⟩:=hJ
  refine ⟨_,λ_ _ h=>h,?_⟩
  cases h
  exact hF
 obtain ⟨rfl,v16,v17,v18,hE,s⟩:=hJ
 refine ⟨_,hE.sub,?_⟩
 cases h
 exact .g (.q z (.q z (.q z (.q z (.qn z (.ret (ac (vs:=[_,_,_]) (v16,v17,v18) (rt z (rt z (rt z rn))) z (s.to [0,0,0,0]))))))))
theorem us {a0:bQ} {a1:Int} {dS:Hd} {aM:Hd} {be:Hd} {w:World} {r:bQ×Bool} (h:kh a0 a1=some r) (cE:RO w dS 28 3 bo a0.Harts) (cg:RO w aM 95 2 bp a0.Boxes) (cW:RO w be 3 1 (D.int .i64) a0.Out) (hG:Gl w):CL 53 #[.agg #[sv dS,sv aM,vi a0.Turn,vi a0.Idle,sv be],vi a1] w (Ret No w (λs:Hd×Hd×Hd=>.tuple #[.agg #[(sv s.1),(sv s.2.1),vi r.1.Turn,vi r.1.Idle,(sv s.2.2)],.bool r.2]) (λs=>[ae (sv s.1) 28 3 bo r.1.Harts,ae (sv s.2.1) 95 2 bp r.1.Boxes,ae (sv s.2.2) 3 1 (D.int .i64) r.1.Out])):=by
 unfold kh at h
 refine ar func53 z z ?_
 have s:=Sep.start w
 refine .g (.c (.box s z z ?_))
 intro g1 W s
 refine .c (.alloc t54 s ?_)
 intro g2 W s
 refine .qn z (.seq (.g (.s (ld t54 s.p1 z z z z z) z (bv h λy1 hy1 h=>.c (.cO s func50 (nX hy1 (s.keep cE) (s.keep cg) (s.keep cW)) z z ?_)))))
 intro W s
 refine .q z (.q z (.cu 3 18 ((!y1)||(decide (a1<0))) s ?_ ?_))
 ·refine .both (!y1) (λb=>?_) (λb=>?_)
  ·exact .xx b z (.xx b z (.s (pkt b z z z) z (.nil (ck 3 s z (fk b)))))
  have hg1:=b
  exact .g hg1 (.q z (.g hg1 (.q z (.s (pkf hg1 z z z) z (.nil (ck 3 s z (fp hg1)))))))
 intro W s
 refine .q z (.cu 3 22 (((!y1)||(decide (a1<0)))||(decide (a1>1000000))) s ?_ ?_)
 ·refine .both ((!y1)||(decide (a1<0))) (λb=>?_) (λb=>?_)
  ·exact .xx b z (.xx b z (.s (pkt b z z z) z (.nil (ck 3 s z (fk b)))))
  have hg2:=b
  exact .g hg2 (.q z (.g hg2 (.q z (.s (pkf hg2 z z z) z (.nil (ck 3 s z (fp hg2)))))))
 intro W s
 refine .nil (.cond z (λb=>?_) (λb=>?_))
 ·have h:=aJ b h
  refine .g (.s (bs T.s54 z z) z (.c (.st t54 s z z z ?_)))
  intro W s
  refine .qn z (.ret ?_)
  have s:=s.nilv 28 3 bo
  have s:=s.nilv 95 2 bp
  have s:=s.nilv 3 1 (D.int .i64)
  cases h
  exact ac (vs:=[_,_]) (aw,aw,aw) (rc s.p3 t54 z (rt z rn) z z) z (s.to [2,1,0])
 have h:=aK b h
 refine .skip (.seq (bv h λy2 hy2 h=>bv h λy3 hy3 h=>?_))
 refine .via (R':=λx E' W'=>x=.normal/\∃ (g3:Nat) (v1:Hd) (v2:Hd) (v3:Hd),aB E' [(1,vi a1),(2,Pt g1),(4,Pt g2),(6,Pt g3)]/\Sep No w W' [.box g2 54 [sv aw,sv aw,vi 0,vi 0,sv aw],.box g1 54 [sv dS,sv aM,vi a0.Turn,vi a0.Idle,sv be],.box g3 54 [sv v1,sv v2,vi 0,vi 0,sv v3],ae (sv v1) 28 3 bo [],ae (sv v2) 95 2 bp y2,ae (sv v3) 3 1 (D.int .i64) y3]) ?_ ?_
 ·refine .rk 8 s [0,0] T.mix ?_
  intro W s
  have t:=s.to [0,0]
  refine .ts' 0 z (λW t=>fa f54_1 z z z) t z (.ts' 1 z (λW t=>ld t40 t.p1 z z z z z) t z (.ts' 3 z (λW t=>fa f54_4 z z z) t z (.ts' 4 z (λW t=>ld t23 t.p1 z z z z z) t z (.by [2,7] ⟨⟨_,z,?_⟩,⟨_,z,?_⟩,trivial⟩))))
  ·refine (.cV s func101 (gg hy2 (s.keep cg)) z z ?_)
   intro v4 W s
   refine s.an [1,1] λt=>.by [5,7] ⟨⟨_,z,?_⟩,⟨_,z,?_⟩,trivial⟩
   ·refine (.cV s func58 (aV hy3 (s.keep cW)) z z ?_)
    intro v5 W s
    refine s.an [2,2] λt=>.ts' 6 z (λW t=>bs T.s54 z z) t z (.by1 7 z (.alloc t54 s ?_))
    intro g4 W s
    refine s.an [3,3] λt=>.by1 8 z (.st t54 s z z z ?_)
    intro W s
    refine ⟨λh=>absurd z h,?_⟩
    refine .done ?_
    have s:=s.nilv 28 3 bo
    exact ⟨z,g4,aw,v4,v5,sb z,s.to [4,4,1,0,1,0]⟩
   refine (.alloc t54 s ?_)
   intro g5 W s
   refine s.an [2,2] λt=>.by1 5 z (.cV s func58 (aV hy3 (s.keep cW)) z z ?_)
   intro v6 W s
   refine s.an [3,3] λt=>.ts' 6 z (λW t=>bs T.s54 z z) t z (.by1 8 z (.st t54 s.p1 z z z ?_))
   intro W s
   refine ⟨λh=>absurd z h,?_⟩
   refine .done ?_
   have s:=s.nilv 28 3 bo
   exact ⟨z,g5,aw,v4,v6,sb z,s.to [4,4,1,0,1,0]⟩
  refine (.alloc t54 s ?_)
  intro g6 W s
  refine s.an [1,1] λt=>.by1 2 z (.cV s func101 (gg hy2 (s.keep cg)) z z ?_)
  intro v7 W s
  refine s.an [2,2] λt=>.by1 5 z (.cV s func58 (aV hy3 (s.keep cW)) z z ?_)
  intro v8 W s
  refine s.an [3,3] λt=>.ts' 6 z (λW t=>bs T.s54 z z) t z (.by1 8 z (.st t54 s.p2 z z z ?_))
  intro W s
  refine ⟨λh=>absurd z h,?_⟩
  refine .done ?_
  have s:=s.nilv 28 3 bo
  exact ⟨z,g6,aw,v7,v8,sb z,s.to [4,4,1,0,1,0]⟩
 intro x E W hJ
 obtain ⟨rfl,g7,v9,v10,v11,hE,s⟩:=hJ
 refine ⟨_,hE.sub,?_⟩
 refine .seq (.g (.s (fa f54_0 z z z) z (.s (ld t52 s.p1 z z z z z) z (.s (aZ (s.keep cE) u52 z z) z (.qn z (.block (bv h λy4 hy4 h=>?_)))))))
 refine .via (.iter (λs1 E' W'=>∃ (v14:Hd),aB E' [(1,vi a1),(2,Pt g1),(4,Pt g2),(6,Pt g7),(32,(sv dS)),(33,vi (a0.Harts.length:Int)),(34,vi s1.1)]/\Sep No w W' [.box g2 54 [sv aw,sv aw,vi 0,vi 0,sv aw],.box g1 54 [sv dS,sv aM,vi a0.Turn,vi a0.Idle,sv be],.box g7 54 [sv v14,sv v10,vi 0,vi 0,sv v11],ae (sv v10) 95 2 bp y2,ae (sv v11) 3 1 (D.int .i64) y3,ae (sv v14) 28 3 bo s1.2]) (λy5 x E' W'=>x=.exit 0/\∃ (v15:Hd),aB E' [(1,vi a1),(2,Pt g1),(4,Pt g2),(6,Pt g7)]/\Sep No w W' [.box g2 54 [sv aw,sv aw,vi 0,vi 0,sv aw],.box g1 54 [sv dS,sv aM,vi a0.Turn,vi a0.Idle,sv be],.box g7 54 [sv v15,sv v10,vi 0,vi 0,sv v11],ae (sv v10) 95 2 bp y2,ae (sv v11) 3 1 (D.int .i64) y3,ae (sv v15) 28 3 bo y5]) hy4 ⟨v9,sb z,s.to [0,0,0,1,1,0]⟩ ?_) ?_
 ·intro s1 y6 E W h hI
  obtain ⟨v13,hE,s⟩:=hI
  refine CW.sub hE ?_
  unfold fd at h
  refine .g (.qn z (.seq ?_))
  refine .cs z h ?_ ?_ <;> intro h
  ·refine .skip (.seq (.block (.g (bv h λx1 hx1 h=>?_))))
   obtain ⟨k1,hd,hck1⟩:=RV.el2 cE hx1
   have hd1:=pV hd
   obtain ⟨v16,k1,rfl,q13,hd2⟩:=cQ cE hd1
   obtain ⟨k1,rfl,hd3⟩:=dA cE z hd2
   obtain ⟨v17,k1,rfl,q14,hd4⟩:=cQ cE hd3
   obtain rfl:=gi cE hd4
   refine .s (ixv (s.keep cE) hx1 u52 t28 z z z) z (.s (lde (hck1 _ s.agree) t28 z z z z z) z (.c (.alloc t28 s ?_)))
   intro g8 W s
   refine .c (.st t28 s z z z ?_)
   intro W s
   refine .nil (.rk 7 s [0,0,0,0,0,0] T.mix ?_)
   intro W s
   have t:=s.to [0,0,0,0,0,0]
   refine .ts' 0 z (λW t=>fa f54_0 z z z) t z (.ts' 1 z (λW t=>ld t52 t.p3 z z z z z) t z (.ts' 2 z (λW t=>ld t28 t z z z z z) t z (bv h λy7 hy7 h=>.by1 3 z (.call s func80 (q9 hy7 (s.keep (q13 _ cE)) (s.keep (q14 _ cE))) z z ?_))))
   rintro ⟨v18,v19⟩ W s
   refine s.an [2,2,2,2,2,2] λt=>.by1 4 z (.lg (L1:=[ae (sv v18) 3 1 (D.int .i64) y7.Regs,ae (sv v19) 3 1 (D.int .i64) y7.Mem]) [(al.mk y7.Regs y7.Pc y7.Mem)] bo u52 t28 (s.to [0,0,0,0,0,0,0,0,0]) z z z (.agg (.row (.flat (c1:=[vi y7.Pc]) z (.row .nil)))) ?_ z (λ_=>z))
   intro v20 W s
   refine s.an [1,1,1,1,1,1] λt=>bv h λr1 hr1 h=>.by1 5 z (.appv hr1 (s.to [7,0,0,0,0,0,0,0]) u52 t28 z z z ?_)
   intro v21 W s
   refine s.an [1,1,1,1,1,1] λt=>.ts' 6 z (λW t=>fa f54_0 z z z) t z (.by1 7 z (.st t52 s.p4 z z z ?_))
   intro W s
   refine ⟨λh=>absurd z h,?_⟩
   refine .done (.region (.q z (.q z (.nil ?_))))
   cases h
   exact ⟨z,v21,sb z,s.to [3,3,0,2,2,0]⟩
  refine .exit ?_
  cases h
  exact ⟨by simp,z,v13,sb z,s.to [0,0,0,0,0,0]⟩
 intro x E W hJ
 obtain ⟨rfl,v22,hE,s⟩:=hJ
 refine ⟨_,hE.sub,?_⟩
 refine .g (.q z (.s (fa f54_0 z z z) z (.s (ld t52 s.p2 z z z z z) z (.s (aZ s.p5.lv u52 z z) z (.s (fa f54_2 z z z) z (.s (ld T.t3 s.p1 z z z z z) z (.s (fa f54_3 z z z) z (.s (ld T.t3 s.p1 z z z z z) z (.s (mf z z) z (bv h λy8 hy8 h=>?_))))))))))
 have s:=s.p2.p4.p4.p5
 refine .c (.cS (L0:=[ae (sv v22) 28 3 bo y4,ae (sv v10) 95 2 bp y2,ae (sv v11) 3 1 (D.int .i64) y3,.box g7 54 [sv v22,sv v10,vi 0,vi 0,sv v11]]) s func102 (λS h1 h2 h3=>(qE hy8 h2 (zz h1) (hG.at s (λ_ _ h=>h)) (hG.noS (λ_ _ h=>h) h1))) z z ?_)
 rintro ⟨v23,v24,v25⟩ W s
 refine .q z (.q z (.q z (.q z (.q z (.q z (.qn z (.seq (.g (.q z (.q z (.nil ?_)))))))))))
 refine .cs z h ?_ ?_ <;> intro h
 ·refine .g (.s (bs T.s54 z z) z (.c (.st t54 s.p4 z z z ?_)))
  intro W s
  refine .qn z (.ret ?_)
  have s:=s.nilv 28 3 bo
  have s:=s.nilv 95 2 bp
  have s:=s.nilv 3 1 (D.int .i64)
  cases h
  exact ac (vs:=[_,_]) (aw,aw,aw) (rc s.p3 t54 z (rt z rn) z z) z (s.to [2,1,0])
 refine .skip (.g (.q z (.q z (.s (fa f54_2 z z z) z (.c (.st T.t3 s z z z ?_))))))
 intro W s
 refine .s (fa f54_3 z z z) z (.c (.st T.t3 s z z z ?_))
 intro W s
 refine .nil (.g (.s (ld t54 s z z z z z) z (.c (.st t54 s.p4 z z z ?_))))
 intro W s
 cases h
 exact .qn z (.ret (ac (vs:=[_,_]) (v23,v24,v25) (rc s t54 z (rt z rn) z z) z (s.to [2,2,2])))
theorem vj {a0:List Int} {a1:List (List Instr)} {a2:Int} {v_0:Hd} {v_1:Hd} {w:World} {r:bQ} (h:lF a0 a1 a2=some r) (q_0:RO w v_0 3 1 (D.int .i64) a0) (q_1:RO w v_1 66 1 (λ(l:List Instr)=>D.row 105 5 (l.map aP)) a1) (hG:Gl w):CL 22 #[sv v_0,sv v_1,vi a2] w (Ret No w (λs:Hd×Hd×Hd=>.agg #[(sv s.1),(sv s.2.1),vi r.Turn,vi r.Idle,(sv s.2.2)]) (λs=>[ae (sv s.1) 28 3 bo r.Harts,ae (sv s.2.1) 95 2 bp r.Boxes,ae (sv s.2.2) 3 1 (D.int .i64) r.Out])):=by
 unfold lF at h
 refine ar func22 z z ?_
 have s:=Sep.start w
 refine .g (.c (.alloc t54 s ?_))
 intro g1 W s
 refine .nil (.g (.q z (.q z (bv h λy1 hy1 h=>.c (.call s func52 (ur hy1 (s.keep q_0) (s.keep q_1) (hG.at s (λ_ _ h=>h))) z z ?_)))))
 rintro ⟨v1,v2,v3⟩ W s
 refine .q z (.q z (.q z (.c (.alloc t54 s ?_))))
 intro g2 W s
 refine .c (.st t54 s z z z ?_)
 intro W s
 refine .qn z (.g (.s (ld t54 s z z z z z) z (.q z (bv h λy2 hy2 h=>.c (.call s func53 (us hy2 s.p1.lv s.p2.lv s.p3.lv (hG.at s (λ_ _ h=>h))) z z ?_)))))
 rintro ⟨v4,v5,v6⟩ W s
 refine .q z (.q z (.q z (.c (.alloc t54 s ?_))))
 intro g3 W s
 refine .c (.st t54 s z z z ?_)
 intro W s
 refine .qn z (.seq (.g (.q z (.q z (.q z (.cu 3 28 ((!y1.2)||(!y2.2)) s ?_ ?_))))))
 ·refine .both (!y1.2) (λb=>?_) (λb=>?_)
  ·exact .xx b z (.xx b z (.s (pkt b z z z) z (.nil (ck 3 s z (fk b)))))
  have hg1:=b
  exact .g hg1 (.q z (.g hg1 (.q z (.s (pkf hg1 z z z) z (.nil (ck 3 s z (fp hg1)))))))
 intro W s
 refine .nil ?_
 refine .cs z h ?_ ?_ <;> intro h
 ·refine .g (.s (bs T.s54 z z) z (.c (.st t54 s.p8 z z z ?_)))
  intro W s
  refine .nil (.ret ?_)
  have s:=s.nilv 28 3 bo
  have s:=s.nilv 95 2 bp
  have s:=s.nilv 3 1 (D.int .i64)
  cases h
  exact ac (aw,aw,aw) (rc s.p3 t54 z rn z z) z (s.to [2,1,0])
 refine .skip (.g (.s (ld t54 s z z z z z) z (.c (.st t54 s.p8 z z z ?_))))
 intro W s
 cases h
 exact .nil (.ret (ac (v4,v5,v6) (rc s t54 z rn z z) z (s.to [2,2,2])))
def ut (w:World) (r:Bool):Env->World->Prop:=Fin Tryz.prog Tryz.f54 No w (λs:Unit=>.bool r) (λs=>[]) .ret
theorem sW {a0:List (List Int)} {a1:List (List Int)} {v_0:Hd} {v_1:Hd} {w:World} {r:Bool} (h:jk a0 a1=some r) (q_0:RO w v_0 23 1 (λ(l:List Int)=>D.row 3 1 (l.map (D.int .i64))) a0) (q_1:RO w v_1 23 1 (λ(l:List Int)=>D.row 3 1 (l.map (D.int .i64))) a1):CL 54 #[sv v_0,sv v_1] w (RU w (.bool r)):=by
 unfold jk at h
 refine ar func54 z z ?_
 have s:=Sep.start w
 refine .g (.qn z (.seq (.g (.q z (.s (aZ (s.keep q_0) u47 z z) z (.q z (.s (aZ (s.keep q_1) u47 z z) z (.q z (.nil ?_)))))))))
 refine .cs z h ?_ ?_ <;> intro h
 ·obtain rfl:=o9 h
  exact .g (.qn z (.ret (ac () (rt z rn) z (s.to []))))
 refine .skip (.seq (.g (.qn z (.block (bv h λy1 hy1 h=>?_)))))
 refine .via (.iter (λs1 E' W'=>aB E' [(0,(sv v_0)),(1,(sv v_1)),(5,vi s1)]/\Sep No w W' []) (λy2 x E' W'=>(match y2 with | .inl o1=>x=.ret/\ut w o1 E' W' | .inr o2=>x=.exit 0/\aB E' []/\Sep No w W' [])) hy1 ⟨sb rfl,s.to [] rfl⟩ ?_) ?_
 ·intro s1 y3 E W h hI
  obtain ⟨hE,s⟩:=hI
  refine CW.sub hE ?_
  unfold gb at h
  refine .seq (.g (.q z (.q z (.s (aZ (s.keep q_0) u47 z z) z (.q z (.nil ?_))))))
  refine .cs z h ?_ ?_ <;> intro h
  ·refine .skip (.seq (.block (.seq (.rk 10 s [] T.mix ?_))))
   intro W s
   have t:=s.to []
   refine .tp' 0 z z t (.tp' 1 z z t (bv h λx1 hx1 h=>?_))
   obtain ⟨k1,hd,hck1⟩:=RV.el2 q_0 hx1
   obtain ⟨v1,k1,rfl,q1,hd1⟩:=cQ q_0 hd
   obtain rfl:=gi q_0 hd1
   refine .ts' 2 z (λW t=>ixv (s.keep q_0) hx1 u47 t23 z z z) t z (.ts' 3 z (λW t=>lde (hck1 _ t.agree) t23 z z z z z) t z (.tp' 4 z z t (.tp' 5 z z t (bv h λx2 hx2 h=>?_))))
   obtain ⟨k2,hd,hck2⟩:=RV.el2 q_1 hx2
   obtain ⟨v2,k2,rfl,q2,hd1⟩:=cQ q_1 hd
   obtain rfl:=gi q_1 hd1
   refine .ts' 6 z (λW t=>ixv (s.keep q_1) hx2 u47 t23 z z z) t z (.ts' 7 z (λW t=>lde (hck2 _ t.agree) t23 z z z z z) t z (bv h λy4 hy4 h=>.by1 8 z (.cO s func15 (gX hy4 (s.keep (q1 _ q_0)) (s.keep (q2 _ q_1))) z z ?_)))
   intro W s
   refine s.an [] λt=>.tp' 9 z z t (.done ?_)
   refine .cs z h ?_ ?_ <;> intro h
   ·refine .g (.qn z (.ret ?_))
    cases h
    exact ⟨by simp,z,ac (vs:=[_]) () (rt z rn) z (s.to [])⟩
   refine .skip (.region (.q z (.q z (.q z (.nil ?_)))))
   cases h
   exact ⟨z,sb z,s.to []⟩
  refine .exit ?_
  cases h
  exact ⟨by simp,z,sb z,s.to []⟩
 intro x E W hJ
 rcases y1 with o3 | o4
 ·obtain ⟨rfl,hF⟩:=hJ
  refine ⟨_,λ_ _ h=>h,?_⟩
  cases h
  exact hF
 obtain ⟨rfl,hE,s⟩:=hJ
 refine ⟨_,hE.sub,?_⟩
 obtain rfl:=o9 h
 exact .g (.qn z (.ret (ac () (rt z rn) z (s.to []))))
def uv (w:World) (r:Bool):Env->World->Prop:=Fin Tryz.prog Tryz.f55 No w (λs:Unit=>.bool r) (λs=>[]) .ret
theorem sX {a0:List Bool} {a1:List Bool} {v_0:Hd} {v_1:Hd} {w:World} {r:Bool} (h:jl a0 a1=some r) (q_0:RO w v_0 4 1 D.bool a0) (q_1:RO w v_1 4 1 D.bool a1):CL 55 #[sv v_0,sv v_1] w (RU w (.bool r)):=by
 unfold jl at h
 refine ar func55 z z ?_
 have s:=Sep.start w
 refine .g (.qn z (.seq (.g (.q z (.s (aZ (s.keep q_0) u48 z z) z (.q z (.s (aZ (s.keep q_1) u48 z z) z (.q z (.nil ?_)))))))))
 refine .cs z h ?_ ?_ <;> intro h
 ·obtain rfl:=o9 h
  exact .g (.qn z (.ret (ac () (rt z rn) z (s.to []))))
 refine .skip (.seq (.g (.qn z (.block (bv h λy1 hy1 h=>?_)))))
 refine .via (.iter (λs1 E' W'=>aB E' [(0,(sv v_0)),(1,(sv v_1)),(5,vi s1)]/\Sep No w W' []) (λy2 x E' W'=>(match y2 with | .inl o1=>x=.ret/\uv w o1 E' W' | .inr o2=>x=.exit 0/\aB E' []/\Sep No w W' [])) hy1 ⟨sb rfl,s.to [] rfl⟩ ?_) ?_
 ·intro s1 y3 E W h hI
  obtain ⟨hE,s⟩:=hI
  refine CW.sub hE ?_
  unfold gc at h
  refine .seq (.g (.q z (.q z (.s (aZ (s.keep q_0) u48 z z) z (.q z (.nil ?_))))))
  refine .cs z h ?_ ?_ <;> intro h
  ·refine .skip (.seq (.block (.seq (.rk 9 s [] T.mix ?_))))
   intro W s
   have t:=s.to []
   refine .tp' 0 z z t (.tp' 1 z z t (bv h λx1 hx1 h=>.ts' 2 z (λW t=>ixv (s.keep q_0) hx1 u48 t4 z z z) t z (.ts' 3 z (λW t=>lde (RV.flat (t.keep q_0) hx1 z) t4 z z z z z) t z (.tp' 4 z z t (.tp' 5 z z t (bv h λx2 hx2 h=>.ts' 6 z (λW t=>ixv (s.keep q_1) hx2 u48 t4 z z z) t z (.ts' 7 z (λW t=>lde (RV.flat (t.keep q_1) hx2 z) t4 z z z z z) t z (.ts' 8 z (λW t=>neb u4 z z z) t z (.done ?_)))))))))
   refine .cs z h ?_ ?_ <;> intro h
   ·refine .g (.qn z (.ret ?_))
    cases h
    exact ⟨by simp,z,ac (vs:=[_]) () (rt z rn) z (s.to [])⟩
   refine .skip (.region (.q z (.q z (.q z (.nil ?_)))))
   cases h
   exact ⟨z,sb z,s.to []⟩
  refine .exit ?_
  cases h
  exact ⟨by simp,z,sb z,s.to []⟩
 intro x E W hJ
 rcases y1 with o3 | o4
 ·obtain ⟨rfl,hF⟩:=hJ
  refine ⟨_,λ_ _ h=>h,?_⟩
  cases h
  exact hF
 obtain ⟨rfl,hE,s⟩:=hJ
 refine ⟨_,hE.sub,?_⟩
 obtain rfl:=o9 h
 exact .g (.qn z (.ret (ac () (rt z rn) z (s.to []))))
theorem rl {a0:dB} {a1:dB} {be:Hd} {db:Hd} {xt:Hd} {bZ:Hd} {pf:Hd} {xv:Hd} {w:World} {r:Bool} (h:ff a0 a1=some r) (cW:RO w be 3 1 (D.int .i64) a0.Out) (iH:RO w db 23 1 (λ(l:List Int)=>D.row 3 1 (l.map (D.int .i64))) a0.Items) (A8:RO w xt 4 1 D.bool a0.Ended) (pG:RO w bZ 3 1 (D.int .i64) a1.Out) (um:RO w pf 23 1 (λ(l:List Int)=>D.row 3 1 (l.map (D.int .i64))) a1.Items) (A9:RO w xv 4 1 D.bool a1.Ended):CL 23 #[.agg #[sv be,sv db,sv xt,.bool a0.Rest],.agg #[sv bZ,sv pf,sv xv,.bool a1.Rest]] w (RU w (.bool r)):=by
 unfold ff at h
 refine ar func23 z z ?_
 have s:=Sep.start w
 refine .g (.c (.box s z z ?_))
 intro g1 W s
 refine .c (.box s z z ?_)
 intro g2 W s
 refine .qn z (.g (.s (fa f50_0 z z z) z (.s (ld t23 s.p1 z z z z z) z (.s (fa f50_0 z z z) z (.s (ld t23 s z z z z z) z (bv h λy1 hy1 h=>.c (.cO s func15 (gX hy1 (s.keep cW) (s.keep pG)) z z ?_)))))))
 intro W s
 refine .q z (bv h λb1 hb1 h=>.cu 6 16 (b1) s ?_ ?_)
 ·refine .both (y1) (λb=>?_) (λb=>?_)
  ·have hg1:=b
   have h:=aJ b hb1
   refine .g hg1 (.s (fa f50_1 z z z) z (.g hg1 (.s (ld t47 s.p1 z z z z z) z (.g hg1 (.s (fa f50_1 z z z) z (.g hg1 (.s (ld t47 s z z z z z) z (bv h λy2 hy2 h=>.g hg1 (.c (.cO s func54 (sW hy2 (s.keep iH) (s.keep um)) z z ?_))))))))))
   intro W s
   refine .s (pkt hg1 z z z) z ?_
   cases h
   exact .nil (ck 6 s)
  refine .xx b z (.xx b z (.xx b z (.xx b z (.xx b z ?_))))
  cases aK b hb1
  exact .s (pkf b z z z) z (.nil (ck 6 s))
 intro W s
 refine .q z (bv h λb2 hb2 h=>.cu 6 23 (b2) s ?_ ?_)
 ·refine .both (b1) (λb=>?_) (λb=>?_)
  ·have hg2:=b
   have h:=aJ b hb2
   refine .g hg2 (.s (fa f50_2 z z z) z (.g hg2 (.s (ld t48 s.p1 z z z z z) z (.g hg2 (.s (fa f50_2 z z z) z (.g hg2 (.s (ld t48 s z z z z z) z (bv h λy3 hy3 h=>.g hg2 (.c (.cO s func55 (sX hy3 (s.keep A8) (s.keep A9)) z z ?_))))))))))
   intro W s
   refine .s (pkt hg2 z z z) z ?_
   cases h
   exact .nil (ck 6 s)
  refine .xx b z (.xx b z (.xx b z (.xx b z (.xx b z ?_))))
  cases aK b hb2
  exact .s (pkf b z z z) z (.nil (ck 6 s))
 intro W s
 refine .q z (.cu 6 30 (b2&&(a0.Rest==a1.Rest)) s ?_ ?_)
 ·refine .both (b2) (λb=>?_) (λb=>?_)
  ·have hg3:=b
   exact .g hg3 (.s (fa f50_3 z z z) z (.g hg3 (.s (ld t4 s.p1 z z z z z) z (.g hg3 (.s (fa f50_3 z z z) z (.g hg3 (.s (ld t4 s z z z z z) z (.g hg3 (.s (eqb u4 z z z) z (.s (pkt hg3 z z z) z (.nil (ck 6 s z (bf hg3)))))))))))))
  exact .xx b z (.xx b z (.xx b z (.xx b z (.xx b z (.s (pkf b z z z) z (.nil (ck 6 s z (bg b))))))))
 intro W s
 cases h
 exact .qn z (.ret (ac () (rt z rn) z (s.to [])))
end
noncomputable section
def pX (w:World) (S:Nat->Prop) (ao:Hd) (h_0:Hd) (A_0:Type) (e_0:A_0->D) (l_0:List A_0) (k_0:Nat) (v_1:Hd) (v_2:Hd) (v_3:Hd) (g_3:Nat) (o_3_0:Value) (o_3_1:Value) (o_3_2:Value) (o_3_3:Value) (o_3_4:Value) (a0:bn) (a1:List ah) (a2:List Box) (a3:List Int) (r:Int×(List Int)×Int×(List Int)×(List Box)):Env->World->Prop:=Fin Tryz.prog Tryz.f108 S w (λs:Hd×Hd=>.int .i64 r.1) (λs=>[cB (sv h_0) 60 2 e_0 l_0 k_0 [(sv s.1),vi r.2.2.1],ae (sv v_2) 95 2 bp r.2.2.2.2,.box g_3 42 [o_3_0,o_3_1,o_3_2,o_3_3,o_3_4,(sv s.2)],ae (sv s.1) 3 1 (D.int .i64) r.2.1,ae (sv s.2) 3 1 (D.int .i64) r.2.2.2.1]) .ret
theorem dz {a0:bn} {a1:List ah} {a2:List Box} {a3:List Int} {ao:Hd} {h_0:Hd} {A_0:Type} {e_0:A_0->D} {l_0:List A_0} {k_0:Nat} {v_1:Hd} {v_2:Hd} {v_3:Hd} {g_3:Nat} {o_3_0 o_3_1 o_3_2 o_3_3 o_3_4:Value} {S:Nat->Prop} {w:World} {r:Int×(List Int)×Int×(List Int)×(List Box)} (h:bB a0 a1 a2 a3=some r) (q_1:RV w (Old S w) (sv v_1) 102 5 ay a1) (hO:bS w [ae (sv ao) 3 1 (D.int .i64) a0.Regs,cB (sv h_0) 60 2 e_0 l_0 k_0 [sv ao,vi a0.Pc],ae (sv v_2) 95 2 bp a2,ae (sv v_3) 3 1 (D.int .i64) a3,.box g_3 42 [o_3_0,o_3_1,o_3_2,o_3_3,o_3_4,sv v_3]] S) (hlt:∀ b,S b->b<w.heap.size):CL 108 #[.pointer (some (cT (adr (sv h_0)) (k_0*2+0))),sv v_1,sv v_2,.pointer (some ⟨g_3,5,none⟩)] w (Ret S w (λs:Hd×Hd=>.int .i64 r.1) (λs=>[cB (sv h_0) 60 2 e_0 l_0 k_0 [(sv s.1),vi r.2.2.1],ae (sv v_2) 95 2 bp r.2.2.2.2,.box g_3 42 [o_3_0,o_3_1,o_3_2,o_3_3,o_3_4,(sv s.2)],ae (sv s.1) 3 1 (D.int .i64) r.2.1,ae (sv s.2) 3 1 (D.int .i64) r.2.2.2.1])):=by
 unfold bB at h
 refine ar func108 z z ?_
 have s:=Sep.sm hO hlt
 refine .g (.qn z (.g (.q z (.q z (.q z (.s (fe f60_1 z z z) z (.s (lde (s.p1.hcellsv) T.t3 z z z z z) z (bv h λx1 hx1 h=>.s (ixv (s.keep q_1) hx1 u78 t102 z z z) z (.s (lde (RV.flat (s.keep q_1) hx1 z) t102 z z z z z) z (.c (.alloc t102 s ?_)))))))))))
 intro g1 W s
 refine .c (.st t102 s z z z ?_)
 intro W s
 refine .nil (.g (.q z (.q z (.s (fe f60_1 z z z) z (.s (lde (s.p2.hcellsv) T.t3 z z z z z) z (.q z (.qn z (bv h λy1 hy1 h=>?_))))))))
 refine .seq (CW.via (R':=λx E' W'=>(match y1 with | .inl o1=>x=.normal/\∃ (v1:Hd),aB E' [(0,.pointer (some (cT (adr (sv h_0)) (k_0*2+0)))),(10,vi o1.1)]/\Sep S w W' [.box g1 102 [vi x1.Op,vi x1.Dst,vi x1.A,vi x1.B,vi x1.N],ae (sv ao) 3 1 (D.int .i64) o1.2.2.1,cB (sv h_0) 60 2 e_0 l_0 k_0 [sv ao,vi a0.Pc],ae (sv v_2) 95 2 bp o1.2.2.2,.box g_3 42 [o_3_0,o_3_1,o_3_2,o_3_3,o_3_4,sv v1],ae (sv v1) 3 1 (D.int .i64) o1.2.1] | .inr o2=>x=.ret/\pX w S ao h_0 A_0 e_0 l_0 k_0 v_1 v_2 v_3 g_3 o_3_0 o_3_1 o_3_2 o_3_3 o_3_4 a0 a1 a2 a3 o2 E' W')) ?_ ?_)
 ·have h:=hy1
  refine .g (.s (fa f102_0 z z z) z (.s (ld T.t3 s z z z z z) z (.nil (.block (.g (.q z (.q z (.nil ?_))))))))
  refine .cs z h ?_ ?_ <;> intro h
  ·refine .rk 9 s [0,0,0,0,0,0] T.mix ?_
   intro W s
   have t:=s.to [0,0,0,0,0,0]
   refine .tp' 0 z z t (.tp' 1 z z t (.ts' 2 z (λW t=>fe f60_0 z z z) t z (.ts' 3 z (λW t=>lde (t.p2.hcellsv) t23 z z z z z) t z (.ts' 4 z (λW t=>fa f102_1 z z z) t z (.ts' 5 z (λW t=>ld T.t3 t z z z z z) t z (.ts' 6 z (λW t=>fa f102_4 z z z) t z (.ts' 7 z (λW t=>ld T.t3 t z z z z z) t z (bv h λx2 hx2 h=>.ts' 8 z (λW t=>ixv s.p1.lv hx2 u23 T.t3 z z z) t z (bv h λr1 hr1 h=>.by1 9 z (.sev hr1 hx2 s.p1 T.t3 z z z z z z ?_))))))))))
   intro W s
   refine ⟨λh=>absurd z h,?_⟩
   refine .done ?_
   cases h
   exact ⟨z,v_3,sb z,s.to [1,0,0,0,1,0]⟩
  refine .g (.q z (.q z (.nil ?_)))
  refine .cs z h ?_ ?_ <;> intro h
  ·refine .rk 15 s [0,0,0,0,0,0] T.mix ?_
   intro W s
   have t:=s.to [0,0,0,0,0,0]
   refine .tp' 0 z z t (.tp' 1 z z t (.ts' 2 z (λW t=>fe f60_0 z z z) t z (.ts' 3 z (λW t=>lde (t.p2.hcellsv) t23 z z z z z) t z (.ts' 4 z (λW t=>fa f102_1 z z z) t z (.ts' 5 z (λW t=>ld T.t3 t z z z z z) t z (.tp' 6 z z t (.tp' 7 z z t (.ts' 8 z (λW t=>fe f60_0 z z z) t z (.ts' 9 z (λW t=>lde (t.p2.hcellsv) t23 z z z z z) t z (.ts' 10 z (λW t=>fa f102_2 z z z) t z (.ts' 11 z (λW t=>ld T.t3 t z z z z z) t z (bv h λx3 hx3 h=>.ts' 12 z (λW t=>ixv s.p1.lv hx3 u23 T.t3 z z z) t z (.ts' 13 z (λW t=>lde (RV.flat t.p1.lv hx3 z) T.t3 z z z z z) t z (bv h λx4 hx4 h=>.ts' 14 z (λW t=>ixv s.p1.lv hx4 u23 T.t3 z z z) t z (bv h λr2 hr2 h=>.by1 15 z (.sev hr2 hx4 s.p1 T.t3 z z z z z z ?_))))))))))))))))
   intro W s
   refine ⟨λh=>absurd z h,?_⟩
   refine .done ?_
   cases h
   exact ⟨z,v_3,sb z,s.to [1,0,0,0,1,0]⟩
  refine .g (.q z (.q z (.nil ?_)))
  refine .cs z h ?_ ?_ <;> intro h
  ·refine .rk 26 s [0,0,0,0,0,0] T.mix ?_
   intro W s
   have t:=s.to [0,0,0,0,0,0]
   refine .tp' 0 z z t (.tp' 1 z z t (.ts' 2 z (λW t=>fe f60_0 z z z) t z (.ts' 3 z (λW t=>lde (t.p2.hcellsv) t23 z z z z z) t z (.ts' 4 z (λW t=>fa f102_1 z z z) t z (.ts' 5 z (λW t=>ld T.t3 t z z z z z) t z (.ts' 6 z (λW t=>fa f102_4 z z z) t z (.ts' 7 z (λW t=>ld T.t3 t z z z z z) t z (.tp' 8 z z t (.tp' 9 z z t (.ts' 10 z (λW t=>fe f60_0 z z z) t z (.ts' 11 z (λW t=>lde (t.p2.hcellsv) t23 z z z z z) t z (.ts' 12 z (λW t=>fa f102_2 z z z) t z (.ts' 13 z (λW t=>ld T.t3 t z z z z z) t z (bv h λx5 hx5 h=>.ts' 14 z (λW t=>ixv s.p1.lv hx5 u23 T.t3 z z z) t z (.ts' 15 z (λW t=>lde (RV.flat t.p1.lv hx5 z) T.t3 z z z z z) t z (.tp' 16 z z t (.tp' 17 z z t (.ts' 18 z (λW t=>fe f60_0 z z z) t z (.ts' 19 z (λW t=>lde (t.p2.hcellsv) t23 z z z z z) t z (.ts' 20 z (λW t=>fa f102_3 z z z) t z (.ts' 21 z (λW t=>ld T.t3 t z z z z z) t z (bv h λx6 hx6 h=>.ts' 22 z (λW t=>ixv s.p1.lv hx6 u23 T.t3 z z z) t z (.ts' 23 z (λW t=>lde (RV.flat t.p1.lv hx6 z) T.t3 z z z z z) t z (bv h λy2 hy2 h=>.by1 24 z (.cO s func128 (rB hy2) z z ?_)))))))))))))))))))))))))
   intro W s
   refine s.an [0,0,0,0,0,0] λt=>bv h λx7 hx7 h=>.ts' 25 z (λW t=>ixv s.p1.lv hx7 u23 T.t3 z z z) t z (bv h λr3 hr3 h=>.by1 26 z (.sev hr3 hx7 s.p1 T.t3 z z z z z z ?_))
   intro W s
   refine ⟨λh=>absurd z h,?_⟩
   refine .done ?_
   cases h
   exact ⟨z,v_3,sb z,s.to [1,0,0,0,1,0]⟩
  refine .g (.q z (.q z (.nil ?_)))
  refine .cs z h ?_ ?_ <;> intro h
  ·refine .region (.s (fa f102_4 z z z) z (.s (ld T.t3 s z z z z z) z (.q z (.nil ?_))))
   cases h
   exact ⟨z,v_3,sb z,s.to [0,0,0,0,1,0]⟩
  refine .g (.q z (.q z (.nil ?_)))
  refine .cs z h ?_ ?_ <;> intro h
  ·refine .seq (.rk 9 s [0,0,0,0,0,0] T.mix ?_)
   intro W s
   have t:=s.to [0,0,0,0,0,0]
   refine .tp' 0 z z t (.tp' 1 z z t (.ts' 2 z (λW t=>fe f60_0 z z z) t z (.ts' 3 z (λW t=>lde (t.p2.hcellsv) t23 z z z z z) t z (.ts' 4 z (λW t=>fa f102_2 z z z) t z (.ts' 5 z (λW t=>ld T.t3 t z z z z z) t z (bv h λx8 hx8 h=>.ts' 6 z (λW t=>ixv s.p1.lv hx8 u23 T.t3 z z z) t z (.ts' 7 z (λW t=>lde (RV.flat t.p1.lv hx8 z) T.t3 z z z z z) t z (.tp' 8 z z t (.done ?_)))))))))
   refine .cs z h ?_ ?_ <;> intro h
   ·refine .region (.s (fa f102_4 z z z) z (.s (ld T.t3 s z z z z z) z (.q z (.nil ?_))))
    cases h
    exact ⟨z,v_3,sb z,s.to [0,0,0,0,1,0]⟩
   refine .skip ?_
   cases h
   exact ⟨z,v_3,sb z,s.to [0,0,0,0,1,0]⟩
  refine .g (.q z (.qn z (.cond z (λb=>?_) (λb=>?_))))
  ·have h:=aJ b h
   refine .seq (.rk 14 s [0,0,0,1,1] T.mix ?_)
   intro W s
   have t:=s.to [0,0,0,1,1]
   refine .tp' 0 z z t (.ts' 1 z (λW t=>fa f102_4 z z z) t z (.ts' 2 z (λW t=>ld T.t3 t z z z z z) t z (bv h λx9 hx9 h=>.ts' 3 z (λW t=>ixv s.p3.lv hx9 u40 t95 z z z) t z (.tp' 4 z z t (.tp' 5 z z t (.ts' 6 z (λW t=>fe f60_0 z z z) t z (.ts' 7 z (λW t=>lde (t.p2.hcellsv) t23 z z z z z) t z (.ts' 8 z (λW t=>fa f102_2 z z z) t z (.ts' 9 z (λW t=>ld T.t3 t z z z z z) t z (bv h λx10 hx10 h=>.ts' 10 z (λW t=>ixv s.p1.lv hx10 u23 T.t3 z z z) t z (.ts' 11 z (λW t=>lde (RV.flat t.p1.lv hx10 z) T.t3 z z z z z) t z ?_)))))))))))
   obtain ⟨k1,s⟩:=Sep.ov s.p3 hx9
   have s:=s.oa
   obtain ⟨k1,rfl,s⟩:=Sep.oF z s
   obtain ⟨v2,k1,rfl,s⟩:=s.ow
   obtain ⟨rfl,s⟩:=s.oN
   refine bv h λy3 hy3 h=>?_
   have s:=s.p1.p1
   refine .by1 12 z (.cS (L0:=[ae (sv v2) 3 1 (D.int .i64) x9.Items,cB (sv v_2) 95 2 bp a2 (Int.toNat x1.N) [vi x9.Room,sv v2]]) s func154 (λS h1 h2 h3=>(nY hy3 h2 (zz h1))) z z ?_)
   rintro v3 W s
   refine s.an [2,2,2,2,2] λt=>.tp' 13 z z t (.done ?_)
   refine .cs z h ?_ ?_ <;> intro h
   ·refine .g (.qn z (.ret ?_))
    have s:=Sep.gat (ds:=[bp (Box.mk x9.Room y3.2)]) (cs:=[vi x9.Room,sv v3]) (L1:=[ae (sv v3) 3 1 (D.int .i64) y3.2]) (.agg (.flat (c1:=[vi x9.Room]) z (.row .nil))) (s.to [1,0,0,0,0,0,0])
    have s:Sep _ _ _ [ae (sv v_2) 95 2 bp (a2.set (Int.toNat x1.N) (Box.mk x9.Room y3.2)),.box g1 102 [vi x1.Op,vi x1.Dst,vi x1.A,vi x1.B,vi x1.N],ae (sv ao) 3 1 (D.int .i64) a0.Regs,cB (sv h_0) 60 2 e_0 l_0 k_0 [sv ao,vi a0.Pc],ae (sv v_3) 3 1 (D.int .i64) a3,.box g_3 42 [o_3_0,o_3_1,o_3_2,o_3_3,o_3_4,sv v_3]]:=s.bv
    cases h
    exact ⟨z,ac (vs:=[_]) (ao,v_3) (rt z rn) z (s.to [3,0,3,1,1])⟩
   refine .skip ?_
   have s:=Sep.gat (ds:=[bp (Box.mk x9.Room y3.2)]) (cs:=[vi x9.Room,sv v3]) (L1:=[ae (sv v3) 3 1 (D.int .i64) y3.2]) (.agg (.flat (c1:=[vi x9.Room]) z (.row .nil))) (s.to [1,0,0,0,0,0,0])
   have s:Sep _ _ _ [ae (sv v_2) 95 2 bp (a2.set (Int.toNat x1.N) (Box.mk x9.Room y3.2)),.box g1 102 [vi x1.Op,vi x1.Dst,vi x1.A,vi x1.B,vi x1.N],ae (sv ao) 3 1 (D.int .i64) a0.Regs,cB (sv h_0) 60 2 e_0 l_0 k_0 [sv ao,vi a0.Pc],ae (sv v_3) 3 1 (D.int .i64) a3,.box g_3 42 [o_3_0,o_3_1,o_3_2,o_3_3,o_3_4,sv v_3]]:=s.bv
   cases h
   exact ⟨z,v_3,sb z,s.to [1,1,1,0,1,0]⟩
  have h:=aK b h
  refine .g (.q z (.qn z (.cond z (λb=>?_) (λb=>?_))))
  ·have h:=aJ b h
   refine .g (.q z (.s (fa f102_4 z z z) z (.s (ld T.t3 s z z z z z) z (bv h λx11 hx11 h=>.s (ixv s.p3.lv hx11 u40 t95 z z z) z ?_))))
   obtain ⟨k2,s⟩:=Sep.ov s.p3 hx11
   have s:=s.oa
   obtain ⟨k2,rfl,s⟩:=Sep.oF z s
   obtain ⟨v4,k2,rfl,s⟩:=s.ow
   obtain ⟨rfl,s⟩:=s.oN
   refine bv h λy4 hy4 h=>?_
   have s:=s.p1.p1
   refine .c (.cS (L0:=[ae (sv v4) 3 1 (D.int .i64) x11.Items,cB (sv v_2) 95 2 bp a2 (Int.toNat x1.N) [vi x11.Room,sv v4]]) s func155 (λS h1 h2 h3=>(nh hy4 h2 (zz h1))) z z ?_)
   rintro v5 W s
   refine .q z (.q z (.q z (.q z (.qn z (.seq (.g (.q z (.q z (.nil ?_)))))))))
   refine .cs z h ?_ ?_ <;> intro h
   ·refine .g (.qn z (.ret ?_))
    have s:=Sep.gat (ds:=[bp (Box.mk x11.Room y4.2.2)]) (cs:=[vi x11.Room,sv v5]) (L1:=[ae (sv v5) 3 1 (D.int .i64) y4.2.2]) (.agg (.flat (c1:=[vi x11.Room]) z (.row .nil))) (s.to [1,0,0,0,0,0,0])
    have s:Sep _ _ _ [ae (sv v_2) 95 2 bp (a2.set (Int.toNat x1.N) (Box.mk x11.Room y4.2.2)),.box g1 102 [vi x1.Op,vi x1.Dst,vi x1.A,vi x1.B,vi x1.N],ae (sv ao) 3 1 (D.int .i64) a0.Regs,cB (sv h_0) 60 2 e_0 l_0 k_0 [sv ao,vi a0.Pc],ae (sv v_3) 3 1 (D.int .i64) a3,.box g_3 42 [o_3_0,o_3_1,o_3_2,o_3_3,o_3_4,sv v_3]]:=s.bv
    cases h
    exact ⟨z,ac (vs:=[_]) (ao,v_3) (rt z rn) z (s.to [3,0,3,1,1])⟩
   refine .skip (.rk 8 s [0,0,0,0,0,0,0] T.mix ?_)
   intro W s
   have t:=s.to [0,0,0,0,0,0,0]
   refine .tp' 0 z z t (.tp' 1 z z t (.ts' 2 z (λW t=>fe f60_0 z z z) t z (.ts' 3 z (λW t=>lde (t.p4.hcellsv) t23 z z z z z) t z (.ts' 4 z (λW t=>fa f102_1 z z z) t z (.ts' 5 z (λW t=>ld T.t3 t.p2 z z z z z) t z (.tp' 6 z z t (bv h λx12 hx12 h=>.ts' 7 z (λW t=>ixv s.p3.lv hx12 u23 T.t3 z z z) t z (bv h λr4 hr4 h=>.by1 8 z (.sev hr4 hx12 s.p3 T.t3 z z z z z z ?_)))))))))
   intro W s
   refine ⟨λh=>absurd z h,?_⟩
   refine .done ?_
   have s:=Sep.gat (ds:=[bp (Box.mk x11.Room y4.2.2)]) (cs:=[vi x11.Room,sv v5]) (L1:=[ae (sv v5) 3 1 (D.int .i64) y4.2.2]) (.agg (.flat (c1:=[vi x11.Room]) z (.row .nil))) (s.to [2,1,0,0,0,0,0])
   have s:Sep _ _ _ [ae (sv v_2) 95 2 bp (a2.set (Int.toNat x1.N) (Box.mk x11.Room y4.2.2)),ae (sv ao) 3 1 (D.int .i64) r4,.box g1 102 [vi x1.Op,vi x1.Dst,vi x1.A,vi x1.B,vi x1.N],cB (sv h_0) 60 2 e_0 l_0 k_0 [sv ao,vi a0.Pc],ae (sv v_3) 3 1 (D.int .i64) a3,.box g_3 42 [o_3_0,o_3_1,o_3_2,o_3_3,o_3_4,sv v_3]]:=s.bv
   cases h
   exact ⟨z,v_3,sb z,s.to [2,1,1,0,1,0]⟩
  have h:=aK b h
  refine .g (.q z (.q z (.nil ?_)))
  refine .cs z h ?_ ?_ <;> intro h
  ·refine .g (.q z (.q z (.q z (.s (fe f60_1 z z z) z (.c (.sthv s.p2 T.t3 z z z ?_))))))
   intro W s
   refine .nil (.g (.qn z (.ret ?_)))
   cases h
   exact ⟨z,ac (vs:=[_]) (ao,v_3) (rt z rn) z (s.to [0,2,3,1,1])⟩
  refine .g (.q z (.q z (.nil ?_)))
  refine .cs z h ?_ ?_ <;> intro h
  ·refine .rk 15 s [0,0,0,0,1] T.mix ?_
   intro W s
   have t:=s.to [0,0,0,0,1]
   refine .tp' 0 z z t (.tp' 1 z z t (.tp' 2 z z t (.ts' 3 z (λW t=>ld t23 t.p4 z z z z z) t z (.tp' 4 z z t (.tp' 5 z z t (.ts' 6 z (λW t=>fe f60_0 z z z) t z (.ts' 7 z (λW t=>lde (t.p2.hcellsv) t23 z z z z z) t z (.ts' 8 z (λW t=>fa f102_2 z z z) t z (.ts' 9 z (λW t=>ld T.t3 t z z z z z) t z (bv h λx13 hx13 h=>.ts' 10 z (λW t=>ixv s.p1.lv hx13 u23 T.t3 z z z) t z (.ts' 11 z (λW t=>lde (RV.flat t.p1.lv hx13 z) T.t3 z z z z z) t z (.by1 12 z (.liv [x13] (D.int .i64) u23 T.t3 s z z z z ?_ z (λ_=>z))))))))))))))
   intro v6 W s
   refine s.an [1,1,1,1,2] λt=>bv h λr5 hr5 h=>?_
   have hT0:=s.p5
   refine .by1 13 z (.av hr5 hT0 hT0.p1.lv (λ_=>z) u23 T.t3 z z z ?_)
   intro v7 W s
   refine s.an [2,2,2,2,2] λt=>.tp' 14 z z t (.by1 15 z (.st t23 s.p6 z z z ?_))
   intro W s
   refine ⟨λh=>absurd z h,?_⟩
   refine .done ?_
   cases h
   exact ⟨z,v7,sb z,s.to [3,3,3,3,0,0]⟩
  refine .g (.q z (.q z (.nil ?_)))
  refine .cs z h ?_ ?_ <;> intro h
  ·refine .g (.qn z (.ret ?_))
   cases h
   exact ⟨z,ac (vs:=[_]) (ao,v_3) (rt z rn) z (s.to [2,2,3,1,1])⟩
  refine .skip ?_
  cases h
  exact ⟨z,v_3,sb z,s.to [0,0,0,0,1,0]⟩
 intro x E W hJ
 rcases y1 with o3 | o4
 ·obtain ⟨rfl,v8,hE,s⟩:=hJ
  refine ⟨_,hE.sub,?_⟩
  refine .g (.q z (.q z (.q z (.s (fe f60_1 z z z) z (.c (.sthv s.p2 T.t3 z z z ?_))))))
  intro W s
  cases h
  exact .nil (.g (.qn z (.ret (ac (ao,v8) (rt z rn) z (s.to [0,2,2,1,1])))))
 obtain ⟨rfl,hF⟩:=hJ
 refine ⟨_,λ_ _ h=>h,?_⟩
 cases h
 exact hF
theorem sY {a0:Int} {a1:cD} {bX:Hd} {aL:Hd} {aI:Hd} {bZ:Hd} {g_1:Nat} {S:Nat->Prop} {w:World} {r:Int×(List bn)×(List Box)×(List Int)} (h:jm a0 a1=some r) (bE:RV w (Old S w) (sv bX) 78 1 (λ(l:List ah)=>D.row 102 5 (l.map ay)) a1.Codes) (hO:bS w [ae (sv aL) 60 2 aW a1.Threads,ae (sv aI) 95 2 bp a1.Boxes,ae (sv bZ) 3 1 (D.int .i64) a1.Out,.box g_1 42 [sv bX,sv aL,sv aI,vi a1.Turn,vi a1.Idle,sv bZ]] S) (hlt:∀ b,S b->b<w.heap.size):CL 107 #[vi a0,Pt g_1] w (Ret S w (λs:Hd×Hd×Hd=>.int .i64 r.1) (λs=>[.box g_1 42 [sv bX,(sv s.1),(sv s.2.1),vi a1.Turn,vi a1.Idle,(sv s.2.2)],ae (sv s.1) 60 2 aW r.2.1,ae (sv s.2.1) 95 2 bp r.2.2.1,ae (sv s.2.2) 3 1 (D.int .i64) r.2.2.2])):=by
 unfold jm at h
 refine ar func107 z z ?_
 have s:=Sep.sm hO hlt
 refine .g (.qn z (.seq (bv h λx1 hx1 h=>bv h λx2 hx2 h=>bv h λy1 hy1 h=>?_)))
 refine .via (R':=λx E' W'=>x=.normal/\∃ (v1:Hd),aB E' [(3,vi y1.1)]/\Sep S w W' [ae (sv aL) 60 2 aW (a1.Threads.set (Int.toNat a0) (bn.mk y1.2.1 y1.2.2.1)),ae (sv aI) 95 2 bp y1.2.2.2.2,.box g_1 42 [sv bX,sv aL,sv aI,vi a1.Turn,vi a1.Idle,sv v1],ae (sv v1) 3 1 (D.int .i64) y1.2.2.2.1]) ?_ ?_
 ·refine .rk 14 s [] T.mix ?_
  intro W s
  have t:=s.to []
  refine .ts' 0 z (λW t=>fa f42_1 z z z) t z (.tp' 2 z z t (.ts' 4 z (λW t=>fa f42_0 z z z) t z (.tp' 6 z z t (.ts' 9 z (λW t=>fa f42_2 z z z) t z (.ts' 11 z (λW t=>fa f42_5 z z z) t z (.by [1,5,10] ⟨⟨_,z,?_⟩,⟨_,z,?_⟩,⟨_,z,?_⟩,trivial⟩))))))
  ·refine (.runs (ld t39 s.p3 z z z z z) z z ?_)
   refine s.an [] λt=>.ts' 3 z (λW t=>ixv s.lv hx1 u39 t60 z z z) t z (.by [5,10] ⟨⟨_,z,?_⟩,⟨_,z,?_⟩,trivial⟩)
   ·refine (.runs (ld t36 s.p3 z z z z z) z z ?_)
    refine s.an [] λt=>?_
    obtain ⟨k1,hd,hck1⟩:=RV.el2 bE hx2
    obtain ⟨v2,k1,rfl,q2,hd1⟩:=cQ bE hd
    obtain rfl:=gi bE hd1
    refine .ts' 7 z (λW t=>ixv (s.keep bE) hx2 u36 t78 z z z) t z (.ts' 8 z (λW t=>lde (hck1 _ t.agree) t78 z z z z z) t z (.by1 10 z (.runs (ld t40 s.p3 z z z z z) z z ?_)))
    refine s.an [] λt=>?_
    obtain ⟨k2,s⟩:=Sep.ov s hx1
    have s:=s.oa
    obtain ⟨v3,k2,rfl,s⟩:=s.ow
    obtain ⟨k2,rfl,s⟩:=Sep.oF z s
    obtain ⟨rfl,s⟩:=s.oN
    have s:=s.p4.p4.p4.p4.p4
    refine .by1 12 z (.cS (L0:=[ae (sv v3) 3 1 (D.int .i64) x1.Regs,cB (sv aL) 60 2 aW a1.Threads (Int.toNat a0) [sv v3,vi x1.Pc],ae (sv aI) 95 2 bp a1.Boxes,ae (sv bZ) 3 1 (D.int .i64) a1.Out,.box g_1 42 [sv bX,sv aL,sv aI,vi a1.Turn,vi a1.Idle,sv bZ]]) s func108 (λS h1 h2 h3=>(dz hy1 (s.ks (q2 _ bE) h1) h2 (zz h1))) z z ?_)
    rintro ⟨v4,v5⟩ W s
    refine s.an [] λt=>.tp' 13 z z t (.done ?_)
    have s:=Sep.gat (ds:=[aW (bn.mk y1.2.1 y1.2.2.1)]) (cs:=[sv v4,vi y1.2.2.1]) (L1:=[ae (sv v4) 3 1 (D.int .i64) y1.2.1]) (.agg (.row (.flat (c1:=[vi y1.2.2.1]) z .nil))) (s.to [3,0,0,0,0])
    have s:Sep _ _ _ [ae (sv aL) 60 2 aW (a1.Threads.set (Int.toNat a0) (bn.mk y1.2.1 y1.2.2.1)),ae (sv aI) 95 2 bp y1.2.2.2.2,.box g_1 42 [sv bX,sv aL,sv aI,vi a1.Turn,vi a1.Idle,sv v5],ae (sv v5) 3 1 (D.int .i64) y1.2.2.2.1]:=s.bv
    exact ⟨z,v5,sb z,s.to [0,0,0,0]⟩
   refine (.runs (ld t40 s.p3 z z z z z) z z ?_)
   refine s.an [] λt=>.by1 5 z (.runs (ld t36 s.p3 z z z z z) z z ?_)
   refine s.an [] λt=>?_
   obtain ⟨k3,hd,hck3⟩:=RV.el2 bE hx2
   obtain ⟨v6,k3,rfl,q3,hd1⟩:=cQ bE hd
   obtain rfl:=gi bE hd1
   refine .ts' 7 z (λW t=>ixv (s.keep bE) hx2 u36 t78 z z z) t z (.ts' 8 z (λW t=>lde (hck3 _ t.agree) t78 z z z z z) t z ?_)
   obtain ⟨k4,s⟩:=Sep.ov s hx1
   have s:=s.oa
   obtain ⟨v7,k4,rfl,s⟩:=s.ow
   obtain ⟨k4,rfl,s⟩:=Sep.oF z s
   obtain ⟨rfl,s⟩:=s.oN
   have s:=s.p4.p4.p4.p4.p4
   refine .by1 12 z (.cS (L0:=[ae (sv v7) 3 1 (D.int .i64) x1.Regs,cB (sv aL) 60 2 aW a1.Threads (Int.toNat a0) [sv v7,vi x1.Pc],ae (sv aI) 95 2 bp a1.Boxes,ae (sv bZ) 3 1 (D.int .i64) a1.Out,.box g_1 42 [sv bX,sv aL,sv aI,vi a1.Turn,vi a1.Idle,sv bZ]]) s func108 (λS h1 h2 h3=>(dz hy1 (s.ks (q3 _ bE) h1) h2 (zz h1))) z z ?_)
   rintro ⟨v8,v9⟩ W s
   refine s.an [] λt=>.tp' 13 z z t (.done ?_)
   have s:=Sep.gat (ds:=[aW (bn.mk y1.2.1 y1.2.2.1)]) (cs:=[sv v8,vi y1.2.2.1]) (L1:=[ae (sv v8) 3 1 (D.int .i64) y1.2.1]) (.agg (.row (.flat (c1:=[vi y1.2.2.1]) z .nil))) (s.to [3,0,0,0,0])
   have s:Sep _ _ _ [ae (sv aL) 60 2 aW (a1.Threads.set (Int.toNat a0) (bn.mk y1.2.1 y1.2.2.1)),ae (sv aI) 95 2 bp y1.2.2.2.2,.box g_1 42 [sv bX,sv aL,sv aI,vi a1.Turn,vi a1.Idle,sv v9],ae (sv v9) 3 1 (D.int .i64) y1.2.2.2.1]:=s.bv
   exact ⟨z,v9,sb z,s.to [0,0,0,0]⟩
  ·refine (.runs (ld t36 s.p3 z z z z z) z z ?_)
   refine s.an [] λt=>?_
   obtain ⟨k5,hd,hck5⟩:=RV.el2 bE hx2
   obtain ⟨v10,k5,rfl,q4,hd1⟩:=cQ bE hd
   obtain rfl:=gi bE hd1
   refine .ts' 7 z (λW t=>ixv (s.keep bE) hx2 u36 t78 z z z) t z (.ts' 8 z (λW t=>lde (hck5 _ t.agree) t78 z z z z z) t z (.by [1,10] ⟨⟨_,z,?_⟩,⟨_,z,?_⟩,trivial⟩))
   ·refine (.runs (ld t39 s.p3 z z z z z) z z ?_)
    refine s.an [] λt=>.ts' 3 z (λW t=>ixv s.lv hx1 u39 t60 z z z) t z (.by1 10 z (.runs (ld t40 s.p3 z z z z z) z z ?_))
    refine s.an [] λt=>?_
    obtain ⟨k6,s⟩:=Sep.ov s hx1
    have s:=s.oa
    obtain ⟨v11,k6,rfl,s⟩:=s.ow
    obtain ⟨k6,rfl,s⟩:=Sep.oF z s
    obtain ⟨rfl,s⟩:=s.oN
    have s:=s.p4.p4.p4.p4.p4
    refine .by1 12 z (.cS (L0:=[ae (sv v11) 3 1 (D.int .i64) x1.Regs,cB (sv aL) 60 2 aW a1.Threads (Int.toNat a0) [sv v11,vi x1.Pc],ae (sv aI) 95 2 bp a1.Boxes,ae (sv bZ) 3 1 (D.int .i64) a1.Out,.box g_1 42 [sv bX,sv aL,sv aI,vi a1.Turn,vi a1.Idle,sv bZ]]) s func108 (λS h1 h2 h3=>(dz hy1 (s.ks (q4 _ bE) h1) h2 (zz h1))) z z ?_)
    rintro ⟨v12,v13⟩ W s
    refine s.an [] λt=>.tp' 13 z z t (.done ?_)
    have s:=Sep.gat (ds:=[aW (bn.mk y1.2.1 y1.2.2.1)]) (cs:=[sv v12,vi y1.2.2.1]) (L1:=[ae (sv v12) 3 1 (D.int .i64) y1.2.1]) (.agg (.row (.flat (c1:=[vi y1.2.2.1]) z .nil))) (s.to [3,0,0,0,0])
    have s:Sep _ _ _ [ae (sv aL) 60 2 aW (a1.Threads.set (Int.toNat a0) (bn.mk y1.2.1 y1.2.2.1)),ae (sv aI) 95 2 bp y1.2.2.2.2,.box g_1 42 [sv bX,sv aL,sv aI,vi a1.Turn,vi a1.Idle,sv v13],ae (sv v13) 3 1 (D.int .i64) y1.2.2.2.1]:=s.bv
    exact ⟨z,v13,sb z,s.to [0,0,0,0]⟩
   refine (.runs (ld t40 s.p3 z z z z z) z z ?_)
   refine s.an [] λt=>.by1 1 z (.runs (ld t39 s.p3 z z z z z) z z ?_)
   refine s.an [] λt=>.ts' 3 z (λW t=>ixv s.lv hx1 u39 t60 z z z) t z ?_
   obtain ⟨k7,s⟩:=Sep.ov s hx1
   have s:=s.oa
   obtain ⟨v14,k7,rfl,s⟩:=s.ow
   obtain ⟨k7,rfl,s⟩:=Sep.oF z s
   obtain ⟨rfl,s⟩:=s.oN
   have s:=s.p4.p4.p4.p4.p4
   refine .by1 12 z (.cS (L0:=[ae (sv v14) 3 1 (D.int .i64) x1.Regs,cB (sv aL) 60 2 aW a1.Threads (Int.toNat a0) [sv v14,vi x1.Pc],ae (sv aI) 95 2 bp a1.Boxes,ae (sv bZ) 3 1 (D.int .i64) a1.Out,.box g_1 42 [sv bX,sv aL,sv aI,vi a1.Turn,vi a1.Idle,sv bZ]]) s func108 (λS h1 h2 h3=>(dz hy1 (s.ks (q4 _ bE) h1) h2 (zz h1))) z z ?_)
   rintro ⟨v15,v16⟩ W s
   refine s.an [] λt=>.tp' 13 z z t (.done ?_)
   have s:=Sep.gat (ds:=[aW (bn.mk y1.2.1 y1.2.2.1)]) (cs:=[sv v15,vi y1.2.2.1]) (L1:=[ae (sv v15) 3 1 (D.int .i64) y1.2.1]) (.agg (.row (.flat (c1:=[vi y1.2.2.1]) z .nil))) (s.to [3,0,0,0,0])
   have s:Sep _ _ _ [ae (sv aL) 60 2 aW (a1.Threads.set (Int.toNat a0) (bn.mk y1.2.1 y1.2.2.1)),ae (sv aI) 95 2 bp y1.2.2.2.2,.box g_1 42 [sv bX,sv aL,sv aI,vi a1.Turn,vi a1.Idle,sv v16],ae (sv v16) 3 1 (D.int .i64) y1.2.2.2.1]:=s.bv
   exact ⟨z,v16,sb z,s.to [0,0,0,0]⟩
  refine (.runs (ld t40 s.p3 z z z z z) z z ?_)
  refine s.an [] λt=>.by [1,5] ⟨⟨_,z,?_⟩,⟨_,z,?_⟩,trivial⟩
  ·refine (.runs (ld t39 s.p3 z z z z z) z z ?_)
   refine s.an [] λt=>.ts' 3 z (λW t=>ixv s.lv hx1 u39 t60 z z z) t z (.by1 5 z (.runs (ld t36 s.p3 z z z z z) z z ?_))
   refine s.an [] λt=>?_
   obtain ⟨k8,hd,hck8⟩:=RV.el2 bE hx2
   obtain ⟨v17,k8,rfl,q5,hd1⟩:=cQ bE hd
   obtain rfl:=gi bE hd1
   refine .ts' 7 z (λW t=>ixv (s.keep bE) hx2 u36 t78 z z z) t z (.ts' 8 z (λW t=>lde (hck8 _ t.agree) t78 z z z z z) t z ?_)
   obtain ⟨k9,s⟩:=Sep.ov s hx1
   have s:=s.oa
   obtain ⟨v18,k9,rfl,s⟩:=s.ow
   obtain ⟨k9,rfl,s⟩:=Sep.oF z s
   obtain ⟨rfl,s⟩:=s.oN
   have s:=s.p4.p4.p4.p4.p4
   refine .by1 12 z (.cS (L0:=[ae (sv v18) 3 1 (D.int .i64) x1.Regs,cB (sv aL) 60 2 aW a1.Threads (Int.toNat a0) [sv v18,vi x1.Pc],ae (sv aI) 95 2 bp a1.Boxes,ae (sv bZ) 3 1 (D.int .i64) a1.Out,.box g_1 42 [sv bX,sv aL,sv aI,vi a1.Turn,vi a1.Idle,sv bZ]]) s func108 (λS h1 h2 h3=>(dz hy1 (s.ks (q5 _ bE) h1) h2 (zz h1))) z z ?_)
   rintro ⟨v19,v20⟩ W s
   refine s.an [] λt=>.tp' 13 z z t (.done ?_)
   have s:=Sep.gat (ds:=[aW (bn.mk y1.2.1 y1.2.2.1)]) (cs:=[sv v19,vi y1.2.2.1]) (L1:=[ae (sv v19) 3 1 (D.int .i64) y1.2.1]) (.agg (.row (.flat (c1:=[vi y1.2.2.1]) z .nil))) (s.to [3,0,0,0,0])
   have s:Sep _ _ _ [ae (sv aL) 60 2 aW (a1.Threads.set (Int.toNat a0) (bn.mk y1.2.1 y1.2.2.1)),ae (sv aI) 95 2 bp y1.2.2.2.2,.box g_1 42 [sv bX,sv aL,sv aI,vi a1.Turn,vi a1.Idle,sv v20],ae (sv v20) 3 1 (D.int .i64) y1.2.2.2.1]:=s.bv
   exact ⟨z,v20,sb z,s.to [0,0,0,0]⟩
  refine (.runs (ld t36 s.p3 z z z z z) z z ?_)
  refine s.an [] λt=>?_
  obtain ⟨k10,hd,hck10⟩:=RV.el2 bE hx2
  obtain ⟨v21,k10,rfl,q6,hd1⟩:=cQ bE hd
  obtain rfl:=gi bE hd1
  refine .ts' 7 z (λW t=>ixv (s.keep bE) hx2 u36 t78 z z z) t z (.ts' 8 z (λW t=>lde (hck10 _ t.agree) t78 z z z z z) t z (.by1 1 z (.runs (ld t39 s.p3 z z z z z) z z ?_)))
  refine s.an [] λt=>.ts' 3 z (λW t=>ixv s.lv hx1 u39 t60 z z z) t z ?_
  obtain ⟨k11,s⟩:=Sep.ov s hx1
  have s:=s.oa
  obtain ⟨v22,k11,rfl,s⟩:=s.ow
  obtain ⟨k11,rfl,s⟩:=Sep.oF z s
  obtain ⟨rfl,s⟩:=s.oN
  have s:=s.p4.p4.p4.p4.p4
  refine .by1 12 z (.cS (L0:=[ae (sv v22) 3 1 (D.int .i64) x1.Regs,cB (sv aL) 60 2 aW a1.Threads (Int.toNat a0) [sv v22,vi x1.Pc],ae (sv aI) 95 2 bp a1.Boxes,ae (sv bZ) 3 1 (D.int .i64) a1.Out,.box g_1 42 [sv bX,sv aL,sv aI,vi a1.Turn,vi a1.Idle,sv bZ]]) s func108 (λS h1 h2 h3=>(dz hy1 (s.ks (q6 _ bE) h1) h2 (zz h1))) z z ?_)
  rintro ⟨v23,v24⟩ W s
  refine s.an [] λt=>.tp' 13 z z t (.done ?_)
  have s:=Sep.gat (ds:=[aW (bn.mk y1.2.1 y1.2.2.1)]) (cs:=[sv v23,vi y1.2.2.1]) (L1:=[ae (sv v23) 3 1 (D.int .i64) y1.2.1]) (.agg (.row (.flat (c1:=[vi y1.2.2.1]) z .nil))) (s.to [3,0,0,0,0])
  have s:Sep _ _ _ [ae (sv aL) 60 2 aW (a1.Threads.set (Int.toNat a0) (bn.mk y1.2.1 y1.2.2.1)),ae (sv aI) 95 2 bp y1.2.2.2.2,.box g_1 42 [sv bX,sv aL,sv aI,vi a1.Turn,vi a1.Idle,sv v24],ae (sv v24) 3 1 (D.int .i64) y1.2.2.2.1]:=s.bv
  exact ⟨z,v24,sb z,s.to [0,0,0,0]⟩
 intro x E W hJ
 obtain ⟨rfl,v25,hE,s⟩:=hJ
 refine ⟨_,hE.sub,?_⟩
 cases h
 exact .ret (ac (aL,aI,v25) (rt z rn) z (s.to [2,0,0,0]))
def ro (w:World) (S:Nat->Prop) (jQ:Hd) (mY:Hd) (gZ:Hd) (lU:Hd) (g_4:Nat) (a0:Int) (a1:Int) (a2:Int) (a3:Int) (a4:cD) (r:Int×Int×Bool×(List bn)×(List Box)×(List Int)):Env->World->Prop:=Fin Tryz.prog Tryz.f102 S w (λs:Hd×Hd×Hd=>.tuple #[vi r.1,vi r.2.1,.bool r.2.2.1]) (λs=>[.box g_4 42 [sv jQ,(sv s.1),(sv s.2.1),vi a4.Turn,vi a4.Idle,(sv s.2.2)],ae (sv s.1) 60 2 aW r.2.2.2.1,ae (sv s.2.1) 95 2 bp r.2.2.2.2.1,ae (sv s.2.2) 3 1 (D.int .i64) r.2.2.2.2.2]) .ret
theorem qF {a0:Int} {a1:Int} {a2:Int} {a3:Int} {a4:cD} {jQ:Hd} {mY:Hd} {gZ:Hd} {lU:Hd} {g_4:Nat} {S:Nat->Prop} {w:World} {r:Int×Int×Bool×(List bn)×(List Box)×(List Int)} (h:iP a0 a1 a2 a3 a4=some r) (Ba:RV w (Old S w) (sv jQ) 78 1 (λ(l:List ah)=>D.row 102 5 (l.map ay)) a4.Codes) (hO:bS w [ae (sv mY) 60 2 aW a4.Threads,ae (sv gZ) 95 2 bp a4.Boxes,ae (sv lU) 3 1 (D.int .i64) a4.Out,.box g_4 42 [sv jQ,sv mY,sv gZ,vi a4.Turn,vi a4.Idle,sv lU]] S) (hlt:∀ b,S b->b<w.heap.size):CL 102 #[vi a0,vi a1,vi a2,vi a3,.func (.func 107) #[] #[Pt g_4]] w (Ret S w (λs:Hd×Hd×Hd=>.tuple #[vi r.1,vi r.2.1,.bool r.2.2.1]) (λs=>[.box g_4 42 [sv jQ,(sv s.1),(sv s.2.1),vi a4.Turn,vi a4.Idle,(sv s.2.2)],ae (sv s.1) 60 2 aW r.2.2.2.1,ae (sv s.2.1) 95 2 bp r.2.2.2.2.1,ae (sv s.2.2) 3 1 (D.int .i64) r.2.2.2.2.2])):=by
 unfold iP at h
 refine ar func102 z z ?_
 have s:=Sep.sm hO hlt
 refine .g (.q z (.q z (.qn z (.seq (.block (bv h λy1 hy1 h=>?_))))))
 refine .via (.iter (λs1 E' W'=>∃ (v7:Hd) (v8:Hd) (v9:Hd),aB E' [(0,vi s1.1),(1,vi a1),(2,vi s1.2.1),(3,vi s1.2.2.1),(4,.func (.func 107) #[] #[Pt g_4])]/\Sep S w W' [.box g_4 42 [sv jQ,sv v7,sv v8,vi a4.Turn,vi a4.Idle,sv v9],ae (sv v7) 60 2 aW s1.2.2.2.1,ae (sv v8) 95 2 bp s1.2.2.2.2.1,ae (sv v9) 3 1 (D.int .i64) s1.2.2.2.2.2]) (λy2 x E' W'=>(match y2 with | .inl o1=>x=.ret/\ro w S jQ mY gZ lU g_4 a0 a1 a2 a3 a4 o1 E' W' | .inr o2=>x=.exit 0/\∃ (v10:Hd) (v11:Hd) (v12:Hd),aB E' [(2,vi o2.1),(3,vi o2.2.1)]/\Sep S w W' [.box g_4 42 [sv jQ,sv v10,sv v11,vi a4.Turn,vi a4.Idle,sv v12],ae (sv v10) 60 2 aW o2.2.2.1,ae (sv v11) 95 2 bp o2.2.2.2.1,ae (sv v12) 3 1 (D.int .i64) o2.2.2.2.2])) hy1 ⟨mY,gZ,lU,sb rfl,s.to [3,0,0,0] rfl⟩ ?_) ?_
 ·intro s1 y3 E W h hI
  obtain ⟨v4,v5,v6,hE,s⟩:=hI
  refine CW.sub hE ?_
  unfold cH at h
  refine .seq (.g (.q z (.q z (.q z (.cu 4 22 ((decide (s1.1>0))&&(decide (s1.2.2.1<a1))) s ?_ ?_)))))
  ·refine .both (decide (s1.1>0)) (λb=>?_) (λb=>?_)
   ·have hg1:=b
    exact .g hg1 (.q z (.g hg1 (.q z (.g hg1 (.q z (.s (pkt hg1 z z z) z (.nil (ck 4 s z (bf hg1)))))))))
   exact .xx b z (.xx b z (.xx b z (.s (pkf b z z z) z (.nil (ck 4 s z (bg b))))))
  intro W s
  refine .nil (.cond z (λb=>?_) (λb=>?_))
  ·have h:=aJ b h
   refine .skip (.seq (.block (.g (.q z (.q z (.q z (.q z (.q z (bv h λy4 hy4 h=>?_)))))))))
   have s:=s.p3.p3.p3
   refine .c (.callC (L0:=[ae (sv v4) 60 2 aW s1.2.2.2.1,ae (sv v5) 95 2 bp s1.2.2.2.2.1,ae (sv v6) 3 1 (D.int .i64) s1.2.2.2.2.2,.box g_4 42 [sv jQ,sv v4,sv v5,vi a4.Turn,vi a4.Idle,sv v6]]) (vs:=[vi s1.2.1]) (cap:=[Pt g_4]) s func107 (λS h1 h2 h3=>(sY hy4 (s.ks Ba h1) h2 (zz h1))) z z z ?_)
   rintro ⟨v13,v14,v15⟩ W s
   refine bv h λy5 hy5 h=>.c (.cO s func153 (pi hy5) z z ?_)
   intro W s
   refine .q z (.q z (.q z (.q z (.q z (.q z (.qn z (.seq (.g (.q z (.q z (.nil ?_)))))))))))
   refine .cs z h ?_ ?_ <;> intro h
   ·refine .g (.q z (.q z (.qn z (.ret ?_))))
    cases h
    exact ⟨by simp,z,ac (vs:=[_,_,_]) (v13,v14,v15) (rt z (rt z (rt z rn))) z (s.to [0,0,0,0])⟩
   refine .skip (.region (.q z (.q z (.q z (.qn z (.region (.q z (.q z (.q z (.nil ?_))))))))))
   cases h
   exact ⟨z,v13,v14,v15,sb z,s.to [0,0,0,0]⟩
  have h:=aK b h
  refine .exit ?_
  cases h
  exact ⟨by simp,z,v4,v5,v6,sb z,s.to [0,0,0,0]⟩
 intro x E W hJ
 rcases y1 with o3 | o4
 ·obtain ⟨rfl,hF⟩:=hJ
  refine ⟨_,λ_ _ h=>h,?_⟩
  cases h
  exact hF
 obtain ⟨rfl,v16,v17,v18,hE,s⟩:=hJ
 refine ⟨_,hE.sub,?_⟩
 cases h
 exact .g (.q z (.q z (.q z (.q z (.qn z (.ret (ac (vs:=[_,_,_]) (v16,v17,v18) (rt z (rt z (rt z rn))) z (s.to [0,0,0,0]))))))))
theorem vk {a0:cD} {a1:Int} {ba:Hd} {aQ:Hd} {aM:Hd} {be:Hd} {w:World} {r:cD×Bool} (h:lG a0 a1=some r) (a9:RO w ba 78 1 (λ(l:List ah)=>D.row 102 5 (l.map ay)) a0.Codes) (az:RO w aQ 60 2 aW a0.Threads) (cg:RO w aM 95 2 bp a0.Boxes) (cW:RO w be 3 1 (D.int .i64) a0.Out):CL 60 #[.agg #[sv ba,sv aQ,sv aM,vi a0.Turn,vi a0.Idle,sv be],vi a1] w (Ret No w (λs:Hd×Hd×Hd×Hd=>.tuple #[.agg #[(sv s.1),(sv s.2.1),(sv s.2.2.1),vi r.1.Turn,vi r.1.Idle,(sv s.2.2.2)],.bool r.2]) (λs=>[ae (sv s.1) 78 1 (λ(l:List ah)=>D.row 102 5 (l.map ay)) r.1.Codes,ae (sv s.2.1) 60 2 aW r.1.Threads,ae (sv s.2.2.1) 95 2 bp r.1.Boxes,ae (sv s.2.2.2) 3 1 (D.int .i64) r.1.Out])):=by
 unfold lG at h
 refine ar func60 z z ?_
 have s:=Sep.start w
 refine .g (.c (.box s z z ?_))
 intro g1 W s
 refine .c (.alloc t42 s ?_)
 intro g2 W s
 refine .qn z (.seq (.g (.s (ld t42 s.p1 z z z z z) z (bv h λy1 hy1 h=>.c (.cO s func43 (lS hy1 (s.keep a9) (s.keep az) (s.keep cg) (s.keep cW)) z z ?_)))))
 intro W s
 refine .q z (.q z (.cu 3 15 ((!y1)||(decide (a1<0))) s ?_ ?_))
 ·refine .both (!y1) (λb=>?_) (λb=>?_)
  ·exact .xx b z (.xx b z (.s (pkt b z z z) z (.nil (ck 3 s z (fk b)))))
  have hg1:=b
  exact .g hg1 (.q z (.g hg1 (.q z (.s (pkf hg1 z z z) z (.nil (ck 3 s z (fp hg1)))))))
 intro W s
 refine .q z (.cu 3 19 (((!y1)||(decide (a1<0)))||(decide (a1>100000))) s ?_ ?_)
 ·refine .both ((!y1)||(decide (a1<0))) (λb=>?_) (λb=>?_)
  ·exact .xx b z (.xx b z (.s (pkt b z z z) z (.nil (ck 3 s z (fk b)))))
  have hg2:=b
  exact .g hg2 (.q z (.g hg2 (.q z (.s (pkf hg2 z z z) z (.nil (ck 3 s z (fp hg2)))))))
 intro W s
 refine .nil (.cond z (λb=>?_) (λb=>?_))
 ·have h:=aJ b h
  refine .g (.s (bs T.s42 z z) z (.c (.st t42 s z z z ?_)))
  intro W s
  refine .qn z (.ret ?_)
  have s:=s.nilv 78 1 (λ(l:List ah)=>D.row 102 5 (l.map ay))
  have s:=s.nilv 60 2 aW
  have s:=s.nilv 95 2 bp
  have s:=s.nilv 3 1 (D.int .i64)
  cases h
  exact ac (vs:=[_,_]) (aw,aw,aw,aw) (rc s.p4 t42 z (rt z rn) z z) z (s.to [3,2,1,0])
 have h:=aK b h
 refine .skip (.seq (bv h λy2 hy2 h=>bv h λy3 hy3 h=>bv h λy4 hy4 h=>?_))
 refine .via (R':=λx E' W'=>x=.normal/\∃ (g3:Nat) (v1:Hd) (v2:Hd) (v3:Hd) (v4:Hd),aB E' [(1,vi a1),(2,Pt g1),(4,Pt g2),(6,Pt g3)]/\Sep No w W' [.box g2 42 [sv aw,sv aw,sv aw,vi 0,vi 0,sv aw],.box g1 42 [sv ba,sv aQ,sv aM,vi a0.Turn,vi a0.Idle,sv be],.box g3 42 [sv v1,sv v2,sv v3,vi 0,vi 0,sv v4],ae (sv v1) 78 1 (λ(l:List ah)=>D.row 102 5 (l.map ay)) y2,ae (sv v2) 60 2 aW [],ae (sv v3) 95 2 bp y3,ae (sv v4) 3 1 (D.int .i64) y4]) ?_ ?_
 ·refine .rk 11 s [0,0] T.mix ?_
  intro W s
  have t:=s.to [0,0]
  refine .ts' 0 z (λW t=>fa f42_0 z z z) t z (.ts' 1 z (λW t=>ld t36 t.p1 z z z z z) t z (.ts' 3 z (λW t=>fa f42_2 z z z) t z (.ts' 4 z (λW t=>ld t40 t.p1 z z z z z) t z (.ts' 6 z (λW t=>fa f42_5 z z z) t z (.ts' 7 z (λW t=>ld t23 t.p1 z z z z z) t z (.by [2,10] ⟨⟨_,z,?_⟩,⟨_,z,?_⟩,trivial⟩))))))
  ·refine (.cV s func41 (lR hy2 (s.keep a9)) z z ?_)
   intro v5 W s
   refine s.an [1,1] λt=>.by [5,10] ⟨⟨_,z,?_⟩,⟨_,z,?_⟩,trivial⟩
   ·refine (.cV s func101 (gg hy3 (s.keep cg)) z z ?_)
    intro v6 W s
    refine s.an [2,2] λt=>.by [8,10] ⟨⟨_,z,?_⟩,⟨_,z,?_⟩,trivial⟩
    ·refine (.cV s func58 (aV hy4 (s.keep cW)) z z ?_)
     intro v7 W s
     refine s.an [3,3] λt=>.ts' 9 z (λW t=>bs T.s42 z z) t z (.by1 10 z (.alloc t42 s ?_))
     intro g4 W s
     refine s.an [4,4] λt=>.by1 11 z (.st t42 s z z z ?_)
     intro W s
     refine ⟨λh=>absurd z h,?_⟩
     refine .done ?_
     have s:=s.nilv 60 2 aW
     exact ⟨z,g4,v5,aw,v6,v7,sb z,s.tk [5,5,1,3,0,1,0]⟩
    refine (.alloc t42 s ?_)
    intro g5 W s
    refine s.an [3,3] λt=>.by1 8 z (.cV s func58 (aV hy4 (s.keep cW)) z z ?_)
    intro v8 W s
    refine s.an [4,4] λt=>.ts' 9 z (λW t=>bs T.s42 z z) t z (.by1 11 z (.st t42 s.p1 z z z ?_))
    intro W s
    refine ⟨λh=>absurd z h,?_⟩
    refine .done ?_
    have s:=s.nilv 60 2 aW
    exact ⟨z,g5,v5,aw,v6,v8,sb z,s.tk [5,5,1,3,0,1,0]⟩
   refine (.alloc t42 s ?_)
   intro g6 W s
   refine s.an [2,2] λt=>.by1 5 z (.cV s func101 (gg hy3 (s.keep cg)) z z ?_)
   intro v9 W s
   refine s.an [3,3] λt=>.by1 8 z (.cV s func58 (aV hy4 (s.keep cW)) z z ?_)
   intro v10 W s
   refine s.an [4,4] λt=>.ts' 9 z (λW t=>bs T.s42 z z) t z (.by1 11 z (.st t42 s.p2 z z z ?_))
   intro W s
   refine ⟨λh=>absurd z h,?_⟩
   refine .done ?_
   have s:=s.nilv 60 2 aW
   exact ⟨z,g6,v5,aw,v9,v10,sb z,s.tk [5,5,1,3,0,1,0]⟩
  refine (.alloc t42 s ?_)
  intro g7 W s
  refine s.an [1,1] λt=>.by1 2 z (.cV s func41 (lR hy2 (s.keep a9)) z z ?_)
  intro v11 W s
  refine s.an [2,2] λt=>.by1 5 z (.cV s func101 (gg hy3 (s.keep cg)) z z ?_)
  intro v12 W s
  refine s.an [3,3] λt=>.by1 8 z (.cV s func58 (aV hy4 (s.keep cW)) z z ?_)
  intro v13 W s
  refine s.an [4,4] λt=>.ts' 9 z (λW t=>bs T.s42 z z) t z (.by1 11 z (.st t42 s.p3 z z z ?_))
  intro W s
  refine ⟨λh=>absurd z h,?_⟩
  refine .done ?_
  have s:=s.nilv 60 2 aW
  exact ⟨z,g7,v11,aw,v12,v13,sb z,s.tk [5,5,1,3,0,1,0]⟩
 intro x E W hJ
 obtain ⟨rfl,g8,v14,v15,v16,v17,hE,s⟩:=hJ
 refine ⟨_,hE.sub,?_⟩
 refine .seq (.g (.s (fa f42_1 z z z) z (.s (ld t39 s.p1 z z z z z) z (.s (aZ (s.keep az) u39 z z) z (.qn z (.block (bv h λy5 hy5 h=>?_)))))))
 refine .via (.iter (λs1 E' W'=>∃ (v20:Hd),aB E' [(1,vi a1),(2,Pt g1),(4,Pt g2),(6,Pt g8),(32,(sv aQ)),(33,vi (a0.Threads.length:Int)),(34,vi s1.1)]/\Sep No w W' [.box g2 42 [sv aw,sv aw,sv aw,vi 0,vi 0,sv aw],.box g1 42 [sv ba,sv aQ,sv aM,vi a0.Turn,vi a0.Idle,sv be],.box g8 42 [sv v14,sv v20,sv v16,vi 0,vi 0,sv v17],ae (sv v14) 78 1 (λ(l:List ah)=>D.row 102 5 (l.map ay)) y2,ae (sv v16) 95 2 bp y3,ae (sv v17) 3 1 (D.int .i64) y4,ae (sv v20) 60 2 aW s1.2]) (λy6 x E' W'=>x=.exit 0/\∃ (v21:Hd),aB E' [(1,vi a1),(2,Pt g1),(4,Pt g2),(6,Pt g8)]/\Sep No w W' [.box g2 42 [sv aw,sv aw,sv aw,vi 0,vi 0,sv aw],.box g1 42 [sv ba,sv aQ,sv aM,vi a0.Turn,vi a0.Idle,sv be],.box g8 42 [sv v14,sv v21,sv v16,vi 0,vi 0,sv v17],ae (sv v14) 78 1 (λ(l:List ah)=>D.row 102 5 (l.map ay)) y2,ae (sv v16) 95 2 bp y3,ae (sv v17) 3 1 (D.int .i64) y4,ae (sv v21) 60 2 aW y6]) hy5 ⟨v15,sb z,s.tk [0,0,0,0,1,1,0]⟩ ?_) ?_
 ·intro s1 y7 E W h hI
  obtain ⟨v19,hE,s⟩:=hI
  refine CW.sub hE ?_
  unfold fJ at h
  refine .g (.qn z (.seq ?_))
  refine .cs z h ?_ ?_ <;> intro h
  ·refine .skip (.seq (.block (.g (bv h λx1 hx1 h=>?_))))
   obtain ⟨k1,hd,hck1⟩:=RV.el2 az hx1
   have hd1:=pV hd
   obtain ⟨v22,k1,rfl,q15,hd2⟩:=cQ az hd1
   obtain ⟨k1,rfl,hd3⟩:=dA az z hd2
   obtain rfl:=gi az hd3
   refine .s (ixv (s.keep az) hx1 u39 t60 z z z) z (.s (lde (hck1 _ s.agree) t60 z z z z z) z (.c (.alloc t60 s ?_)))
   intro g9 W s
   refine .c (.st t60 s z z z ?_)
   intro W s
   refine .nil (.rk 11 s [0,0,0,0,0,0,0] T.mix ?_)
   intro W s
   have t:=s.to [0,0,0,0,0,0,0]
   refine .ts' 0 z (λW t=>fa f42_1 z z z) t z (.ts' 1 z (λW t=>ld t39 t.p3 z z z z z) t z (.ts' 2 z (λW t=>fa f60_0 z z z) t z (.ts' 3 z (λW t=>ld t23 t z z z z z) t z (.ts' 5 z (λW t=>fa f60_1 z z z) t z (.ts' 6 z (λW t=>ld T.t3 t z z z z z) t z (bv h λy8 hy8 h=>.by1 4 z (.cV s func58 (aV hy8 (s.keep (q15 _ az))) z z ?_)))))))
   intro v23 W s
   refine s.an [1,1,1,1,1,1,1] λt=>.ts' 7 z (λW t=>bs T.s60 z z) t z (.by1 8 z (.lg (L1:=[ae (sv v23) 3 1 (D.int .i64) y8]) [(bn.mk y8 x1.Pc)] aW u39 t60 (s.to [0,0,0,0,0,0,0,0,0]) z z z (.agg (.row (.flat (c1:=[vi x1.Pc]) z .nil))) ?_ z (λ_=>z)))
   intro v24 W s
   refine s.an [1,1,1,1,1,1,1] λt=>bv h λr1 hr1 h=>.by1 9 z (.appv hr1 (s.to [8,0,0,0,0,0,0,0,0]) u39 t60 z z z ?_)
   intro v25 W s
   refine s.an [1,1,1,1,1,1,1] λt=>.ts' 10 z (λW t=>fa f42_1 z z z) t z (.by1 11 z (.st t39 s.p4 z z z ?_))
   intro W s
   refine ⟨λh=>absurd z h,?_⟩
   refine .done (.region (.q z (.q z (.nil ?_))))
   cases h
   exact ⟨z,v25,sb z,s.tk [3,3,0,2,2,2,0]⟩
  refine .exit ?_
  cases h
  exact ⟨by simp,z,v19,sb z,s.tk [0,0,0,0,0,0,0]⟩
 intro x E W hJ
 obtain ⟨rfl,v26,hE,s⟩:=hJ
 refine ⟨_,hE.sub,?_⟩
 refine .g (.q z (.s (fa f42_1 z z z) z (.s (ld t39 s.p2 z z z z z) z (.s (aZ s.p6.lv u39 z z) z (.s (fa f42_3 z z z) z (.s (ld T.t3 s.p1 z z z z z) z (.s (fa f42_4 z z z) z (.s (ld T.t3 s.p1 z z z z z) z (.s (mf z z) z (bv h λy9 hy9 h=>?_))))))))))
 have s:=s.p2.p5.p5.p6
 refine .c (.cS (L0:=[ae (sv v26) 60 2 aW y5,ae (sv v16) 95 2 bp y3,ae (sv v17) 3 1 (D.int .i64) y4,.box g8 42 [sv v14,sv v26,sv v16,vi 0,vi 0,sv v17]]) s func102 (λS h1 h2 h3=>(qF hy9 (h3.rdv (k:=2) z) h2 (zz h1))) z z ?_)
 rintro ⟨v27,v28,v29⟩ W s
 refine .q z (.q z (.q z (.q z (.s (fa f42_3 z z z) z (.c (.st T.t3 s z z z ?_))))))
 intro W s
 refine .s (fa f42_4 z z z) z (.c (.st T.t3 s z z z ?_))
 intro W s
 refine .nil (.g (.s (ld t42 s z z z z z) z (.c (.st t42 s.p4 z z z ?_))))
 intro W s
 cases h
 exact .qn z (.ret (ac (vs:=[_,_]) (v14,v27,v28,v29) (rc s t42 z (rt z rn) z z) z (s.to [6,2,2,2])))
theorem wS {a0:List Int} {a1:List (List ah)} {a2:Int} {v_0:Hd} {v_1:Hd} {w:World} {r:cD} (h:mV a0 a1 a2=some r) (q_0:RO w v_0 3 1 (D.int .i64) a0) (q_1:RO w v_1 78 1 (λ(l:List ah)=>D.row 102 5 (l.map ay)) a1):CL 25 #[sv v_0,sv v_1,vi a2] w (Ret No w (λs:Hd×Hd×Hd×Hd=>.agg #[(sv s.1),(sv s.2.1),(sv s.2.2.1),vi r.Turn,vi r.Idle,(sv s.2.2.2)]) (λs=>[ae (sv s.1) 78 1 (λ(l:List ah)=>D.row 102 5 (l.map ay)) r.Codes,ae (sv s.2.1) 60 2 aW r.Threads,ae (sv s.2.2.1) 95 2 bp r.Boxes,ae (sv s.2.2.2) 3 1 (D.int .i64) r.Out])):=by
 unfold mV at h
 refine ar func25 z z ?_
 have s:=Sep.start w
 refine .g (.c (.alloc t42 s ?_))
 intro g1 W s
 refine .nil (.g (.q z (.q z (bv h λy1 hy1 h=>.c (.call s func17 (pU hy1 (s.keep q_0) (s.keep q_1)) z z ?_)))))
 rintro ⟨v1,v2,v3,v4⟩ W s
 refine .q z (.q z (.q z (.c (.alloc t42 s ?_))))
 intro g2 W s
 refine .c (.st t42 s z z z ?_)
 intro W s
 refine .qn z (.g (.s (ld t42 s z z z z z) z (.q z (bv h λy2 hy2 h=>.c (.call s func60 (vk hy2 s.p1.lv s.p2.lv s.p3.lv s.p4.lv) z z ?_)))))
 rintro ⟨v5,v6,v7,v8⟩ W s
 refine .q z (.q z (.q z (.c (.alloc t42 s ?_))))
 intro g3 W s
 refine .c (.st t42 s z z z ?_)
 intro W s
 refine .qn z (.seq (.g (.q z (.q z (.q z (.cu 3 28 ((!y1.2)||(!y2.2)) s ?_ ?_))))))
 ·refine .both (!y1.2) (λb=>?_) (λb=>?_)
  ·exact .xx b z (.xx b z (.s (pkt b z z z) z (.nil (ck 3 s z (fk b)))))
  have hg1:=b
  exact .g hg1 (.q z (.g hg1 (.q z (.s (pkf hg1 z z z) z (.nil (ck 3 s z (fp hg1)))))))
 intro W s
 refine .nil ?_
 refine .cs z h ?_ ?_ <;> intro h
 ·refine .g (.s (bs T.s42 z z) z (.c (.st t42 s.p10 z z z ?_)))
  intro W s
  refine .nil (.ret ?_)
  have s:=s.nilv 78 1 (λ(l:List ah)=>D.row 102 5 (l.map ay))
  have s:=s.nilv 60 2 aW
  have s:=s.nilv 95 2 bp
  have s:=s.nilv 3 1 (D.int .i64)
  cases h
  exact ac (aw,aw,aw,aw) (rc s.p4 t42 z rn z z) z (s.to [3,2,1,0])
 refine .skip (.g (.s (ld t42 s z z z z z) z (.c (.st t42 s.p10 z z z ?_))))
 intro W s
 cases h
 exact .nil (.ret (ac (v5,v6,v7,v8) (rc s t42 z rn z z) z (s.to [2,2,2,2])))
end
noncomputable section
theorem rp {a0:cD} {ba:Hd} {aQ:Hd} {aM:Hd} {be:Hd} {w:World} {r:dB} (h:gN a0=some r) (a9:RO w ba 78 1 (λ(l:List ah)=>D.row 102 5 (l.map ay)) a0.Codes) (az:RO w aQ 60 2 aW a0.Threads) (cg:RO w aM 95 2 bp a0.Boxes) (cW:RO w be 3 1 (D.int .i64) a0.Out):CL 26 #[.agg #[sv ba,sv aQ,sv aM,vi a0.Turn,vi a0.Idle,sv be]] w (Ret No w (λs:Hd×Hd×Hd=>.agg #[(sv s.1),(sv s.2.1),(sv s.2.2),.bool r.Rest]) (λs=>[ae (sv s.1) 3 1 (D.int .i64) r.Out,ae (sv s.2.1) 23 1 (λ(l:List Int)=>D.row 3 1 (l.map (D.int .i64))) r.Items,ae (sv s.2.2) 4 1 D.bool r.Ended])):=by
 unfold gN at h
 refine ar func26 z z ?_
 have s:=Sep.start w
 refine .g (.c (.box s z z ?_))
 intro g1 W s
 refine .c (.alloc t50 s ?_)
 intro g2 W s
 refine .nil (.seq (.g (.s (ld t42 s.p1 z z z z z) z (bv h λy1 hy1 h=>.c (.cO s func43 (lS hy1 (s.keep a9) (s.keep az) (s.keep cg) (s.keep cW)) z z ?_)))))
 intro W s
 refine .q z (.nil ?_)
 refine .cs z h ?_ ?_ <;> intro h
 ·refine .g (.s (bs T.s50 z z) z (.c (.st t50 s z z z ?_)))
  intro W s
  refine .nil (.ret ?_)
  have s:=s.nilv 3 1 (D.int .i64)
  have s:=s.nilv 23 1 (λ(l:List Int)=>D.row 3 1 (l.map (D.int .i64)))
  have s:=s.nilv 4 1 D.bool
  cases h
  exact ac (aw,aw,aw) (rc s.p3 t50 z rn z z) z (s.to [2,1,0])
 refine .skip (.g (.s (fa f42_5 z z z) z (.s (ld t23 s.p1 z z z z z) z (.s (fa f42_2 z z z) z (.s (ld t40 s.p1 z z z z z) z (.s (fa f42_4 z z z) z (.s (ld T.t3 s.p1 z z z z z) z (.s (fa f42_1 z z z) z (.s (ld t39 s.p1 z z z z z) z (.s (aZ (s.keep az) u39 z z) z (.q z (bv h λy2 hy2 h=>.c (.call s func51 (oA hy2 (s.keep cW) (s.keep cg)) z z ?_)))))))))))))
 rintro ⟨v1,v2,v3⟩ W s
 refine .c (.alloc t50 s ?_)
 intro g3 W s
 refine .c (.st t50 s z z z ?_)
 intro W s
 refine .nil (.seq (.g (.s (fa f42_1 z z z) z (.s (ld t39 s.p5 z z z z z) z (.s (aZ (s.keep az) u39 z z) z (.qn z (.block (bv h λy3 hy3 h=>?_))))))))
 refine .via (.iter (λs1 E' W'=>∃ (v6:Hd),aB E' [(1,Pt g1),(2,Pt g2),(3,Pt g3),(22,(sv aQ)),(23,vi (a0.Threads.length:Int)),(24,vi s1.1)]/\Sep No w W' [.box g3 50 [sv v1,sv v2,sv v6,.bool y2.Rest],ae (sv v1) 3 1 (D.int .i64) y2.Out,ae (sv v2) 23 1 (λ(l:List Int)=>D.row 3 1 (l.map (D.int .i64))) y2.Items,.box g2 50 [sv aw,sv aw,sv aw,.bool false],.box g1 42 [sv ba,sv aQ,sv aM,vi a0.Turn,vi a0.Idle,sv be],ae (sv v6) 4 1 D.bool s1.2]) (λy4 x E' W'=>x=.exit 0/\∃ (v7:Hd),aB E' [(2,Pt g2),(3,Pt g3)]/\Sep No w W' [.box g3 50 [sv v1,sv v2,sv v7,.bool y2.Rest],ae (sv v1) 3 1 (D.int .i64) y2.Out,ae (sv v2) 23 1 (λ(l:List Int)=>D.row 3 1 (l.map (D.int .i64))) y2.Items,.box g2 50 [sv aw,sv aw,sv aw,.bool false],.box g1 42 [sv ba,sv aQ,sv aM,vi a0.Turn,vi a0.Idle,sv be],ae (sv v7) 4 1 D.bool y4]) hy3 ⟨v3,sb z,s.to [0,0,0,1,1,0]⟩ ?_) ?_
 ·intro s1 y5 E W h hI
  obtain ⟨v5,hE,s⟩:=hI
  refine CW.sub hE ?_
  unfold eP at h
  refine .g (.qn z (.seq ?_))
  refine .cs z h ?_ ?_ <;> intro h
  ·refine .skip (.seq (.block (.g (.q z (bv h λx1 hx1 h=>?_)))))
   obtain ⟨k1,hd,hck1⟩:=RV.el2 az hx1
   have hd1:=pV hd
   obtain ⟨v8,k1,rfl,q5,hd2⟩:=cQ az hd1
   obtain ⟨k1,rfl,hd3⟩:=dA az z hd2
   obtain rfl:=gi az hd3
   refine .s (ixv (s.keep az) hx1 u39 t60 z z z) z (.s (lde (hck1 _ s.agree) t60 z z z z z) z (.c (.alloc t60 s ?_)))
   intro g4 W s
   refine .q z (.c (.st t60 s z z z ?_))
   intro W s
   refine .nil (.rk 16 s [0,0,0,0,0,0] T.mix ?_)
   intro W s
   have t:=s.to [0,0,0,0,0,0]
   refine .ts' 0 z (λW t=>fa f50_2 z z z) t z (.ts' 1 z (λW t=>ld t48 t.p1 z z z z z) t z (.ts' 2 z (λW t=>fa f42_0 z z z) t z (.ts' 3 z (λW t=>ld t36 t.p5 z z z z z) t z (.tp' 4 z z t (bv h λx2 hx2 h=>?_)))))
   obtain ⟨k2,hd,hck2⟩:=RV.el2 a9 hx2
   obtain ⟨v9,k2,rfl,q6,hd1⟩:=cQ a9 hd
   obtain rfl:=gi a9 hd1
   refine .ts' 5 z (λW t=>ixv (s.keep a9) hx2 u36 t78 z z z) t z (.ts' 6 z (λW t=>lde (hck2 _ t.agree) t78 z z z z z) t z (.ts' 7 z (λW t=>fa f60_1 z z z) t z (.ts' 8 z (λW t=>ld T.t3 t z z z z z) t z (bv h λx3 hx3 h=>.ts' 9 z (λW t=>ixv (s.keep (q6 _ a9)) hx3 u78 t102 z z z) t z (.ts' 10 z (λW t=>fe f102_0 z z z) t z (.ts' 11 z (λW t=>lde (RV.flat (t.keep (q6 _ a9)) hx3 z) T.t3 z z z z z) t z (.tp' 12 z z t (.by1 13 z (.liv [x3.Op==10] D.bool u48 t4 s z z z z ?_ z (λ_=>z))))))))))
   intro v10 W s
   refine s.an [1,1,1,1,1,1] λt=>bv h λr1 hr1 h=>?_
   have hT0:=s.p7
   refine .by1 14 z (.av hr1 hT0 hT0.p1.lv (λ_=>z) u48 t4 z z z ?_)
   intro v11 W s
   refine s.an [2,2,2,2,2,2] λt=>.ts' 15 z (λW t=>fa f50_2 z z z) t z (.by1 16 z (.st t48 s.p3 z z z ?_))
   intro W s
   refine ⟨λh=>absurd z h,?_⟩
   refine .done (.region (.q z (.q z (.nil ?_))))
   cases h
   exact ⟨z,v11,sb z,s.to [0,3,3,3,3,0]⟩
  refine .exit ?_
  cases h
  exact ⟨by simp,z,v5,sb z,s.to [0,0,0,0,0,0]⟩
 intro x E W hJ
 obtain ⟨rfl,v12,hE,s⟩:=hJ
 refine ⟨_,hE.sub,?_⟩
 refine .g (.s (ld t50 s z z z z z) z (.c (.st t50 s.p3 z z z ?_)))
 intro W s
 cases h
 exact .nil (.ret (ac (v1,v2,v12) (rc s t50 z rn z z) z (s.to [2,2,3])))
end
noncomputable section
theorem rq {k:Nat} {a0:List Int} {a1:List Int} {v_0:Hd} {v_1:Hd} {w:World} {r:Bool} (h:jF k a0 a1=some r) (q_0:RO w v_0 5 1 (D.int .u8) a0) (q_1:RO w v_1 5 1 (D.int .u8) a1) (hG:Gl w):CL 8 #[sv v_0,sv v_1] w (RU w (.bool r)):=by
 unfold jF at h
 refine ar func8 z z ?_
 have s:=Sep.start w
 refine .g (.qn z (.seq (.g (.q z (.s (aZ (s.keep q_0) u22 z z) z (.q z (.q z (.cu 4 20 ((decide ((a0.length:Int)>1048576))||(decide ((a1.length:Int)>1048576))) s ?_ ?_))))))))
 ·refine .both (decide ((a0.length:Int)>1048576)) (λb=>?_) (λb=>?_)
  ·exact .xx b z (.xx b z (.xx b z (.s (pkt b z z z) z (.nil (ck 4 s z (fk b))))))
  have hg1:=b
  exact .g hg1 (.q z (.g hg1 (.s (aZ (s.keep q_1) u22 z z) z (.g hg1 (.q z (.s (pkf hg1 z z z) z (.nil (ck 4 s z (fp hg1)))))))))
 intro W s
 refine .nil ?_
 refine .cs z h ?_ ?_ <;> intro h
 ·obtain rfl:=o9 h
  exact .g (.qn z (.ret (ac () (rt z rn) z (s.to []))))
 refine .skip (.g (.q z (bv h λy1 hy1 h=>.c (.call s func16 (rb hy1 (s.keep q_0)) z z ?_))))
 rintro ⟨v1,v2⟩ W s
 refine .q z (.q z (.q z (.q z (.qn z (.g (.q z (.q z (bv h λy2 hy2 h=>.c (.call s func17 (pU hy2 s.lv s.p1.lv) z z ?_)))))))))
 rintro ⟨v3,v4,v5,v6⟩ W s
 refine .q z (.q z (.q z (.c (.alloc t42 s ?_))))
 intro g1 W s
 refine .c (.st t42 s z z z ?_)
 intro W s
 refine .qn z (.g (.q z (.q z (bv h λy3 hy3 h=>.c (.call s func18 (u9 hy3 s.p5.lv s.p6.lv) z z ?_)))))
 rintro ⟨v7,v8,v9,v10⟩ W s
 refine .q z (.q z (.q z (.c (.alloc t42 s ?_))))
 intro g2 W s
 refine .c (.st t42 s z z z ?_)
 intro W s
 refine .qn z (.seq (.g (.q z (.q z (.s (neb u4 z z z) z (.q z (bv h λb1 hb1 h=>.cu 5 46 (b1) s ?_ ?_)))))))
 ·refine .both (y2.2 !=y3.2) (λb=>?_) (λb=>?_)
  ·refine .xx b z (.xx b z (.xx b z (.xx b z ?_)))
   cases aJ b hb1
   exact .s (pkt b z z z) z (.nil (ck 5 s))
  have hg2:=b
  have h:=aK b hb1
  refine .g hg2 (.s (ld t42 s.p5 z z z z z) z (.g hg2 (.s (ld t42 s z z z z z) z (bv h λy4 hy4 h=>.g hg2 (.c (.cO s func19 (ph hy4 s.p6.lv s.p7.lv s.p8.lv s.p9.lv s.p1.lv s.p2.lv s.p3.lv s.p4.lv) z z ?_))))))
  intro W s
  refine .g hg2 (.q z (.s (pkf hg2 z z z) z ?_))
  cases h
  exact .nil (ck 5 s)
 intro W s
 refine .q z (.cu 3 50 (b1||(!y2.2)) s ?_ ?_)
 ·refine .both (b1) (λb=>?_) (λb=>?_)
  ·exact .xx b z (.xx b z (.s (pkt b z z z) z (.nil (ck 3 s z (fk b)))))
  have hg3:=b
  exact .g hg3 (.q z (.g hg3 (.q z (.s (pkf hg3 z z z) z (.nil (ck 3 s z (fp hg3)))))))
 intro W s
 refine .nil ?_
 refine .cs z h ?_ ?_ <;> intro h
 ·refine .g (.q z (.q z (.s (eqb u4 z z z) z (.q z (bv h λb2 hb2 h=>.cu 4 58 (b2) s ?_ ?_)))))
  ·refine .both (y2.2==y3.2) (λb=>?_) (λb=>?_)
   ·have hg4:=b
    have h:=aJ b hb2
    refine .g hg4 (.s (ld t42 s.p5 z z z z z) z (.g hg4 (.s (ld t42 s z z z z z) z (bv h λy5 hy5 h=>.g hg4 (.c (.cO s func19 (ph hy5 s.p6.lv s.p7.lv s.p8.lv s.p9.lv s.p1.lv s.p2.lv s.p3.lv s.p4.lv) z z ?_))))))
    intro W s
    refine .s (pkt hg4 z z z) z ?_
    cases h
    exact .nil (ck 4 s)
   refine .xx b z (.xx b z (.xx b z ?_))
   cases aK b hb2
   exact .s (pkf b z z z) z (.nil (ck 4 s))
  intro W s
  obtain rfl:=o9 h
  exact .qn z (.ret (ac () (rt z rn) z (s.to [])))
 refine .skip (.g (.q z (.q z (bv h λy6 hy6 h=>.c (.call s func25 (wS hy6 s.p10.lv s.p11.lv) z z ?_)))))
 rintro ⟨v11,v12,v13,v14⟩ W s
 refine bv h λy7 hy7 h=>.c (.call s func26 (rp hy7 s.lv s.p1.lv s.p2.lv s.p3.lv) z z ?_)
 rintro ⟨v15,v16,v17⟩ W s
 refine .c (.alloc t50 s ?_)
 intro g3 W s
 refine .c (.st t50 s z z z ?_)
 intro W s
 refine .nil (.seq (.g (.s (fa f50_3 z z z) z (.s (ld t4 s z z z z z) z (.q z (.nil ?_))))))
 refine .cs z h ?_ ?_ <;> intro h
 ·cases h
  exact .g (.s (fa f50_2 z z z) z (.s (ld t48 s z z z z z) z (.s (aZ s.p3.lv u48 z z) z (.q z (.s (aZ (s.pull (i:=19) z).lv u36 z z) z (.q z (.qn z (.ret (ac () (rt z rn) z (s.to []))))))))))
 refine .skip (.g (.q z (.q z (.s (aZ (s.keep q_1) u22 z z) z (.q z (.q z (bv h λy8 hy8 h=>.c (.cV s func20 (ve hy8 (s.pull (i:=19) z).lv (hG.at s (λ_ _ h=>h))) z z ?_))))))))
 intro v18 W s
 refine .qn z (.seq (.rk 7 s [0,0,0,0,0,0,0,0,0,0,0,0,0,0,0,0,0,0,0,0,0] T.mix ?_))
 intro W s
 have t:=s.to [0,0,0,0,0,0,0,0,0,0,0,0,0,0,0,0,0,0,0,0,0]
 refine .tp' 0 z z t (.tp' 1 z z t (.ts' 4 z (λW t=>ld t50 t.p1 z z z z z) t z (bv h λy9 hy9 h=>.by1 2 z (.call s func22 (vj hy9 (s.pull (i:=19) z).lv s.lv (hG.at s (λ_ _ h=>h))) z z ?_))))
 rintro ⟨v19,v20,v21⟩ W s
 refine s.an [3,3,3,3,3,3,3,3,3,3,3,3,3,3,3,3,3,3,3,3,3] λt=>bv h λy10 hy10 h=>.by1 3 z (.call s func21 (qD hy10 s.lv s.p1.lv s.p2.lv) z z ?_)
 rintro ⟨v22,v23,v24⟩ W s
 refine s.an [6,6,6,6,6,6,6,6,6,6,6,6,6,6,6,6,6,6,6,6,6] λt=>bv h λy11 hy11 h=>.by1 5 z (.cO s func23 (rl hy11 s.lv s.p1.lv s.p2.lv s.p8.lv s.p9.lv s.p10.lv) z z ?_)
 intro W s
 refine s.an [6,6,6,6,6,6,6,6,6,6,6,6,6,6,6,6,6,6,6,6,6] λt=>?_
 obtain rfl:=o9 h
 exact .tp' 6 z z t (.done (.ret (ac () (rt z rn) z (s.to []))))
end
end Go.Proofs.YtgcmopfhafoabaaGreatDoor.N
namespace Go.Proofs.YtgcmopfhafoabaaGreatDoor.X
noncomputable section
variable {P:Program} {w:World} {T:Nat->Prop} {t e:TypeId} {size:Nat} {k:IntKind} {α:Type} {enc:α->D} {H:Type} {en:TypeId×Value->H} {base:Nat} {spare:Nat->Bool} {held:Bool}
def Bb (P:Program) (t:TypeId):Option (List TypeId):=match P.underlying t with
 | some (.struct fs)=>some (fs.toList.map (·.type))
 | _=>none
mutual
def Typ (P:Program):D->TypeId->Prop
 | .int k n,t=>P.underlying t=some (.int k)/\(Lit.int k n).wf=true
 | .bool _,t=>P.underlying t=some .bool
 | .str s,t=>P.underlying t=some .string/\s.size<=maxLen
 | .row e size xs,t=>P.underlying t=some (.slice e)/\size=P.cellsOf e/\yd P xs e
 | .agg xs,t=>∃ ts,Bb P t=some ts/\EA P xs ts
def yd (P:Program):List D->TypeId->Prop
 | [],_=>True
 | x::xs,e=>Typ P x e/\yd P xs e
def EA (P:Program):List D->List TypeId->Prop
 | [],[]=>True
 | x::xs,t::ts=>Typ P x t/\EA P xs ts
 | _,_=>False
end
def pJ (P:Program):List Field->Nat->Option Nat
 | [],k=>some k
 | f::r,k=>match Nat.beq f.offset k with
  | true=>pJ P r (k+P.cellsOf f.type)
  | false=>none
def okT (P:Program) (ts:List TypeId) (t:TypeId):Bool:=match P.underlying t with
 | some (.int _) | some .bool | some .string=>Nat.beq (P.cellsOf t) 1
 | some (.slice e)=>Nat.beq (P.cellsOf t) 1&&ts.contains e&&!(Nat.beq (P.cellsOf e) 0)
 | some (.struct fs)=>(match pJ P fs.toList 0 with
  | some n=>Nat.beq n (P.cellsOf t)
  | none=>false)&&fs.toList.all (λf=>ts.contains f.type)
 | _=>false
theorem D.rd_length:∀ {d:D} {cs:List Value},D.rd w d T cs->cs.length=d.sz
 | .int _ _,_,h=>by simp only [D.rd] at h; subst h; rfl
 | .bool _,_,h=>by simp only [D.rd] at h; subst h; rfl
 | .str _,_,h=>by simp only [D.rd] at h; subst h; rfl
 | .row _ _ _,_,⟨A,cap,c,h1,_⟩=>by subst h1; rfl
 | .agg xs,_,h=>by simp only [D.sz]; exact pp (xs:=xs) h
theorem yd.append:∀ {xs ys:List D},yd P xs e->yd P ys e->yd P (xs++ys) e
 | [],_,_,h=>h
 | x::xs,_,⟨h1,h2⟩,h=>⟨h1,yd.append h2 h⟩
theorem yT {a:Addr} {v:Value} (h:w.cell? a=some v):Old No w a.block:=⟨World.block_lt_of_cell? w a h,id⟩
theorem yU {ts:List TypeId} (hts:ts.all (okT P ts)=true):∀ {fuel:Nat} {t:TypeId} {cs:List Value} {x:DataW H×List MemPlace},t∈ts->DataW.trod en P w base spare held fuel t cs=some x->∃ d,Typ P d t/\D.rd w d (Old No w) cs/\d.sz=P.cellsOf t:=by
 intro fuel
 induction fuel with
 | zero=>intro t cs x _ h; simp [DataW.trod] at h
 | succ fuel ih =>
  intro t cs x ht h
  have hok:=List.all_eq_true.1 hts t ht
  unfold okT at hok
  split at hok
  ·rename_i k hu
   obtain ⟨n,rfl,_,hw⟩:=DataW.trod_int hu h
   exact ⟨.int k n,⟨hu,hw⟩,rfl,(Nat.eq_of_beq_eq_true hok).symm⟩
  ·rename_i hu
   obtain ⟨b,rfl,_⟩:=DataW.trod_bool hu h
   exact ⟨.bool b,hu,rfl,(Nat.eq_of_beq_eq_true hok).symm⟩
  ·rename_i hu
   obtain ⟨s,rfl,_,hs⟩:=DataW.trod_string hu h
   exact ⟨.str s,⟨hu,hs⟩,rfl,(Nat.eq_of_beq_eq_true hok).symm⟩
  ·rename_i e hu
   simp only [Bool.and_eq_true,Bool.not_eq_true'] at hok
   obtain ⟨⟨h1,h2⟩,h3⟩:=hok
   have he:e∈ts:=by simpa using h2
   have h0:P.cellsOf e≠0:=by intro h0; rw [h0] at h3; cases h3
   have hc1:=(Nat.eq_of_beq_eq_true h1).symm
   rcases DataW.trod_slice hu h with ⟨rfl,_⟩ | ⟨a,len,cap,elems,rest,n,hn,rfl,_,hb,hl,hm,hlen,hel,_,_⟩
   ·exact ⟨.row e (P.cellsOf e) [],⟨hu,rfl,trivial⟩,⟨none,0,[],rfl,Nat.le_refl _,Nat.zero_le _,by simp,λh=>absurd rfl h,rfl⟩,hc1⟩
   ·obtain rfl:fuel=n:=by omega
    have key:∀ m,m<=len->∃ ds c,ds.length=m/\yd P ds e/\(∀ x∈ds,x.sz=P.cellsOf e)/\D.rds w ds (Old No w) c/\c.length=m*P.cellsOf e/\∀ j u,c[j]?=some u->w.cell? (a.add j)=some u:=by
     intro m
     induction m with
     | zero=>intro _; exact ⟨[],[],rfl,trivial,by simp,rfl,by simp,by simp⟩
     | succ m ihm =>
      intro hle
      obtain ⟨ds,c,k1,k2,k3,k4,k5,k6⟩:=ihm (by omega)
      have hi:=hel m (by omega)
      have hs:∃ y,elems[m]?=some y:=⟨_,List.getElem?_eq_getElem (by omega)⟩
      obtain ⟨y,hy⟩:=hs
      rw [hy,Option.bind_eq_some_iff] at hi
      obtain ⟨ci,hci,hyi⟩:=hi
      obtain ⟨d,g1,g2,g3⟩:=ih he hyi
      obtain ⟨_,q2,q3⟩:=World.cells?_some hci
      refine ⟨ds++[d],c++ci,by simp [k1],k2.append ⟨g1,trivial⟩,λx hx=>?_,xz k4 ⟨ci,[],by simp,D.rd_length g2,g2,rfl⟩,by rw [List.length_append,k5,q2,Nat.add_mul]; omega,λj u hj=>?_⟩
      ·rcases List.mem_append.1 hx with hx | hx
       ·exact k3 x hx
       ·rw [List.mem_singleton.1 hx]; exact g3
      ·rcases Nat.lt_or_ge j c.length with hj' | hj'
       ·rw [List.getElem?_append_left hj'] at hj; exact k6 j u hj
       ·rw [List.getElem?_append_right hj'] at hj
        have hlt:j-c.length<P.cellsOf e:=by
         rcases Nat.lt_or_ge (j-c.length) ci.length with h | h
         ·omega
         ·rw [List.getElem?_eq_none h] at hj; cases hj
        have:=q3 _ hlt
        rw [hj,Addr.add_add,<-k5] at this
        rw [show c.length+(j-c.length)=j by omega] at this
        exact this
    obtain ⟨ds,c,k1,k2,k3,k4,k5,k6⟩:=key len (Nat.le_refl _)
    refine ⟨.row e (P.cellsOf e) ds,⟨hu,rfl,k2⟩,⟨some a,cap,c,by rw [k1],by omega,by omega,k3,λhne=>⟨a,rfl,?_,k6⟩,k4⟩,hc1⟩
    have hpos:0<c.length:=by
     rw [k5,<-k1]
     exact Nat.mul_pos (List.length_pos_iff.2 hne) (by omega)
    have h6:=k6 0 _ (List.getElem?_eq_getElem hpos)
    simp only [Addr.add,if_true] at h6
    exact yT h6
  ·rename_i fs hu
   simp only [Bool.and_eq_true] at hok
   obtain ⟨h1,h2⟩:=hok
   split at h1
   ·rename_i tot hcg
    obtain rfl:=Nat.eq_of_beq_eq_true h1
    obtain ⟨xs,n,hn,_,hlen,hxl,hf⟩:=DataW.trod_struct hu h
    obtain rfl:fuel=n:=by omega
    have key:∀ (gs:List Field) (o:Nat),(∀ f∈gs,f.type∈ts/\∃ y,DataW.trod en P w base spare held fuel f.type ((cs.drop f.offset).take (P.cellsOf f.type))=some y)->pJ P gs o=some (P.cellsOf t) ->
      ∃ ds,EA P ds (gs.map (·.type))/\D.rds w ds (Old No w) (cs.drop o)/\o+D.szs ds=P.cellsOf t:=by
     intro gs
     induction gs with
     | nil =>
      intro o _ hc
      simp only [pJ,Option.some.injEq] at hc
      subst hc
      exact ⟨[],trivial,by rw [<-hlen,List.drop_length]; rfl,rfl⟩
     | cons f gs ihg =>
      intro o hall hc
      simp only [pJ] at hc
      split at hc
      ·rename_i ho
       have ho':=Nat.eq_of_beq_eq_true ho
       obtain ⟨hft,y,hy⟩:=hall f (by simp)
       obtain ⟨d,g1,g2,g3⟩:=ih hft hy
       obtain ⟨ds,q1,q2,q3⟩:=ihg _ (λg hg=>hall g (by simp [hg])) hc
       rw [ho'] at g2
       refine ⟨d::ds,⟨g1,q1⟩,⟨_,_,?_,D.rd_length g2,g2,q2⟩,?_⟩
       ·rw [<-List.drop_drop,List.take_append_drop]
       ·simp only [D.szs,g3]; omega
      ·cases hc
    obtain ⟨ds,q1,q2,q3⟩:=key fs.toList 0 (λf hf'=>⟨by have:=List.all_eq_true.1 h2 f hf'; simpa using this,by
      obtain ⟨i,hi⟩:=List.getElem?_of_mem hf'
      have hi':fs[i]?=some f:=by simpa using hi
      have hlt:i<xs.length:=by
       have:=(List.getElem?_eq_some_iff.1 hi).1
       rw [hxl]
       simpa using this
      exact ⟨_,(hf i f hi').trans (List.getElem?_eq_getElem hlt)⟩⟩) hcg
    exact ⟨.agg ds,⟨_,by simp only [Bb,hu],q1⟩,q2,by simp only [D.sz]; omega⟩
   ·cases h1
  ·cases hok
def Dec (P:Program) (t:TypeId) (enc:α->D) (Wf:α->Prop):Prop:=∀ d,Typ P d t->∃ x,d=enc x/\Wf x
theorem Dec.int (hu:P.underlying t=some (.int k)):Dec P t (D.int k) (λn=>(Lit.int k n).wf=true):=by
 intro d h
 cases d with
 | int k' n =>
  obtain ⟨h1,h2⟩:=h
  rw [hu] at h1
  injection h1 with h1
  injection h1 with h1
  subst h1
  exact ⟨n,rfl,h2⟩
 | bool b=>rw [show P.underlying t=some .bool from h] at hu; cases hu
 | str s=>rw [show P.underlying t=some .string from h.1] at hu; cases hu
 | row e s xs=>rw [h.1] at hu; cases hu
 | agg xs=>obtain ⟨ts,h1,_⟩:=h; simp [Bb,hu] at h1
theorem Dec.bool (hu:P.underlying t=some .bool):Dec P t D.bool (λ_=>True):=by
 intro d h
 cases d with
 | bool b=>exact ⟨b,rfl,trivial⟩
 | int k' n=>rw [h.1] at hu; cases hu
 | str s=>rw [show P.underlying t=some .string from h.1] at hu; cases hu
 | row e s xs=>rw [h.1] at hu; cases hu
 | agg xs=>obtain ⟨ts,h1,_⟩:=h; simp [Bb,hu] at h1
theorem Dec.str (hu:P.underlying t=some .string):Dec P t D.str (λs=>s.size<=maxLen):=by
 intro d h
 cases d with
 | str s=>exact ⟨s,rfl,h.2⟩
 | bool b=>rw [show P.underlying t=some .bool from h] at hu; cases hu
 | int k' n=>rw [h.1] at hu; cases hu
 | row e s xs=>rw [h.1] at hu; cases hu
 | agg xs=>obtain ⟨ts,h1,_⟩:=h; simp [Bb,hu] at h1
theorem Dec.list {Wf:α->Prop} (h:Dec P e enc Wf):∀ {xs:List D},yd P xs e->∃ l:List α,xs=l.map enc/\∀ x∈l,Wf x
 | [],_=>⟨[],rfl,by simp⟩
 | d::xs,⟨h1,h2⟩=>by
  obtain ⟨x,rfl,hx⟩:=h d h1
  obtain ⟨l,rfl,hl⟩:=Dec.list h h2
  exact ⟨x::l,rfl,λy hy=>(List.mem_cons.1 hy).elim (λe=>e▸hx) (hl y)⟩
theorem Dec.slice {Wf:α->Prop} (hu:P.underlying t=some (.slice e)) (hc:P.cellsOf e=size) (h:Dec P e enc Wf):Dec P t (λ(l:List α)=>D.row e size (l.map enc)) (λl=>∀ x∈l,Wf x):=by
 intro d hd
 cases d with
 | row e' s xs =>
  obtain ⟨h1,h2,h3⟩:=hd
  rw [hu] at h1
  injection h1 with h1
  injection h1 with h1
  subst h1
  obtain ⟨l,rfl,hl⟩:=h.list h3
  exact ⟨l,by rw [h2,hc],hl⟩
 | bool b=>rw [show P.underlying t=some .bool from hd] at hu; cases hu
 | int k' n=>rw [hd.1] at hu; cases hu
 | str s=>rw [show P.underlying t=some .string from hd.1] at hu; cases hu
 | agg xs=>obtain ⟨ts,h1,_⟩:=hd; simp [Bb,hu] at h1
end
noncomputable section
variable {P:Program} {w:World} {T:Nat->Prop} {t e:TypeId} {size:Nat} {k:IntKind} {α:Type} {H:Type} {en:TypeId×Value->H} {base:Nat} {spare:Nat->Bool} {held:Bool}
def nZ:DataW H->List Value
 | .lit (.int k n)=>[.int k n]
 | .lit (.bool b)=>[.bool b]
 | .lit (.string s)=>[.string ⟨s.toArray⟩]
 | .agg ds=>dcellsL ds
 | _=>[]
where dcellsL:List (DataW H)->List Value
 | []=>[]
 | d::r=>nZ d++dcellsL r
theorem qG {γ:Type} (f:γ->DataW H):∀ {xs:List γ},nZ.dcellsL (xs.map f)=(xs.map λx=>nZ (f x)).flatten
 | []=>rfl
 | x::xs=>by simp only [List.map_cons,nZ.dcellsL,List.flatten_cons,qG f]
def okF (P:Program) (ts:List TypeId) (t:TypeId):Bool:=match P.underlying t with
 | some (.int _) | some .bool | some .string=>Nat.beq (P.cellsOf t) 1
 | some (.array n e)=>Nat.beq (P.cellsOf t) (n*P.cellsOf e)&&ts.contains e
 | some (.struct fs)=>(match pJ P fs.toList 0 with
  | some n=>Nat.beq n (P.cellsOf t)
  | none=>false)&&fs.toList.all (λf=>ts.contains f.type)
 | _=>false
theorem zQ {ts:List TypeId} (hts:ts.all (okF P ts)=true):∀ {fuel:Nat} {t:TypeId} {cs:List Value} {x:DataW H×List MemPlace},t∈ts->DataW.trod en P w base spare held fuel t cs=some x->cs=nZ x.1/\cs.length=P.cellsOf t:=by
 intro fuel
 induction fuel with
 | zero=>intro t cs x _ h; simp [DataW.trod] at h
 | succ fuel ih =>
  intro t cs x ht h
  have hok:=List.all_eq_true.1 hts t ht
  unfold okF at hok
  split at hok
  ·rename_i k hu
   obtain ⟨n,rfl,rfl,hw⟩:=DataW.trod_int hu h
   exact ⟨rfl,(Nat.eq_of_beq_eq_true hok).symm⟩
  ·rename_i hu
   obtain ⟨b,rfl,rfl⟩:=DataW.trod_bool hu h
   exact ⟨rfl,(Nat.eq_of_beq_eq_true hok).symm⟩
  ·rename_i hu
   obtain ⟨s,rfl,rfl,hs⟩:=DataW.trod_string hu h
   exact ⟨by simp [nZ],(Nat.eq_of_beq_eq_true hok).symm⟩
  ·rename_i n e hu
   simp only [Bool.and_eq_true] at hok
   obtain ⟨h1,h2⟩:=hok
   have he:e∈ts:=by simpa using h2
   have h1':=Nat.eq_of_beq_eq_true h1
   obtain ⟨xs,m,hn,rfl,hlen,hxl,hel⟩:=DataW.trod_array hu h
   obtain rfl:fuel=m:=by omega
   refine ⟨?_,hlen⟩
   have key:∀ j,j<=n->cs.take (j*P.cellsOf e)=((xs.take j).map λy=>nZ y.1).flatten:=by
    intro j
    induction j with
    | zero=>intro _; simp
    | succ j ihj =>
     intro hj
     have hi:=hel j (by omega)
     have hlt:j<xs.length:=by omega
     rw [List.getElem?_eq_getElem hlt] at hi
     obtain ⟨g1,g2⟩:=ih he hi
     rw [<-List.take_append_getElem hlt,List.map_append,List.flatten_append,<-ihj (by omega)]
     simp only [List.map_cons,List.map_nil,List.flatten_cons,List.flatten_nil,List.append_nil]
     rw [<-g1,Nat.add_mul,Nat.one_mul,List.take_add]
   have:=key n (Nat.le_refl _)
   rw [List.take_of_length_le (by omega),List.take_of_length_le (by omega)] at this
   rw [this]
   show _=nZ.dcellsL (xs.map (·.1))
   rw [qG]
  ·rename_i fs hu
   simp only [Bool.and_eq_true] at hok
   obtain ⟨h1,h2⟩:=hok
   split at h1
   ·rename_i tot hcg
    obtain rfl:=Nat.eq_of_beq_eq_true h1
    obtain ⟨xs,n,hn,rfl,hlen,hxl,hf⟩:=DataW.trod_struct hu h
    obtain rfl:fuel=n:=by omega
    refine ⟨?_,hlen⟩
    have key:∀ (gs:List Field) (o i:Nat),(∀ j f,gs[j]?=some f->fs[i+j]?=some f/\f.type∈ts)->i+gs.length=xs.length->pJ P gs o=some (P.cellsOf t)->cs.drop o=((xs.drop i).map λy=>nZ y.1).flatten:=by
     intro gs
     induction gs with
     | nil =>
      intro o i _ hlen2 hc
      simp only [pJ,Option.some.injEq] at hc
      simp only [List.length_nil,Nat.add_zero] at hlen2
      rw [hc,<-hlen,List.drop_length,hlen2,List.drop_length]
      rfl
     | cons f gs ihg =>
      intro o i hall hlen2 hc
      simp only [pJ] at hc
      split at hc
      ·rename_i ho
       have ho':=Nat.eq_of_beq_eq_true ho
       obtain ⟨hf0,hft⟩:=hall 0 f rfl
       have hi:=hf i f (by simpa using hf0)
       have hlt:i<xs.length:=by simp only [List.length_cons] at hlen2; omega
       rw [List.getElem?_eq_getElem hlt,ho'] at hi
       obtain ⟨g1,g2⟩:=ih hft hi
       have hr:=ihg (o+P.cellsOf f.type) (i+1) (λj f' hj=>by
        have:=hall (j+1) f' (by simpa using hj)
        rwa [show i+(j+1)=i+1+j by omega] at this) (by simp only [List.length_cons] at hlen2; omega) hc
       rw [List.drop_eq_getElem_cons hlt,List.map_cons,List.flatten_cons,<-g1,<-hr,<-List.drop_drop,List.take_append_drop]
      ·cases hc
    have:=key fs.toList 0 0 (λj f hj=>⟨by simpa using hj,by
     have:=List.all_eq_true.1 h2 f (List.mem_of_getElem? hj)
     simpa using this⟩) (by simp [hxl]) hcg
    simp only [List.drop_zero] at this
    rw [this]
    show _=nZ.dcellsL (xs.map (·.1))
    rw [qG]
   ·cases h1
  ·cases hok
theorem yV {f:α->List Value} (hs:∀ x,(f x).length=size):∀ {l:List α} {i j:Nat} {x:α} {u:Value},l[i]?=some x->(f x)[j]?=some u->((l.map f).flatten)[i*size+j]?=some u
 | [],i,j,x,u,h,_=>by simp at h
 | y::ys,0,j,x,u,h,hu=>by
  have:y=x:=by simpa using h
  subst this
  have hlt:j<(f y).length:=by
   rcases Nat.lt_or_ge j (f y).length with h | h
   ·exact h
   ·rw [List.getElem?_eq_none h] at hu; cases hu
  simp only [List.map_cons,List.flatten_cons,Nat.zero_mul,Nat.zero_add]
  rw [List.getElem?_append_left hlt]
  exact hu
 | y::ys,i+1,j,x,u,h,hu=>by
  have ih:=yV hs (l:=ys) (i:=i) (j:=j) (by simpa using h) hu
  simp only [List.map_cons,List.flatten_cons]
  rw [List.getElem?_append_right (by rw [hs,Nat.add_mul]; omega),hs]
  rw [show (i+1)*size+j-size=i*size+j by rw [Nat.add_mul]; omega]
  exact ih
theorem ye {g:Nat} {f:α->List Value} {l:List α} {cs:Array Value} (hs:∀ x,(f x).length=size) (hc:cs.toList=(l.map f).flatten) (hv:∀ j,w.cell? ⟨g,j,none⟩=cs[j]?) (h0:Nat.ble 1 ((l.map f).flatten).length=true):Tab g size f l w:=
 have h1:0<cs.size:=by
  have h1:=Nat.le_of_ble_eq_true h0
  rw [<-hc,Array.length_toList] at h1
  omega
 ⟨World.block_lt_of_cell? w ⟨g,0,none⟩ ((hv 0).trans (Array.getElem?_eq_getElem h1)),λi x hx j v hj=>by
  rw [hv]
  have:=yV hs hx hj
  rw [<-hc] at this
  simpa using this⟩
theorem pK {ts:List TypeId} (hts:ts.all (okF P ts)=true) {n:String} {d:DataW Unit} {r:List (String×DataW Unit)} {ps:List MemPlace} {g t:Nat} (hg:P.globalNamed n=some g) (ht:(P.globals[g]?).map (·.type)=some t) (hm:t∈ts)
  (h:DataW.LaidVars P w ((n,d)::r) ps):∃ cs:Array Value,cs.toList=nZ d/\(∀ j,w.cell? ⟨g,j,none⟩=cs[j]?)/\∃ qs,DataW.LaidVars P w r qs:=by
 obtain ⟨g',t',cs,fuel,p,q,h1,h2,h3,h4,h5,_⟩:=h
 obtain rfl:=o9 (hg.symm.trans h1)
 obtain rfl:=o9 (ht.symm.trans h2)
 exact ⟨cs,(zQ hts hm h4).1,λj=>World.var?_cell hg h3 j,q,h5⟩
end

end Go.Proofs.YtgcmopfhafoabaaGreatDoor.X
