/- Printed by a program of mine: that the program's functions compute it. -/
import Derived.Test.YtgcmopfhafoabaaGreatDoorK6
set_option linter.unusedVariables false
set_option linter.unusedSimpArgs false
set_option maxRecDepth 100000
set_option maxHeartbeats 4000000
namespace Go.Proofs.YtgcmopfhafoabaaGreatDoor.N
open Go.Proofs.YtgcmopfhafoabaaGreatDoor.X
noncomputable section
theorem nH {a0 : ah} {a1 : Int} {a2 : Int} {w : World} {r : (List Instr)} (h : gP a0 a1 a2 = some r) : Cl 157 #[.agg #[vi a0.Op,vi a0.Dst,vi a0.A,vi a0.B,vi a0.N],vi a1,vi a2] w (Ret No w (fun s : Hd=>(sv s)) (fun s=>[ae (sv s) 105 5 aw r])):=by
 unfold gP at h
 refine ar Tryz.func157 z z ?_
 have hS:=Sep.start w
 refine .g (.c (.box hS z z ?_))
 intro g1 W hS
 refine .qn z (.g (.s (fa T.f102_1 z z z) z (.s (ld T.t3 hS z z z z z) z (.q z ?_))))
 have ⟨y1,hy1,h⟩:=bnd h
 refine .c (.cO hS Tryz.func182 (eh hy1) z z ?_)
 intro W hS
 refine .qn z (.seq (.g (.s (fa T.f102_0 z z z) z (.s (ld T.t3 hS z z z z z) z (.nil (.block (.g (.q z (.qn z (.cond z (fun hb=>?_) (fun hb=>?_)))))))))))
 ·have h:=aF hb h
  refine .seq (.rk 9 hS [0] T.mix ?_)
  intro W hS
  have hT:=hS.to [0]
  refine .tp' 0 z z hT (.ts' 1 z (fun W hT=>fa T.f102_4 z z z) hT z (.ts' 2 z (fun W hT=>ld T.t3 hT z z z z z) hT z (.ts' 4 z (fun W hT=>fa T.f102_1 z z z) hT z (.ts' 5 z (fun W hT=>ld T.t3 hT z z z z z) hT z (.tp' 6 z z hT ?_)))))
  have ⟨y2,hy2,h⟩:=bnd h
  refine .by1 3 z (.cV hS Tryz.func184 (rq hy2) z z ?_)
  intro v1 W hS
  have hT:=hS.to [1]
  refine ⟨fun _=>hT,?_⟩
  have ⟨y3,hy3,h⟩:=bnd h
  refine .by1 7 z (.cS (L0:=[ae (sv v1) 105 5 aw y2]) hS Tryz.func183 (fun S h1 h2 h3=>(hY hy3 h2 (zz h1))) z z ?_)
  rintro v2 W hS
  have hT:=hS.to [1]
  refine ⟨fun _=>hT,?_⟩
  obtain rfl:=o9 h
  exact .tp' 8 z z hT (.done (.ret (ab (vs:=[_]) v2 (rt z rn) z (hS.to [0]))))
 have h:=aG hb h
 refine .g (.q z (.qn z (.cond z (fun hb=>?_) (fun hb=>?_))))
 ·have h:=aF hb h
  refine .seq (.rk 17 hS [0] T.mix ?_)
  intro W hS
  have hT:=hS.to [0]
  refine .ts' 0 z (fun W hT=>fa T.f102_2 z z z) hT z (.ts' 1 z (fun W hT=>ld T.t3 hT z z z z z) hT z (.tp' 2 z z hT (.tp' 4 z z hT (.ts' 5 z (fun W hT=>fa T.f102_2 z z z) hT z (.ts' 6 z (fun W hT=>ld T.t3 hT z z z z z) hT z (.tp' 7 z z hT (.ts' 12 z (fun W hT=>fa T.f102_1 z z z) hT z (.ts' 13 z (fun W hT=>ld T.t3 hT z z z z z) hT z (.tp' 14 z z hT ?_)))))))))
  have ⟨y4,hy4,h⟩:=bnd h
  refine .by1 3 z (.cV hS Tryz.func185 (fN hy4) z z ?_)
  intro v3 W hS
  have hT:=hS.to [1]
  refine ⟨fun _=>hT,?_⟩
  have ⟨y5,hy5,h⟩:=bnd h
  refine .by1 8 z (.cO hS Tryz.func182 (eh hy5) z z ?_)
  intro W hS
  have hT:=hS.to [1]
  refine ⟨fun _=>hT,?_⟩
  have ⟨y6,hy6,h⟩:=bnd h
  refine .by1 9 z (.cO hS Tryz.func186 (ll hy6) z z ?_)
  intro W hS
  have hT:=hS.to [1]
  refine ⟨fun _=>hT,.by1 10 z (.liv [y6] aw T.u66 T.t105 hS z z z z ?_ z (fun _=>z))⟩
  intro v4 W hS
  have hT:=hS.to [2]
  refine ⟨fun _=>hT,?_⟩
  have ⟨r1,hr1,h⟩:=bnd h
  have hT0:=hS.p1
  refine .by1 11 z (.av hr1 hT0 hT0.p1.lv (fun _=>z) T.u66 T.t105 z z z ?_)
  intro v5 W hS
  have hT:=hS.to [2]
  refine ⟨fun _=>hT,?_⟩
  have ⟨y7,hy7,h⟩:=bnd h
  refine .by1 15 z (.cS (L0:=[ae (sv v5) 105 5 aw r1]) hS Tryz.func183 (fun S h1 h2 h3=>(hY hy7 h2 (zz h1))) z z ?_)
  rintro v6 W hS
  have hT:=hS.to [2]
  refine ⟨fun _=>hT,?_⟩
  obtain rfl:=o9 h
  exact .tp' 16 z z hT (.done (.ret (ab (vs:=[_]) v6 (rt z rn) z (hS.to [0]))))
 have h:=aG hb h
 refine .g (.q z (.q z (.nil ?_)))
 refine .cs z h ?_ ?_ <;> intro h
 ·refine .g (.s (ld T.t102 hS z z z z z) z (.q z ?_))
  have ⟨y8,hy8,h⟩:=bnd h
  refine .c (.cV hS Tryz.func187 (t6 hy8) z z ?_)
  intro v7 W hS
  obtain rfl:=o9 h
  exact .qn z (.ret (ab (vs:=[_]) v7 (rt z rn) z (hS.to [0])))
 refine .g (.q z (.q z (.nil ?_)))
 refine .cs z h ?_ ?_ <;> intro h
 ·refine .g (.q z (.s (bs T.s105 z z) z (.c (.liv [(Instr.mk 20 0 0 0 a2)] aw T.u66 T.t105 hS z z z z ?_ z (fun _=>z)))))
  intro v8 W hS
  cases h
  exact .qn z (.ret (ab (vs:=[_]) v8 (rt z rn) z (hS.to [0])))
 refine .g (.q z (.q z (.nil ?_)))
 refine .cs z h ?_ ?_ <;> intro h
 ·refine .g (.s (ld T.t102 hS z z z z z) z (.q z (.q z ?_)))
  have ⟨y9,hy9,h⟩:=bnd h
  refine .c (.cV hS Tryz.func188 (sk hy9) z z ?_)
  intro v9 W hS
  obtain rfl:=o9 h
  exact .qn z (.ret (ab (vs:=[_]) v9 (rt z rn) z (hS.to [0])))
 refine .g (.q z (.qn z (.cond z (fun hb=>?_) (fun hb=>?_))))
 ·have h:=aF hb h
  refine .seq (.rk 11 hS [0] T.mix ?_)
  intro W hS
  have hT:=hS.to [0]
  refine .ts' 0 z (fun W hT=>fa T.f102_2 z z z) hT z (.ts' 1 z (fun W hT=>ld T.t3 hT z z z z z) hT z (.tp' 2 z z hT (.ts' 4 z (fun W hT=>fa T.f102_4 z z z) hT z (.ts' 5 z (fun W hT=>ld T.t3 hT z z z z z) hT z ?_))))
  have ⟨y10,hy10,h⟩:=bnd h
  refine .by1 3 z (.cV hS Tryz.func190 (nG hy10) z z ?_)
  intro v10 W hS
  have hT:=hS.to [1]
  refine ⟨fun _=>hT,?_⟩
  have ⟨y11,hy11,h⟩:=bnd h
  refine .by1 6 z (.cO hS Tryz.func191 (ot hy11) z z ?_)
  intro W hS
  have hT:=hS.to [1]
  refine ⟨fun _=>hT,.by1 7 z (.liv [y11] aw T.u66 T.t105 hS z z z z ?_ z (fun _=>z))⟩
  intro v11 W hS
  have hT:=hS.to [2]
  refine ⟨fun _=>hT,?_⟩
  have ⟨r2,hr2,h⟩:=bnd h
  have hT0:=hS.p1
  refine .by1 8 z (.av hr2 hT0 hT0.p1.lv (fun _=>z) T.u66 T.t105 z z z ?_)
  intro v12 W hS
  have hT:=hS.to [2]
  refine ⟨fun _=>hT,?_⟩
  have ⟨y12,hy12,h⟩:=bnd h
  refine .by1 9 z (.cS (L0:=[ae (sv v12) 105 5 aw r2]) hS Tryz.func189 (fun S h1 h2 h3=>(fO hy12 h2 (zz h1))) z z ?_)
  rintro v13 W hS
  have hT:=hS.to [2]
  refine ⟨fun _=>hT,?_⟩
  obtain rfl:=o9 h
  exact .tp' 10 z z hT (.done (.ret (ab (vs:=[_]) v13 (rt z rn) z (hS.to [0]))))
 have h:=aG hb h
 refine .g (.q z (.qn z (.cond z (fun hb=>?_) (fun hb=>?_))))
 ·have h:=aF hb h
  refine .g (.s (fa T.f102_4 z z z) z (.s (ld T.t3 hS z z z z z) z ?_))
  have ⟨y13,hy13,h⟩:=bnd h
  refine .c (.cO hS Tryz.func191 (ot hy13) z z ?_)
  intro W hS
  refine .c (.liv [y13] aw T.u66 T.t105 hS z z z z ?_ z (fun _=>z))
  intro v14 W hS
  have ⟨y14,hy14,h⟩:=bnd h
  refine .c (.cS (L0:=[ae (sv v14) 105 5 aw [y13]]) hS Tryz.func189 (fun S h1 h2 h3=>(fO hy14 h2 (zz h1))) z z ?_)
  rintro v15 W hS
  refine .qn z (.seq (.rk 10 hS [1] T.mix ?_))
  intro W hS
  have hT:=hS.to [1]
  refine .tp' 0 z z hT (.tp' 1 z z hT (.ts' 5 z (fun W hT=>fa T.f102_1 z z z) hT z (.ts' 6 z (fun W hT=>ld T.t3 hT z z z z z) hT z (.tp' 7 z z hT ?_))))
  have ⟨y15,hy15,h⟩:=bnd h
  refine .by1 2 z (.cO hS Tryz.func186 (ll hy15) z z ?_)
  intro W hS
  have hT:=hS.to [1]
  refine ⟨fun _=>hT,.by1 3 z (.liv [y15] aw T.u66 T.t105 hS z z z z ?_ z (fun _=>z))⟩
  intro v16 W hS
  have hT:=hS.to [2]
  refine ⟨fun _=>hT,?_⟩
  have ⟨r3,hr3,h⟩:=bnd h
  have hT0:=hS.p1
  refine .by1 4 z (.av hr3 hT0 hT0.p1.lv (fun _=>z) T.u66 T.t105 z z z ?_)
  intro v17 W hS
  have hT:=hS.to [2]
  refine ⟨fun _=>hT,?_⟩
  have ⟨y16,hy16,h⟩:=bnd h
  refine .by1 8 z (.cS (L0:=[ae (sv v17) 105 5 aw r3]) hS Tryz.func183 (fun S h1 h2 h3=>(hY hy16 h2 (zz h1))) z z ?_)
  rintro v18 W hS
  have hT:=hS.to [2]
  refine ⟨fun _=>hT,?_⟩
  obtain rfl:=o9 h
  exact .tp' 9 z z hT (.done (.ret (ab (vs:=[_]) v18 (rt z rn) z (hS.to [0]))))
 have h:=aG hb h
 refine .g (.q z (.qn z (.cond z (fun hb=>?_) (fun hb=>?_))))
 ·have h:=aF hb h
  refine .g (.c (.liv [] aw T.u66 T.t105 hS z z z z ?_ z (fun _=>z)))
  intro v19 W hS
  have ⟨y17,hy17,h⟩:=bnd h
  refine .c (.cS (L0:=[ae (sv v19) 105 5 aw []]) hS Tryz.func189 (fun S h1 h2 h3=>(fO hy17 h2 (zz h1))) z z ?_)
  rintro v20 W hS
  obtain rfl:=o9 h
  exact .qn z (.ret (ab (vs:=[_]) v20 (rt z rn) z (hS.to [0])))
 have h:=aG hb h
 refine .g (.q z (.qn z (.cond z (fun hb=>?_) (fun hb=>?_))))
 ·have h:=aF hb h
  refine .g (.s (fa T.f102_2 z z z) z (.s (ld T.t3 hS z z z z z) z (.q z ?_)))
  have ⟨y18,hy18,h⟩:=bnd h
  refine .c (.cV hS Tryz.func190 (nG hy18) z z ?_)
  intro v21 W hS
  have ⟨y19,hy19,h⟩:=bnd h
  refine .c (.cS (L0:=[ae (sv v21) 105 5 aw y18]) hS Tryz.func189 (fun S h1 h2 h3=>(fO hy19 h2 (zz h1))) z z ?_)
  rintro v22 W hS
  obtain rfl:=o9 h
  exact .qn z (.ret (ab (vs:=[_]) v22 (rt z rn) z (hS.to [0])))
 have h:=aG hb h
 refine .skip (.g (.c (.liv [] aw T.u66 T.t105 hS z z z z ?_ z (fun _=>z))))
 intro v23 W hS
 have ⟨y20,hy20,h⟩:=bnd h
 refine .c (.cS (L0:=[ae (sv v23) 105 5 aw []]) hS Tryz.func189 (fun S h1 h2 h3=>(fO hy20 h2 (zz h1))) z z ?_)
 rintro v24 W hS
 obtain rfl:=o9 h
 exact .qn z (.ret (ab (vs:=[_]) v24 (rt z rn) z (hS.to [0])))
theorem qk {a0 : List ah} {a1 : Int} {v_0 : Hd} {w : World} {r : (List Int)} (h : gv a0 a1 = some r) (q_0 : RO w v_0 102 5 aK a0) : Cl 156 #[(sv v_0),vi a1] w (Ret No w (fun s : Hd=>(sv s)) (fun s=>[ae (sv s) 3 1 (D.int .i64) r])):=by
 unfold gv at h
 refine ar Tryz.func156 z z ?_
 have hS:=Sep.start w
 refine .g (.qn z (.g (.c (.liv [] (D.int .i64) T.u23 T.t3 hS z z z z ?_ z (fun _=>z)))))
 intro v1 W hS
 refine .qn z (.g (.qn z (.seq (.g (.qn z (.block ?_))))))
 have ⟨y1,hy1,h⟩:=bnd h
 refine .via (.iter (fun s1 E' W'=>∃ (v4 : Hd),aD E' [(0,(sv v_0)),(1,vi a1),(5,(sv v4)),(6,vi s1.2.1),(7,vi s1.2.2)] ∧ Sep No w W' [ae (sv v4) 3 1 (D.int .i64) s1.1]) (fun y2 x E' W'=>x = .exit 0 ∧ ∃ (v5 : Hd),aD E' [(5,(sv v5))] ∧ Sep No w W' [ae (sv v5) 3 1 (D.int .i64) y2]) hy1 ⟨v1,sb z,hS.to [0]⟩ ?_) ?_
 ·intro s1 y3 E W h hI
  obtain ⟨v3,hE,hS⟩:=hI
  refine CW.sub hE ?_
  unfold jH at h
  refine .seq (.g (.q z (.q z (.s (bF (hS.keep q_0) T.u78 z z) z (.q z (.nil ?_))))))
  refine .cs z h ?_ ?_ <;> intro h
  ·refine .skip (.seq (.block (.g (.q z (.q z (.c (.liv [s1.2.1] (D.int .i64) T.u23 T.t3 hS z z z z ?_ z (fun _=>z))))))))
   intro v6 W hS
   have ⟨r1,hr1,h⟩:=bnd h
   have hT0:=hS.p1
   refine .c (.av hr1 hT0 hT0.p1.lv (fun _=>z) T.u23 T.t3 z z z ?_)
   intro v7 W hS
   refine .qn z (.region (.q z (.q z (.q z ?_))))
   have ⟨x1,hx1,h⟩:=bnd h
   refine .s (ixv (hS.keep q_0) hx1 T.u78 T.t102 z z z) z (.s (lde (RV.flat (hS.keep q_0) hx1 z) T.t102 z z z z z) z (.q z ?_))
   have ⟨y4,hy4,h⟩:=bnd h
   refine .c (.cV hS Tryz.func157 (nH hy4) z z ?_)
   intro v8 W hS
   refine .s (bF hS.lv T.u66 z z) z (.q z (.qn z (.region (.q z (.q z (.q z (.nil ?_)))))))
   cases h
   exact ⟨z,v7,sb z,hS.to [1]⟩
  refine .exit ?_
  cases h
  exact ⟨by simp,z,v3,sb z,hS.to [0]⟩
 intro x E W hJ
 obtain ⟨rfl,v9,hE,hS⟩:=hJ
 refine ⟨_,hE.sub,?_⟩
 obtain rfl:=o9 h
 exact .g (.q z (.qn z (.ret (ab (vs:=[_]) v9 (rt z rn) z (hS.to [0])))))
theorem sn {a0 : List ah} {a1 : Int} {v_0 : Hd} {w : World} {r : (List Instr)} (h : jI a0 a1 = some r) (q_0 : RO w v_0 102 5 aK a0) : Cl 109 #[(sv v_0),vi a1] w (Ret No w (fun s : Hd=>(sv s)) (fun s=>[ae (sv s) 105 5 aw r])):=by
 unfold jI at h
 refine ar Tryz.func109 z z ?_
 have hS:=Sep.start w
 refine .g (.qn z (.g (.q z (.q z ?_))))
 have ⟨y1,hy1,h⟩:=bnd h
 refine .c (.cV hS Tryz.func156 (qk hy1 (hS.keep q_0)) z z ?_)
 intro v1 W hS
 refine .qn z (.g (.c (.liv [] aw T.u66 T.t105 hS z z z z ?_ z (fun _=>z))))
 intro v2 W hS
 refine .qn z (.seq (.g (.qn z (.block ?_))))
 have ⟨y2,hy2,h⟩:=bnd h
 refine .via (.iter (fun s1 E' W'=>∃ (v5 : Hd),aD E' [(0,(sv v_0)),(1,vi a1),(5,(sv v1)),(6,(sv v5)),(7,vi s1.2)] ∧ Sep No w W' [ae (sv v1) 3 1 (D.int .i64) y1,ae (sv v5) 105 5 aw s1.1]) (fun y3 x E' W'=>x = .exit 0 ∧ ∃ (v6 : Hd),aD E' [(6,(sv v6))] ∧ Sep No w W' [ae (sv v1) 3 1 (D.int .i64) y1,ae (sv v6) 105 5 aw y3]) hy2 ⟨v2,sb z,hS.to [1,0]⟩ ?_) ?_
 ·intro s1 y4 E W h hI
  obtain ⟨v4,hE,hS⟩:=hI
  refine CW.sub hE ?_
  unfold lh at h
  refine .seq (.g (.q z (.q z (.s (bF (hS.keep q_0) T.u78 z z) z (.q z (.nil ?_))))))
  refine .cs z h ?_ ?_ <;> intro h
  ·refine .skip (.seq (.block (.g (.q z (.nil ?_)))))
   have ⟨y5,hy5,h⟩:=bnd h
   refine .seq (CW.via (R':=fun x E' W'=>x = .normal ∧ aD E' [(0,(sv v_0)),(1,vi a1),(5,(sv v1)),(6,(sv v4)),(7,vi s1.2),(8,vi y5)] ∧ Sep No w W' [ae (sv v1) 3 1 (D.int .i64) y1,ae (sv v4) 105 5 aw s1.1]) ?_ ?_)
   ·have h:=hy5
    refine .g (.q z (.q z ?_))
    have ⟨x1,hx1,h⟩:=bnd h
    refine .s (ixv (hS.keep q_0) hx1 T.u78 T.t102 z z z) z (.s (fe T.f102_0 z z z) z (.s (lde (RV.flat (hS.keep q_0) hx1 z) T.t3 z z z z z) z (.q z (.q z ?_))))
    have ⟨b1,hb1,h⟩:=bnd h
    refine .cu 7 32 (b1) hS ?_ ?_
    ·refine .both (x1.Op == 4) (fun hb=>?_) (fun hb=>?_)
     ·refine .xx hb z (.xx hb z (.xx hb z (.xx hb z (.xx hb z (.xx hb z ?_)))))
      cases aF hb hb1
      exact .s (pkt hb z z z) z (.nil (ck 7 hS))
     have hg1:=hb
     have h:=aG hb hb1
     refine .g hg1 (.q z (.g hg1 (.q z ?_)))
     have ⟨x2,hx2,h⟩:=bnd h
     refine .g hg1 (.s (ixv (hS.keep q_0) hx2 T.u78 T.t102 z z z) z (.g hg1 (.s (fe T.f102_0 z z z) z (.g hg1 (.s (lde (RV.flat (hS.keep q_0) hx2 z) T.t3 z z z z z) z (.g hg1 (.q z (.s (pkf hg1 z z z) z ?_))))))))
     cases h
     exact .nil (ck 7 hS)
    intro W hS
    refine .nil ?_
    refine .cs z h ?_ ?_ <;> intro h
    ·refine .rk 15 hS [0,0] T.mix ?_
     intro W hS
     have hT:=hS.to [0,0]
     refine .tp' 0 z z hT (.tp' 1 z z hT (.tp' 2 z z hT ?_))
     have ⟨x3,hx3,h⟩:=bnd h
     refine .ts' 3 z (fun W hT=>ixv (hS.keep q_0) hx3 T.u78 T.t102 z z z) hT z (.ts' 4 z (fun W hT=>fe T.f102_4 z z z) hT z (.ts' 5 z (fun W hT=>lde (RV.flat (hT.keep q_0) hx3 z) T.t3 z z z z z) hT z ?_))
     have ⟨x4,hx4,h⟩:=bnd h
     refine .ts' 6 z (fun W hT=>ixv hS.lv hx4 T.u23 T.t3 z z z) hT z (.ts' 7 z (fun W hT=>lde (RV.flat hT.lv hx4 z) T.t3 z z z z z) hT z (.tp' 8 z z hT (.tp' 9 z z hT ?_)))
     have ⟨x5,hx5,h⟩:=bnd h
     refine .ts' 10 z (fun W hT=>ixv hS.lv hx5 T.u23 T.t3 z z z) hT z (.ts' 11 z (fun W hT=>lde (RV.flat hT.lv hx5 z) T.t3 z z z z z) hT z (.tp' 12 z z hT (.tp' 13 z z hT (.tp' 14 z z hT (.done ?_)))))
     cases h
     exact ⟨z,sb z,hS.to [0,0]⟩
    refine .skip ?_
    cases h
    exact ⟨z,sb z,hS.to [0,0]⟩
   intro x E W hJ
   obtain ⟨rfl,hE,hS⟩:=hJ
   refine ⟨_,hE.sub,?_⟩
   refine .region (.q z (.q z (.q z ?_)))
   have ⟨x6,hx6,h⟩:=bnd h
   refine .s (ixv (hS.keep q_0) hx6 T.u78 T.t102 z z z) z (.s (lde (RV.flat (hS.keep q_0) hx6 z) T.t102 z z z z z) z (.q z (.q z ?_)))
   have ⟨y6,hy6,h⟩:=bnd h
   refine .c (.cV hS Tryz.func157 (nH hy6) z z ?_)
   intro v7 W hS
   have ⟨r1,hr1,h⟩:=bnd h
   have hT0:=hS.p2
   refine .c (.av hr1 hT0 hT0.p1.lv (fun _=>z) T.u66 T.t105 z z z ?_)
   intro v8 W hS
   refine .qn z (.region (.q z (.q z (.q z (.nil ?_)))))
   cases h
   exact ⟨z,v8,sb z,hS.to [2,0]⟩
  refine .exit ?_
  cases h
  exact ⟨by simp,z,v4,sb z,hS.to [0,0]⟩
 intro x E W hJ
 obtain ⟨rfl,v9,hE,hS⟩:=hJ
 refine ⟨_,hE.sub,?_⟩
 obtain rfl:=o9 h
 exact .g (.q z (.qn z (.ret (ab (vs:=[_]) v9 (rt z rn) z (hS.to [1])))))
theorem rr {k : Nat} {a0 : aH} {aq : Hd} {g_0 : Nat} {S : Nat → Prop} {w : World} {r : (List (List Instr)) × Int} (h : iM k a0 = some r) (aE : RV w (Old S w) (sv aq) 5 1 (D.int .u8) a0.b) (hO : bO w [.box g_0 117 [(sv aq),vi a0.p]] S) (hlt : ∀ b,S b → b < w.heap.size) : Cl 61 #[pt g_0] w (Ret S w (fun s : Hd=>(sv s)) (fun s=>[.box g_0 117 [(sv aq),vi r.2],ae (sv s) 66 1 (fun (l : List Instr)=>D.row 105 5 (l.map aw)) r.1])):=by
 unfold iM at h
 refine ar Tryz.func61 z z ?_
 have hS:=Sep.sm hO hlt
 refine .g (.qn z (.g (.q z ?_)))
 have ⟨y1,hy1,h⟩:=bnd h
 refine .c (.cS (L0:=[.box g_0 117 [(sv aq),vi a0.p]]) hS Tryz.func40 (fun S h1 h2 h3=>(rp hy1 (hS.ks aE h1) h2 (zz h1))) z z ?_)
 rintro v1 W hS
 refine .qn z (.g (.q z ?_))
 have ⟨y2,hy2,h⟩:=bnd h
 refine .c (.cS (L0:=[.box g_0 117 [(sv aq),vi y1.2]]) hS Tryz.func39 (fun S h1 h2 h3=>(ak hy2 (hS.ks aE h1) h2 (zz h1))) z z ?_)
 rintro ⟨⟩ W hS
 refine .q z (.qn z (.g (.c (.lg (L1:=[]) [] (fun (l : List Instr)=>D.row 105 5 (l.map aw)) T.u24 T.t66 (hS.to [0,0]) z z z (.nil) ?_ z (fun _=>z)))))
 intro v2 W hS
 refine .qn z (.seq (.g (.qn z (.block ?_))))
 have ⟨y3,hy3,h⟩:=bnd h
 refine .via (.iter (fun s1 E' W'=>∃ (v5 : Hd),aD E' [(3,(sv v1)),(4,vi (w64 (1 + y2.1))),(5,(sv v5)),(6,vi s1.2)] ∧ Sep S w W' [.box g_0 117 [(sv aq),vi y2.2],ae (sv v1) 78 1 (fun (l : List ah)=>D.row 102 5 (l.map aK)) y1.1,ae (sv v5) 66 1 (fun (l : List Instr)=>D.row 105 5 (l.map aw)) s1.1]) (fun y4 x E' W'=>x = .exit 0 ∧ ∃ (v6 : Hd),aD E' [(5,(sv v6))] ∧ Sep S w W' [.box g_0 117 [(sv aq),vi y2.2],ae (sv v1) 78 1 (fun (l : List ah)=>D.row 102 5 (l.map aK)) y1.1,ae (sv v6) 66 1 (fun (l : List Instr)=>D.row 105 5 (l.map aw)) y4]) hy3 ⟨v2,sb z,hS.to [1,1,0]⟩ ?_) ?_
 ·intro s1 y5 E W h hI
  obtain ⟨v4,hE,hS⟩:=hI
  refine CW.sub hE ?_
  unfold ku at h
  refine .seq (.g (.q z (.q z (.s (bF hS.p1.lv T.u36 z z) z (.q z (.nil ?_))))))
  refine .cs z h ?_ ?_ <;> intro h
  ·refine .skip (.seq (.block (.region (.q z (.q z (.q z ?_))))))
   have ⟨x1,hx1,h⟩:=bnd h
   refine .s (ixv hS.p1.lv hx1 T.u36 T.t78 z z z) z ?_
   obtain ⟨k1,hS⟩:=Sep.ov hS.p1 hx1
   obtain ⟨v7,k1,rfl,hS⟩:=hS.ow
   obtain ⟨rfl,hS⟩:=hS.oN
   refine .s (lde (hS.p1.hcellsv) T.t78 z z z z z) z (.q z ?_)
   have ⟨y6,hy6,h⟩:=bnd h
   refine .c (.cV hS Tryz.func109 (sn hy6 hS.lv) z z ?_)
   intro v8 W hS
   refine .c (.lg (L1:=[ae (sv v8) 105 5 aw y6]) [y6] (fun (l : List Instr)=>D.row 105 5 (l.map aw)) T.u24 T.t66 (hS.to [0,0,0,0,0]) z z z (.row (.nil)) ?_ z (fun _=>z))
   intro v9 W hS
   have ⟨r1,hr1,h⟩:=bnd h
   refine .c (.appv hr1 (hS.to [4,0,0,0,0]) T.u24 T.t66 z z z ?_)
   intro v10 W hS
   refine .qn z (.region (.q z (.q z (.q z (.nil ?_)))))
   have hS:=Sep.gat (ds:=[.row 102 5 (x1.map aK)]) (cs:=[(sv v7)]) (L1:=[ae (sv v7) 102 5 aK x1]) (.row (.nil)) (hS.to [1,1,0,0])
   have hS : Sep _ _ _ [ae (sv v1) 78 1 (fun (l : List ah)=>D.row 102 5 (l.map aK)) y1.1,ae (sv v10) 66 1 (fun (l : List Instr)=>D.row 105 5 (l.map aw)) r1,.box g_0 117 [(sv aq),vi y2.2]]:=Sep.back0v hx1 hS
   cases h
   exact ⟨z,v10,sb z,hS.to [2,0,0]⟩
  refine .exit ?_
  cases h
  exact ⟨by simp,z,v4,sb z,hS.to [0,0,0]⟩
 intro x E W hJ
 obtain ⟨rfl,v11,hE,hS⟩:=hJ
 refine ⟨_,hE.sub,?_⟩
 cases h
 exact .g (.q z (.qn z (.ret (ab (vs:=[_]) v11 (rt z rn) z (hS.to [0,1])))))
theorem ou {k : Nat} {a0 : List Int} {v_0 : Hd} {w : World} {r : (List Int) × (List (List Instr))} (h : fX k a0 = some r) (q_0 : RO w v_0 5 1 (D.int .u8) a0) : Cl 27 #[(sv v_0)] w (Ret No w (fun s : Hd × Hd=>.tuple #[(sv s.1),(sv s.2)]) (fun s=>[ae (sv s.1) 3 1 (D.int .i64) r.1,po [((sv s.2),66,1,List.map (fun (l : List Instr)=>D.row 105 5 (l.map aw)) r.2)] []])):=by
 unfold fX at h
 refine ar Tryz.func27 z z ?_
 have hS:=Sep.start w
 have Q_0:=q_0
 refine .g (.q z (.qn z (.g (.q z ?_))))
 have ⟨y1,hy1,h⟩:=bnd h
 have hQ1:=hS
 refine .c (.call hS Tryz.func38 (tM hy1 (hS.keep q_0)) z z ?_)
 rintro ⟨g1,⟨v1,q1⟩⟩ W hS
 refine .qn z (.g (.q z ?_))
 have ⟨y2,hy2,h⟩:=bnd h
 refine .c (.cS (L0:=[.box g1 117 [(sv v1),vi y1.p]]) hS Tryz.func61 (fun S h1 h2 h3=>(rr hy2 (hS.ks (hQ1.wasA (q1 _ (hQ1.keepA q_0 Q_0))) h1) h2 (zz h1))) z z ?_)
 rintro v2 W hS
 refine .qn z (.g (.q z ?_))
 have ⟨y3,hy3,h⟩:=bnd h
 refine .c (.cS (L0:=[.box g1 117 [(sv v1),vi y2.2]]) hS Tryz.func39 (fun S h1 h2 h3=>(ak hy3 (hS.ks (hQ1.wasA (q1 _ (hQ1.keepA q_0 Q_0))) h1) h2 (zz h1))) z z ?_)
 rintro ⟨⟩ W hS
 refine .q z (.q z ?_)
 have ⟨y4,hy4,h⟩:=bnd h
 refine .c (.cS (L0:=[.box g1 117 [(sv v1),vi y3.2]]) hS Tryz.func39 (fun S h1 h2 h3=>(ak hy4 (hS.ks (hQ1.wasA (q1 _ (hQ1.keepA q_0 Q_0))) h1) h2 (zz h1))) z z ?_)
 rintro ⟨⟩ W hS
 refine .q z (.c (.liv [w64 (1 + y3.1),w64 (1 + y4.1)] (D.int .i64) T.u23 T.t3 hS z z z z ?_ z (fun _=>z)))
 intro v3 W hS
 refine .q z (.nil ?_)
 have ⟨y5,hy5,h⟩:=bnd h
 refine .seq (CW.via (R':=fun x E' W'=>x = .normal ∧ ∃ (v4 : Hd),aD E' [(5,(sv v4)),(6,(sv v3))] ∧ Sep No w W' [ae (sv v3) 3 1 (D.int .i64) y5.2.2,.box g1 117 [(sv v1),vi y5.2.1],po [((sv v4),66,1,List.map (fun (l : List Instr)=>D.row 105 5 (l.map aw)) y5.1)] []]) ?_ ?_)
 ·have h:=hy5
  refine .g (.q z ?_)
  have ⟨y6,hy6,h⟩:=bnd h
  have hS:=hS.p1
  refine .c (.cS (L0:=[.box g1 117 [(sv v1),vi y4.2]]) hS Tryz.func39 (fun S h1 h2 h3=>(ak hy6 (hS.ks (hQ1.wasA (q1 _ (hQ1.keepA q_0 Q_0))) h1) h2 (zz h1))) z z ?_)
  rintro ⟨⟩ W hS
  refine .nil (.block (.g (.q z (.q z (.nil ?_)))))
  refine .cs z h ?_ ?_ <;> intro h
  ·refine .region (.q z ?_)
   have ⟨x1,hx1,h⟩:=bnd h
   refine .s (ixv hS.p1.lv hx1 T.u23 T.t3 z z z) z ?_
   have ⟨r1,hr1,h⟩:=bnd h
   refine .c (.sev hr1 hx1 hS.p1 T.t3 z z z z z z ?_)
   intro W hS
   refine .nil ?_
   have hS : Sep _ _ _ [po [((sv v2),66,1,List.map (fun (l : List Instr)=>D.row 105 5 (l.map aw)) y2.1)] [],ae (sv v3) 3 1 (D.int .i64) r1,.box g1 117 [(sv v1),vi y6.2]]:=Sep.frz hS.p2
   cases h
   exact ⟨z,v2,sb z,hS.to [1,1,0]⟩
  refine .g (.q z (.q z (.nil ?_)))
  refine .cs z h ?_ ?_ <;> intro h
  ·have ⟨x2,hx2,h⟩:=bnd h
   obtain ⟨k1,hS⟩:=Sep.ov hS.p2 hx2
   obtain ⟨v5,k1,rfl,hS⟩:=hS.ow
   obtain ⟨rfl,hS⟩:=hS.oN
   have ⟨r2,hr2,h⟩:=bnd h
   have hS : Sep _ _ _ [AF (sv v2) 66 1 (List.map (fun (l : List Instr)=>D.row 105 5 (l.map aw)) y2.1) (Int.toNat 0) [(sv v5)] (.row 105 5 (x2.map aw)),.box g1 117 [(sv v1),vi y6.2],ae (sv v3) 3 1 (D.int .i64) [w64 (1 + y3.1),w64 (1 + y4.1)]]:=(Sep.gat (ds:=[.row 105 5 (x2.map aw)]) (cs:=[(sv v5)]) (L1:=[ae (sv v5) 105 5 aw x2]) (.row (.nil)) (hS.to [0,0,0,0])).mul
   refine .rm 11 (fun W=>Sep No w W [po [((sv v2),66,1,List.map (fun (l : List Instr)=>D.row 105 5 (l.map aw)) y2.1),((sv v5),105,5,List.map aw x2)] [((sv v2),Int.toNat 0 * 1,(sv v5))]]) hS T.mix ?_
   intro W hS
   have hT : Sep _ _ W [po [((sv v2),66,1,List.map (fun (l : List Instr)=>D.row 105 5 (l.map aw)) y2.1),((sv v5),105,5,List.map aw x2)] [((sv v2),Int.toNat 0 * 1,(sv v5))]]:=Sep.mulz hx2 z (hS.to [0])
   refine .tp 0 z (fun W=>pr z) hT (.tp 1 z (fun W=>pr z) hT (.tp 4 z (fun W=>pr z) hT (.tp 7 z (fun W=>pr z) hT (.tp 2 z (fun W=>ixv (hT.lendz 0 z) hx2 T.u24 T.t66 z z z) hT (.tp 5 z (fun W=>ixv (hT.lendz 0 z) hx2 T.u24 T.t66 z z z) hT (.tp 8 z (fun W=>ixv (hT.lendz 0 z) hx2 T.u24 T.t66 z z z) hT (.t1 3 10 z (fun W hT=>lde (hT.cellz 0 z) T.t66 z z z z z) hT (.t1 6 10 z (fun W hT=>lde (hT.cellz 0 z) T.t66 z z z z z) hT (.t1 9 10 z (fun W hT=>lde (hT.cellz 0 z) T.t66 z z z z z) hT (.by1 10 z (.lir (k:=3) hS T.u24 T.t66 z z z z ?_)) (by kernel_rfl) z z) (by kernel_rfl) z z) (by kernel_rfl) z z) (by kernel_rfl) z z) (by kernel_rfl) z z) (by kernel_rfl) z z) (by kernel_rfl) z z) (by kernel_rfl) z z) (by kernel_rfl) z z) (by kernel_rfl) z z
   intro v6 W hS
   refine ⟨fun _=>Sep.mulz hx2 z (hS.to [1]),?_⟩
   refine .byd 11 z (.apm hr2 hx2 hS T.u24 T.t66 z z z ?_)
   intro v7 W hS
   refine .byd 12 z (.runs (pr z) z z (.done ?_))
   cases h
   exact ⟨z,v7,sb z,hS.to [2,1,0]⟩
  refine .g (.q z (.q z (.nil ?_)))
  refine .cs z h ?_ ?_ <;> intro h
  ·refine .region (.q z (.q z ?_))
   have ⟨x3,hx3,h⟩:=bnd h
   refine .s (ixv hS.p2.lv hx3 T.u24 T.t66 z z z) z ?_
   obtain ⟨k2,hS⟩:=Sep.ov hS.p2 hx3
   obtain ⟨v8,k2,rfl,hS⟩:=hS.ow
   obtain ⟨rfl,hS⟩:=hS.oN
   refine .s (lde (hS.p1.hcellsv) T.t66 z z z z z) z (.s (bs T.s105 z z) z (.c (.liv [(Instr.mk 0 0 0 0 0)] aw T.u66 T.t105 hS z z z z ?_ z (fun _=>z))))
   intro v9 W hS
   have ⟨r3,hr3,h⟩:=bnd h
   have hT0:=hS.p1
   refine .c (.av hr3 hT0 hT0.p1.lv (fun _=>z) T.u66 T.t105 z z z ?_)
   intro v10 W hS
   refine .s (ixh hS.p2 hx3 T.u24 T.t66 z z z) z (.c (.sthv hS.p2 T.t66 z z z ?_))
   intro W hS
   refine .nil ?_
   have hS:=Sep.gat (ds:=[.row 105 5 (r3.map aw)]) (cs:=[(sv v10)]) (L1:=[ae (sv v10) 105 5 aw r3]) (.row (.nil)) (hS.to [1,0,0,0,0])
   have hS : Sep _ _ _ [ae (sv v2) 66 1 (fun (l : List Instr)=>D.row 105 5 (l.map aw)) (y2.1.set (Int.toNat 0) r3),ae (sv v9) 105 5 aw [(Instr.mk 0 0 0 0 0)],.box g1 117 [(sv v1),vi y6.2],ae (sv v3) 3 1 (D.int .i64) [w64 (1 + y3.1),w64 (1 + y4.1)]]:=hS.bv
   have hS : Sep _ _ _ [po [((sv v2),66,1,List.map (fun (l : List Instr)=>D.row 105 5 (l.map aw)) (y2.1.set (Int.toNat 0) r3))] [],ae (sv v9) 105 5 aw [(Instr.mk 0 0 0 0 0)],.box g1 117 [(sv v1),vi y6.2],ae (sv v3) 3 1 (D.int .i64) [w64 (1 + y3.1),w64 (1 + y4.1)]]:=Sep.frz hS
   cases h
   exact ⟨z,v2,sb z,hS.to [3,2,0]⟩
  refine .skip ?_
  have hS : Sep _ _ _ [po [((sv v2),66,1,List.map (fun (l : List Instr)=>D.row 105 5 (l.map aw)) y2.1)] [],.box g1 117 [(sv v1),vi y6.2],ae (sv v3) 3 1 (D.int .i64) [w64 (1 + y3.1),w64 (1 + y4.1)]]:=Sep.frz hS.p2
  cases h
  exact ⟨z,v2,sb z,hS.to [2,1,0]⟩
 intro x E W hJ
 obtain ⟨rfl,v11,hE,hS⟩:=hJ
 refine ⟨_,hE.sub,?_⟩
 cases h
 exact .g (.q z (.q z (.q z (.qn z (.ret (ab (vs:=[_,_]) (v3,v11) (rt z (rt z rn)) z (hS.to [0,1])))))))
theorem ox {k : Nat} {a0 : List Int} {v_0 : Hd} {w : World} {r : (List Int) × (List (List Instr))} (h : dG k a0 = some r) (q_0 : RO w v_0 5 1 (D.int .u8) a0) : Cl 10 #[(sv v_0)] w (Ret No w (fun s : Hd × Hd=>.tuple #[(sv s.1),(sv s.2)]) (fun s=>[ae (sv s.1) 3 1 (D.int .i64) r.1,po [((sv s.2),66,1,List.map (fun (l : List Instr)=>D.row 105 5 (l.map aw)) r.2)] []])):=by
 unfold dG at h
 refine ar Tryz.func10 z z ?_
 have hS:=Sep.start w
 refine .g (.q z (.qn z (.g (.q z ?_))))
 have ⟨y1,hy1,h⟩:=bnd h
 refine .c (.call hS Tryz.func27 (ou hy1 (hS.keep q_0)) z z ?_)
 rintro ⟨v1,v2⟩ W hS
 cases h
 exact .q z (.q z (.q z (.qn z (.ret (ab (vs:=[_,_]) (v1,v2) (rt z (rt z rn)) z (hS.to [0,0]))))))
def ql (w : World) (r : Bool) : Env → World → Prop:=Fin Tryz.prog Tryz.f28 No w (fun s : Unit=>.bool r) (fun s=>[]) .ret
theorem pD {a0 : List Int} {v_0 : Hd} {w : World} {r : Bool} (h : fJ a0 = some r) (q_0 : RO w v_0 3 1 (D.int .i64) a0) : Cl 28 #[(sv v_0)] w (RU w (.bool r)):=by
 unfold fJ at h
 refine ar Tryz.func28 z z ?_
 have hS:=Sep.start w
 refine .g (.qn z (.seq (.g (.q z (.s (bF (hS.keep q_0) T.u23 z z) z (.qn z (.block ?_)))))))
 have ⟨y1,hy1,h⟩:=bnd h
 refine .via (.iter (fun s1 E' W'=>aD E' [(0,(sv v_0)),(5,(sv v_0)),(6,vi (a0.length : Int)),(7,vi s1)] ∧ Sep No w W' []) (fun y2 x E' W'=>(match y2 with | .inl o1=>x = .ret ∧ ql w o1 E' W' | .inr o2=>x = .exit 0 ∧ aD E' [(0,(sv v_0))] ∧ Sep No w W' [])) hy1 ⟨sb rfl,hS.to [] rfl⟩ ?_) ?_
 ·intro s1 y3 E W h hI
  obtain ⟨hE,hS⟩:=hI
  refine CW.sub hE ?_
  unfold dj at h
  refine .g (.qn z (.seq ?_))
  refine .cs z h ?_ ?_ <;> intro h
  ·refine .skip (.seq (.block (.seq (.region ?_))))
   have ⟨x1,hx1,h⟩:=bnd h
   refine .s (ixv (hS.keep q_0) hx1 T.u23 T.t3 z z z) z (.s (lde (RV.flat (hS.keep q_0) hx1 z) T.t3 z z z z z) z (.qn z (.g (.q z (.q z (.q z (.cu 3 16 ((decide (x1 < 1)) || (decide (x1 > 4))) hS ?_ ?_)))))))
   ·refine .both (decide (x1 < 1)) (fun hb=>?_) (fun hb=>?_)
    ·exact .xx hb z (.xx hb z (.s (pkt hb z z z) z (.nil (ck 3 hS z (kL hb)))))
    have hg1:=hb
    exact .g hg1 (.q z (.g hg1 (.q z (.s (pkf hg1 z z z) z (.nil (ck 3 hS z (kM hg1)))))))
   intro W hS
   refine .nil ?_
   refine .cs z h ?_ ?_ <;> intro h
   ·refine .g (.qn z (.ret ?_))
    cases h
    exact ⟨by simp,z,ab (vs:=[_]) () (rt z rn) z (hS.to [])⟩
   refine .skip (.region (.q z (.q z (.nil ?_))))
   cases h
   exact ⟨z,sb z,hS.to []⟩
  refine .exit ?_
  cases h
  exact ⟨by simp,z,sb z,hS.to []⟩
 intro x E W hJ
 rcases y1 with o3 | o4
 ·obtain ⟨rfl,hF⟩:=hJ
  refine ⟨_,fun _ _ h=>h,?_⟩
  cases h
  exact hF
 obtain ⟨rfl,hE,hS⟩:=hJ
 refine ⟨_,hE.sub,?_⟩
 cases h
 exact .g (.q z (.s (bF (hS.keep q_0) T.u23 z z) z (.q z (.qn z (.ret (ab (vs:=[_]) () (rt z rn) z (hS.to [])))))))
theorem hZ {a0 : Int} {w : World} {r : Int} (h : bw a0 = some r) : Cl 114 #[vi a0] w (RU w (.int .u8 r)):=by
 unfold bw at h
 refine ar Tryz.func114 z z ?_
 have hS:=Sep.start w
 refine .g (.qn z (.seq (.block (.g (.q z (.q z (.q z (.cu 3 9 ((decide (a0 ≥ 1)) && (decide (a0 ≤ 11))) hS ?_ ?_))))))))
 ·refine .both (decide (a0 ≥ 1)) (fun hb=>?_) (fun hb=>?_)
  ·have hg1:=hb
   exact .g hg1 (.q z (.g hg1 (.q z (.s (pkt hg1 z z z) z (.nil (ck 3 hS z (bR hg1)))))))
  exact .xx hb z (.xx hb z (.s (pkf hb z z z) z (.nil (ck 3 hS z (bS hb)))))
 intro W hS
 refine .q z (.nil ?_)
 refine .cs z h ?_ ?_ <;> intro h
 ·cases h
  exact .g (.qn z (.ret (ab (vs:=[_]) () (rt z rn) z (hS.to []))))
 refine .g (.q z (.q z (.q z (.cu 3 16 ((decide (a0 ≥ 12)) && (decide (a0 ≤ 15))) hS ?_ ?_))))
 ·refine .both (decide (a0 ≥ 12)) (fun hb=>?_) (fun hb=>?_)
  ·have hg2:=hb
   exact .g hg2 (.q z (.g hg2 (.q z (.s (pkt hg2 z z z) z (.nil (ck 3 hS z (bR hg2)))))))
  exact .xx hb z (.xx hb z (.s (pkf hb z z z) z (.nil (ck 3 hS z (bS hb)))))
 intro W hS
 refine .q z (.nil ?_)
 refine .cs z h ?_ ?_ <;> intro h
 ·cases h
  exact .g (.qn z (.ret (ab (vs:=[_]) () (rt z rn) z (hS.to []))))
 refine .g (.q z (.q z (.q z (.nil ?_))))
 refine .cs z h ?_ ?_ <;> intro h
 ·cases h
  exact .g (.qn z (.ret (ab (vs:=[_]) () (rt z rn) z (hS.to []))))
 refine .g (.q z (.q z (.q z (.cu 3 26 ((a0 == 17) || (a0 == 18)) hS ?_ ?_))))
 ·refine .both (a0 == 17) (fun hb=>?_) (fun hb=>?_)
  ·exact .xx hb z (.xx hb z (.s (pkt hb z z z) z (.nil (ck 3 hS z (kL hb)))))
  have hg3:=hb
  exact .g hg3 (.q z (.g hg3 (.q z (.s (pkf hg3 z z z) z (.nil (ck 3 hS z (kM hg3)))))))
 intro W hS
 refine .q z (.nil ?_)
 refine .cs z h ?_ ?_ <;> intro h
 ·cases h
  exact .g (.qn z (.ret (ab (vs:=[_]) () (rt z rn) z (hS.to []))))
 refine .g (.q z (.q z (.q z (.nil ?_))))
 refine .cs z h ?_ ?_ <;> intro h
 ·cases h
  exact .g (.qn z (.ret (ab (vs:=[_]) () (rt z rn) z (hS.to []))))
 refine .g (.q z (.q z (.q z (.nil ?_))))
 refine .cs z h ?_ ?_ <;> intro h
 ·cases h
  exact .g (.qn z (.ret (ab (vs:=[_]) () (rt z rn) z (hS.to []))))
 refine .g (.q z (.q z (.q z (.nil ?_))))
 refine .cs z h ?_ ?_ <;> intro h
 ·cases h
  exact .g (.qn z (.ret (ab (vs:=[_]) () (rt z rn) z (hS.to []))))
 cases h
 exact .skip (.g (.qn z (.ret (ab (vs:=[_]) () (rt z rn) z (hS.to [])))))
theorem gA {a0 : Int} {w : World} {r : Bool} (h : cj a0 = some r) : Cl 158 #[vi a0] w (RU w (.bool r)):=by
 unfold cj at h
 refine ar Tryz.func158 z z ?_
 have hS:=Sep.start w
 refine .g (.qn z (.g (.q z (.q z (.q z (.cu 3 8 ((decide (a0 ≥ 0)) && (decide (a0 < 32))) hS ?_ ?_))))))
 ·refine .both (decide (a0 ≥ 0)) (fun hb=>?_) (fun hb=>?_)
  ·have hg1:=hb
   exact .g hg1 (.q z (.g hg1 (.q z (.s (pkt hg1 z z z) z (.nil (ck 3 hS z (bR hg1)))))))
  exact .xx hb z (.xx hb z (.s (pkf hb z z z) z (.nil (ck 3 hS z (bS hb)))))
 intro W hS
 cases h
 exact .qn z (.ret (ab (vs:=[_]) () (rt z rn) z (hS.to [])))
theorem pE {a0 : Instr} {w : World} {r : Bool} (h : bf a0 = some r) : Cl 110 #[.agg #[vi a0.Op,vi a0.Rd,vi a0.Rs,vi a0.Rt,vi a0.Imm]] w (RU w (.bool r)):=by
 unfold bf at h
 refine ar Tryz.func110 z z ?_
 have hS:=Sep.start w
 refine .g (.c (.box hS z z ?_))
 intro g1 W hS
 refine .qn z (.seq (.rk 12 hS [0] T.mix ?_))
 intro W hS
 have hT:=hS.to [0]
 refine .ts' 0 z (fun W hT=>fa T.f105_1 z z z) hT z (.ts' 1 z (fun W hT=>ld T.t3 hT z z z z z) hT z (.ts' 3 z (fun W hT=>fa T.f105_2 z z z) hT z (.ts' 4 z (fun W hT=>ld T.t3 hT z z z z z) hT z (.ts' 6 z (fun W hT=>fa T.f105_3 z z z) hT z (.ts' 7 z (fun W hT=>ld T.t3 hT z z z z z) hT z ?_)))))
 have ⟨y1,hy1,h⟩:=bnd h
 refine .by1 2 z (.cO hS Tryz.func158 (gA hy1) z z ?_)
 intro W hS
 have hT:=hS.to [0]
 refine ⟨fun _=>hT,?_⟩
 have ⟨y2,hy2,h⟩:=bnd h
 refine .by1 5 z (.cO hS Tryz.func158 (gA hy2) z z ?_)
 intro W hS
 have hT:=hS.to [0]
 refine ⟨fun _=>hT,?_⟩
 have ⟨y3,hy3,h⟩:=bnd h
 refine .by1 8 z (.cO hS Tryz.func158 (gA hy3) z z ?_)
 intro W hS
 have hT:=hS.to [0]
 refine ⟨fun _=>hT,.tp' 9 z z hT (.tp' 10 z z hT (.tp' 11 z z hT (.done (.g (.s (fa T.f105_4 z z z) z (.s (ld T.t3 hS z z z z z) z (.q z (.q z (.cu 4 23 ((decide (a0.Imm ≥ (-2048))) && (decide (a0.Imm ≤ 2047))) hS ?_ ?_)))))))))⟩
 ·refine .both (decide (a0.Imm ≥ (-2048))) (fun hb=>?_) (fun hb=>?_)
  ·have hg1:=hb
   exact .g hg1 (.s (fa T.f105_4 z z z) z (.g hg1 (.s (ld T.t3 hS z z z z z) z (.g hg1 (.q z (.s (pkt hg1 z z z) z (.nil (ck 4 hS z (bR hg1)))))))))
  exact .xx hb z (.xx hb z (.xx hb z (.s (pkf hb z z z) z (.nil (ck 4 hS z (bS hb))))))
 intro W hS
 refine .qn z (.seq (.g (.s (fa T.f105_0 z z z) z (.s (ld T.t3 hS z z z z z) z ?_))))
 have ⟨y4,hy4,h⟩:=bnd h
 refine .c (.cO hS Tryz.func114 (hZ hy4) z z ?_)
 intro W hS
 refine .nil (.block (.g (.q z (.q z (.nil ?_)))))
 refine .cs z h ?_ ?_ <;> intro h
 ·refine .g (.q z (.q z (.cu 2 32 (y1 && y2) hS ?_ ?_)))
  ·refine .both (y1) (fun hb=>?_) (fun hb=>?_)
   ·have hg2:=hb
    exact .g hg2 (.q z (.s (pkt hg2 z z z) z (.nil (ck 2 hS z (bR hg2)))))
   exact .xx hb z (.s (pkf hb z z z) z (.nil (ck 2 hS z (bS hb))))
  intro W hS
  refine .q z (.cu 2 35 ((y1 && y2) && y3) hS ?_ ?_)
  ·refine .both (y1 && y2) (fun hb=>?_) (fun hb=>?_)
   ·have hg3:=hb
    exact .g hg3 (.q z (.s (pkt hg3 z z z) z (.nil (ck 2 hS z (bR hg3)))))
   exact .xx hb z (.s (pkf hb z z z) z (.nil (ck 2 hS z (bS hb))))
  intro W hS
  refine .q z (.cu 4 40 (((y1 && y2) && y3) && (a0.Imm == 0)) hS ?_ ?_)
  ·refine .both ((y1 && y2) && y3) (fun hb=>?_) (fun hb=>?_)
   ·have hg4:=hb
    exact .g hg4 (.s (fa T.f105_4 z z z) z (.g hg4 (.s (ld T.t3 hS z z z z z) z (.g hg4 (.q z (.s (pkt hg4 z z z) z (.nil (ck 4 hS z (bR hg4)))))))))
   exact .xx hb z (.xx hb z (.xx hb z (.s (pkf hb z z z) z (.nil (ck 4 hS z (bS hb))))))
  intro W hS
  cases h
  exact .qn z (.ret (ab (vs:=[_]) () (rt z rn) z (hS.to [])))
 refine .g (.q z (.q z (.nil ?_)))
 refine .cs z h ?_ ?_ <;> intro h
 ·refine .g (.q z (.q z (.cu 2 46 (y1 && y2) hS ?_ ?_)))
  ·refine .both (y1) (fun hb=>?_) (fun hb=>?_)
   ·have hg5:=hb
    exact .g hg5 (.q z (.s (pkt hg5 z z z) z (.nil (ck 2 hS z (bR hg5)))))
   exact .xx hb z (.s (pkf hb z z z) z (.nil (ck 2 hS z (bS hb))))
  intro W hS
  refine .q z (.cu 4 51 ((y1 && y2) && (a0.Rt == 0)) hS ?_ ?_)
  ·refine .both (y1 && y2) (fun hb=>?_) (fun hb=>?_)
   ·have hg6:=hb
    exact .g hg6 (.s (fa T.f105_3 z z z) z (.g hg6 (.s (ld T.t3 hS z z z z z) z (.g hg6 (.q z (.s (pkt hg6 z z z) z (.nil (ck 4 hS z (bR hg6)))))))))
   exact .xx hb z (.xx hb z (.xx hb z (.s (pkf hb z z z) z (.nil (ck 4 hS z (bS hb))))))
  intro W hS
  refine .q z (.cu 2 54 (((y1 && y2) && (a0.Rt == 0)) && ((decide (a0.Imm ≥ (-2048))) && (decide (a0.Imm ≤ 2047)))) hS ?_ ?_)
  ·refine .both ((y1 && y2) && (a0.Rt == 0)) (fun hb=>?_) (fun hb=>?_)
   ·have hg7:=hb
    exact .g hg7 (.q z (.s (pkt hg7 z z z) z (.nil (ck 2 hS z (bR hg7)))))
   exact .xx hb z (.s (pkf hb z z z) z (.nil (ck 2 hS z (bS hb))))
  intro W hS
  cases h
  exact .qn z (.ret (ab (vs:=[_]) () (rt z rn) z (hS.to [])))
 refine .g (.q z (.q z (.nil ?_)))
 refine .cs z h ?_ ?_ <;> intro h
 ·refine .g (.s (fa T.f105_1 z z z) z (.s (ld T.t3 hS z z z z z) z (.q z (.q z (.cu 2 62 ((a0.Rd == 0) && y2) hS ?_ ?_)))))
  ·refine .both (a0.Rd == 0) (fun hb=>?_) (fun hb=>?_)
   ·have hg8:=hb
    exact .g hg8 (.q z (.s (pkt hg8 z z z) z (.nil (ck 2 hS z (bR hg8)))))
   exact .xx hb z (.s (pkf hb z z z) z (.nil (ck 2 hS z (bS hb))))
  intro W hS
  refine .q z (.cu 2 65 (((a0.Rd == 0) && y2) && y3) hS ?_ ?_)
  ·refine .both ((a0.Rd == 0) && y2) (fun hb=>?_) (fun hb=>?_)
   ·have hg9:=hb
    exact .g hg9 (.q z (.s (pkt hg9 z z z) z (.nil (ck 2 hS z (bR hg9)))))
   exact .xx hb z (.s (pkf hb z z z) z (.nil (ck 2 hS z (bS hb))))
  intro W hS
  refine .q z (.cu 2 68 ((((a0.Rd == 0) && y2) && y3) && ((decide (a0.Imm ≥ (-2048))) && (decide (a0.Imm ≤ 2047)))) hS ?_ ?_)
  ·refine .both (((a0.Rd == 0) && y2) && y3) (fun hb=>?_) (fun hb=>?_)
   ·have hg10:=hb
    exact .g hg10 (.q z (.s (pkt hg10 z z z) z (.nil (ck 2 hS z (bR hg10)))))
   exact .xx hb z (.s (pkf hb z z z) z (.nil (ck 2 hS z (bS hb))))
  intro W hS
  cases h
  exact .qn z (.ret (ab (vs:=[_]) () (rt z rn) z (hS.to [])))
 refine .g (.q z (.q z (.nil ?_)))
 refine .cs z h ?_ ?_ <;> intro h
 ·refine .g (.s (fa T.f105_1 z z z) z (.s (ld T.t3 hS z z z z z) z (.q z (.q z (.cu 2 76 ((a0.Rd == 0) && y2) hS ?_ ?_)))))
  ·refine .both (a0.Rd == 0) (fun hb=>?_) (fun hb=>?_)
   ·have hg11:=hb
    exact .g hg11 (.q z (.s (pkt hg11 z z z) z (.nil (ck 2 hS z (bR hg11)))))
   exact .xx hb z (.s (pkf hb z z z) z (.nil (ck 2 hS z (bS hb))))
  intro W hS
  refine .q z (.cu 2 79 (((a0.Rd == 0) && y2) && y3) hS ?_ ?_)
  ·refine .both ((a0.Rd == 0) && y2) (fun hb=>?_) (fun hb=>?_)
   ·have hg12:=hb
    exact .g hg12 (.q z (.s (pkt hg12 z z z) z (.nil (ck 2 hS z (bR hg12)))))
   exact .xx hb z (.s (pkf hb z z z) z (.nil (ck 2 hS z (bS hb))))
  intro W hS
  refine .q z (.cu 4 84 ((((a0.Rd == 0) && y2) && y3) && (decide (a0.Imm ≥ (-4096)))) hS ?_ ?_)
  ·refine .both (((a0.Rd == 0) && y2) && y3) (fun hb=>?_) (fun hb=>?_)
   ·have hg13:=hb
    exact .g hg13 (.s (fa T.f105_4 z z z) z (.g hg13 (.s (ld T.t3 hS z z z z z) z (.g hg13 (.q z (.s (pkt hg13 z z z) z (.nil (ck 4 hS z (bR hg13)))))))))
   exact .xx hb z (.xx hb z (.xx hb z (.s (pkf hb z z z) z (.nil (ck 4 hS z (bS hb))))))
  intro W hS
  refine .q z (.cu 4 89 (((((a0.Rd == 0) && y2) && y3) && (decide (a0.Imm ≥ (-4096)))) && (decide (a0.Imm ≤ 4094))) hS ?_ ?_)
  ·refine .both ((((a0.Rd == 0) && y2) && y3) && (decide (a0.Imm ≥ (-4096)))) (fun hb=>?_) (fun hb=>?_)
   ·have hg14:=hb
    exact .g hg14 (.s (fa T.f105_4 z z z) z (.g hg14 (.s (ld T.t3 hS z z z z z) z (.g hg14 (.q z (.s (pkt hg14 z z z) z (.nil (ck 4 hS z (bR hg14)))))))))
   exact .xx hb z (.xx hb z (.xx hb z (.s (pkf hb z z z) z (.nil (ck 4 hS z (bS hb))))))
  intro W hS
  refine .q z (.cu 5 95 ((((((a0.Rd == 0) && y2) && y3) && (decide (a0.Imm ≥ (-4096)))) && (decide (a0.Imm ≤ 4094))) && ((Int.tmod a0.Imm 2) == 0)) hS ?_ ?_)
  ·refine .both (((((a0.Rd == 0) && y2) && y3) && (decide (a0.Imm ≥ (-4096)))) && (decide (a0.Imm ≤ 4094))) (fun hb=>?_) (fun hb=>?_)
   ·have hg15:=hb
    exact .g hg15 (.s (fa T.f105_4 z z z) z (.g hg15 (.s (ld T.t3 hS z z z z z) z (.g hg15 (.q z (.g hg15 (.q z (.s (pkt hg15 z z z) z (.nil (ck 5 hS z (bR hg15)))))))))))
   exact .xx hb z (.xx hb z (.xx hb z (.xx hb z (.s (pkf hb z z z) z (.nil (ck 5 hS z (bS hb)))))))
  intro W hS
  cases h
  exact .qn z (.ret (ab (vs:=[_]) () (rt z rn) z (hS.to [])))
 refine .g (.q z (.q z (.nil ?_)))
 refine .cs z h ?_ ?_ <;> intro h
 ·refine .g (.q z (.q z (.cu 4 103 (y1 && (a0.Rs == 0)) hS ?_ ?_)))
  ·refine .both (y1) (fun hb=>?_) (fun hb=>?_)
   ·have hg16:=hb
    exact .g hg16 (.s (fa T.f105_2 z z z) z (.g hg16 (.s (ld T.t3 hS z z z z z) z (.g hg16 (.q z (.s (pkt hg16 z z z) z (.nil (ck 4 hS z (bR hg16)))))))))
   exact .xx hb z (.xx hb z (.xx hb z (.s (pkf hb z z z) z (.nil (ck 4 hS z (bS hb))))))
  intro W hS
  refine .q z (.cu 4 108 ((y1 && (a0.Rs == 0)) && (a0.Rt == 0)) hS ?_ ?_)
  ·refine .both (y1 && (a0.Rs == 0)) (fun hb=>?_) (fun hb=>?_)
   ·have hg17:=hb
    exact .g hg17 (.s (fa T.f105_3 z z z) z (.g hg17 (.s (ld T.t3 hS z z z z z) z (.g hg17 (.q z (.s (pkt hg17 z z z) z (.nil (ck 4 hS z (bR hg17)))))))))
   exact .xx hb z (.xx hb z (.xx hb z (.s (pkf hb z z z) z (.nil (ck 4 hS z (bS hb))))))
  intro W hS
  refine .q z (.cu 4 113 (((y1 && (a0.Rs == 0)) && (a0.Rt == 0)) && (decide (a0.Imm ≥ 0))) hS ?_ ?_)
  ·refine .both ((y1 && (a0.Rs == 0)) && (a0.Rt == 0)) (fun hb=>?_) (fun hb=>?_)
   ·have hg18:=hb
    exact .g hg18 (.s (fa T.f105_4 z z z) z (.g hg18 (.s (ld T.t3 hS z z z z z) z (.g hg18 (.q z (.s (pkt hg18 z z z) z (.nil (ck 4 hS z (bR hg18)))))))))
   exact .xx hb z (.xx hb z (.xx hb z (.s (pkf hb z z z) z (.nil (ck 4 hS z (bS hb))))))
  intro W hS
  refine .q z (.cu 4 118 ((((y1 && (a0.Rs == 0)) && (a0.Rt == 0)) && (decide (a0.Imm ≥ 0))) && (decide (a0.Imm ≤ 1048575))) hS ?_ ?_)
  ·refine .both (((y1 && (a0.Rs == 0)) && (a0.Rt == 0)) && (decide (a0.Imm ≥ 0))) (fun hb=>?_) (fun hb=>?_)
   ·have hg19:=hb
    exact .g hg19 (.s (fa T.f105_4 z z z) z (.g hg19 (.s (ld T.t3 hS z z z z z) z (.g hg19 (.q z (.s (pkt hg19 z z z) z (.nil (ck 4 hS z (bR hg19)))))))))
   exact .xx hb z (.xx hb z (.xx hb z (.s (pkf hb z z z) z (.nil (ck 4 hS z (bS hb))))))
  intro W hS
  cases h
  exact .qn z (.ret (ab (vs:=[_]) () (rt z rn) z (hS.to [])))
 refine .g (.q z (.q z (.nil ?_)))
 refine .cs z h ?_ ?_ <;> intro h
 ·refine .g (.q z (.q z (.cu 4 126 (y1 && (a0.Rs == 0)) hS ?_ ?_)))
  ·refine .both (y1) (fun hb=>?_) (fun hb=>?_)
   ·have hg20:=hb
    exact .g hg20 (.s (fa T.f105_2 z z z) z (.g hg20 (.s (ld T.t3 hS z z z z z) z (.g hg20 (.q z (.s (pkt hg20 z z z) z (.nil (ck 4 hS z (bR hg20)))))))))
   exact .xx hb z (.xx hb z (.xx hb z (.s (pkf hb z z z) z (.nil (ck 4 hS z (bS hb))))))
  intro W hS
  refine .q z (.cu 4 131 ((y1 && (a0.Rs == 0)) && (a0.Rt == 0)) hS ?_ ?_)
  ·refine .both (y1 && (a0.Rs == 0)) (fun hb=>?_) (fun hb=>?_)
   ·have hg21:=hb
    exact .g hg21 (.s (fa T.f105_3 z z z) z (.g hg21 (.s (ld T.t3 hS z z z z z) z (.g hg21 (.q z (.s (pkt hg21 z z z) z (.nil (ck 4 hS z (bR hg21)))))))))
   exact .xx hb z (.xx hb z (.xx hb z (.s (pkf hb z z z) z (.nil (ck 4 hS z (bS hb))))))
  intro W hS
  refine .q z (.cu 4 136 (((y1 && (a0.Rs == 0)) && (a0.Rt == 0)) && (decide (a0.Imm ≥ (-1048576)))) hS ?_ ?_)
  ·refine .both ((y1 && (a0.Rs == 0)) && (a0.Rt == 0)) (fun hb=>?_) (fun hb=>?_)
   ·have hg22:=hb
    exact .g hg22 (.s (fa T.f105_4 z z z) z (.g hg22 (.s (ld T.t3 hS z z z z z) z (.g hg22 (.q z (.s (pkt hg22 z z z) z (.nil (ck 4 hS z (bR hg22)))))))))
   exact .xx hb z (.xx hb z (.xx hb z (.s (pkf hb z z z) z (.nil (ck 4 hS z (bS hb))))))
  intro W hS
  refine .q z (.cu 4 141 ((((y1 && (a0.Rs == 0)) && (a0.Rt == 0)) && (decide (a0.Imm ≥ (-1048576)))) && (decide (a0.Imm ≤ 1048574))) hS ?_ ?_)
  ·refine .both (((y1 && (a0.Rs == 0)) && (a0.Rt == 0)) && (decide (a0.Imm ≥ (-1048576)))) (fun hb=>?_) (fun hb=>?_)
   ·have hg23:=hb
    exact .g hg23 (.s (fa T.f105_4 z z z) z (.g hg23 (.s (ld T.t3 hS z z z z z) z (.g hg23 (.q z (.s (pkt hg23 z z z) z (.nil (ck 4 hS z (bR hg23)))))))))
   exact .xx hb z (.xx hb z (.xx hb z (.s (pkf hb z z z) z (.nil (ck 4 hS z (bS hb))))))
  intro W hS
  refine .q z (.cu 5 147 (((((y1 && (a0.Rs == 0)) && (a0.Rt == 0)) && (decide (a0.Imm ≥ (-1048576)))) && (decide (a0.Imm ≤ 1048574))) && ((Int.tmod a0.Imm 2) == 0)) hS ?_ ?_)
  ·refine .both ((((y1 && (a0.Rs == 0)) && (a0.Rt == 0)) && (decide (a0.Imm ≥ (-1048576)))) && (decide (a0.Imm ≤ 1048574))) (fun hb=>?_) (fun hb=>?_)
   ·have hg24:=hb
    exact .g hg24 (.s (fa T.f105_4 z z z) z (.g hg24 (.s (ld T.t3 hS z z z z z) z (.g hg24 (.q z (.g hg24 (.q z (.s (pkt hg24 z z z) z (.nil (ck 5 hS z (bR hg24)))))))))))
   exact .xx hb z (.xx hb z (.xx hb z (.xx hb z (.s (pkf hb z z z) z (.nil (ck 5 hS z (bS hb)))))))
  intro W hS
  cases h
  exact .qn z (.ret (ab (vs:=[_]) () (rt z rn) z (hS.to [])))
 refine .g (.q z (.q z (.nil ?_)))
 refine .cs z h ?_ ?_ <;> intro h
 ·cases h
  exact .g (.s (ld T.t105 hS z z z z z) z (.s (bs T.s105 z z) z (.s (eqs T.e105 z z z z) z (.qn z (.ret (ab (vs:=[_]) () (rt z rn) z (hS.to [])))))))
 obtain rfl:=o9 h
 exact .skip (.g (.qn z (.ret (ab (vs:=[_]) () (rt z rn) z (hS.to [])))))
theorem jW {a0 : Int} {w : World} {r : Bool} (h : co a0 = some r) : Cl 105 #[vi a0] w (RU w (.bool r)):=by
 unfold co at h
 refine ar Tryz.func105 z z ?_
 have hS:=Sep.start w
 refine .g (.qn z (.g (.q z (.q z (.q z (.cu 3 8 ((decide (a0 ≥ (-2147483648))) && (decide (a0 ≤ 2147483647))) hS ?_ ?_))))))
 ·refine .both (decide (a0 ≥ (-2147483648))) (fun hb=>?_) (fun hb=>?_)
  ·have hg1:=hb
   exact .g hg1 (.q z (.g hg1 (.q z (.s (pkt hg1 z z z) z (.nil (ck 3 hS z (bR hg1)))))))
  exact .xx hb z (.xx hb z (.s (pkf hb z z z) z (.nil (ck 3 hS z (bS hb)))))
 intro W hS
 cases h
 exact .qn z (.ret (ab (vs:=[_]) () (rt z rn) z (hS.to [])))
theorem ia {a0 : Int} {w : World} {r : Int} (h : bG a0 = some r) : Cl 111 #[vi a0] w (RU w (.int .i64 r)):=by
 unfold bG at h
 refine ar Tryz.func111 z z ?_
 have hS:=Sep.start w
 refine .g (.qn z (.seq (.g (.q z ?_))))
 have ⟨y1,hy1,h⟩:=bnd h
 refine .c (.cO hS Tryz.func105 (jW hy1) z z ?_)
 intro W hS
 refine .q z (.nil ?_)
 refine .cs z h ?_ ?_ <;> intro h
 ·cases h
  exact .g (.qn z (.ret (ab (vs:=[_]) () (rt z rn) z (hS.to []))))
 cases h
 exact .skip (.g (.q z (.s (cv T.u3 T.u183 z z) z (.s (cv T.u183 T.u3 z z) z (.qn z (.ret (ab (vs:=[_]) () (rt z rn) z (hS.to []))))))))
theorem me {a0 : Int} {w : World} {r : Bool} (h : dJ a0 = some r) : Cl 159 #[vi a0] w (RU w (.bool r)):=by
 unfold dJ at h
 refine ar Tryz.func159 z z ?_
 have hS:=Sep.start w
 refine .g (.qn z (.g (.q z (.q z (.q z (.cu 3 8 ((decide (a0 ≥ 0)) && (decide (a0 < 4294967296))) hS ?_ ?_))))))
 ·refine .both (decide (a0 ≥ 0)) (fun hb=>?_) (fun hb=>?_)
  ·have hg1:=hb
   exact .g hg1 (.q z (.g hg1 (.q z (.s (pkt hg1 z z z) z (.nil (ck 3 hS z (bR hg1)))))))
  exact .xx hb z (.xx hb z (.s (pkf hb z z z) z (.nil (ck 3 hS z (bS hb)))))
 intro W hS
 cases h
 exact .qn z (.ret (ab (vs:=[_]) () (rt z rn) z (hS.to [])))
theorem bN {a0 : Int} {a1 : Int} {a2 : Int} {w : World} {r : Int} (h : bj a0 a1 a2 = some r) : Cl 113 #[vi a0,vi a1,vi a2] w (RU w (.int .i64 r)):=by
 unfold bj at h
 refine ar Tryz.func113 z z ?_
 have hS:=Sep.start w
 refine .g (.qn z (.seq (.g (.q z ?_))))
 have ⟨y1,hy1,h⟩:=bnd h
 refine .c (.cO hS Tryz.func159 (me hy1) z z ?_)
 intro W hS
 refine .q z (.q z (.cu 3 13 ((!y1) || (decide (a1 < 0))) hS ?_ ?_))
 ·refine .both (!y1) (fun hb=>?_) (fun hb=>?_)
  ·exact .xx hb z (.xx hb z (.s (pkt hb z z z) z (.nil (ck 3 hS z (kL hb)))))
  have hg1:=hb
  exact .g hg1 (.q z (.g hg1 (.q z (.s (pkf hg1 z z z) z (.nil (ck 3 hS z (kM hg1)))))))
 intro W hS
 refine .q z (.cu 3 17 (((!y1) || (decide (a1 < 0))) || (decide (a1 > 31))) hS ?_ ?_)
 ·refine .both ((!y1) || (decide (a1 < 0))) (fun hb=>?_) (fun hb=>?_)
  ·exact .xx hb z (.xx hb z (.s (pkt hb z z z) z (.nil (ck 3 hS z (kL hb)))))
  have hg2:=hb
  exact .g hg2 (.q z (.g hg2 (.q z (.s (pkf hg2 z z z) z (.nil (ck 3 hS z (kM hg2)))))))
 intro W hS
 refine .q z (.cu 3 21 ((((!y1) || (decide (a1 < 0))) || (decide (a1 > 31))) || (decide (a2 < 1))) hS ?_ ?_)
 ·refine .both (((!y1) || (decide (a1 < 0))) || (decide (a1 > 31))) (fun hb=>?_) (fun hb=>?_)
  ·exact .xx hb z (.xx hb z (.s (pkt hb z z z) z (.nil (ck 3 hS z (kL hb)))))
  have hg3:=hb
  exact .g hg3 (.q z (.g hg3 (.q z (.s (pkf hg3 z z z) z (.nil (ck 3 hS z (kM hg3)))))))
 intro W hS
 refine .q z (.cu 5 27 (((((!y1) || (decide (a1 < 0))) || (decide (a1 > 31))) || (decide (a2 < 1))) || (decide (a2 > (w64 (32 - a1))))) hS ?_ ?_)
 ·refine .both ((((!y1) || (decide (a1 < 0))) || (decide (a1 > 31))) || (decide (a2 < 1))) (fun hb=>?_) (fun hb=>?_)
  ·exact .xx hb z (.xx hb z (.xx hb z (.xx hb z (.s (pkt hb z z z) z (.nil (ck 5 hS z (kL hb)))))))
  have hg4:=hb
  exact .g hg4 (.q z (.g hg4 (.q z (.g hg4 (.q z (.g hg4 (.q z (.s (pkf hg4 z z z) z (.nil (ck 5 hS z (kM hg4)))))))))))
 intro W hS
 refine .nil ?_
 refine .cs z h ?_ ?_ <;> intro h
 ·cases h
  exact .g (.qn z (.ret (ab (vs:=[_]) () (rt z rn) z (hS.to []))))
 refine .skip (.seq (.rk 8 hS [] T.mix ?_))
 intro W hS
 have hT:=hS.to []
 refine .tp' 0 z z hT (.tp' 1 z z hT ?_)
 have ⟨d1,hd1,h⟩:=bnd h
 refine .ts' 2 z (fun W hT=>kA hd1 z z z) hT z (.tp' 3 z z hT ?_)
 have ⟨d2,hd2,h⟩:=bnd h
 cases h
 exact .ts' 4 z (fun W hT=>kA hd2 z z z) hT z (.tp' 5 z z hT (.tp' 6 z z hT (.tp' 7 z z hT (.done (.ret (ab (vs:=[_]) () (rt z rn) z (hS.to [])))))))
theorem a9 {a0 : Int} {a1 : Int} {a2 : Int} {a3 : Int} {g_3 : Nat} {w : World} {r : Int} (h : ay a0 a1 a2 a3 = some r) (b_3 : BR w (Old No w) g_3 3 [vi a3]) : Cl 112 #[vi a0,vi a1,vi a2,pt g_3] w (RU w (.int .i64 r)):=by
 unfold ay at h
 refine ar Tryz.func112 z z ?_
 have hS:=Sep.start w
 refine .g (.qn z (.g (.s (ldb T.t3 (hS.keepB b_3) z z z z z) z (.q z (.q z ?_)))))
 have ⟨y1,hy1,h⟩:=bnd h
 refine .c (.cO hS Tryz.func113 (bN hy1) z z ?_)
 intro W hS
 refine .q z ?_
 have ⟨d1,hd1,h⟩:=bnd h
 obtain rfl:=o9 h
 exact .s (kA hd1 z z z) z (.qn z (.ret (ab (vs:=[_]) () (rt z rn) z (hS.to []))))
theorem lq {a0 : Instr} {w : World} {r : Int × Bool} (h : bJ a0 = some r) (hG : Gl w) : Cl 62 #[.agg #[vi a0.Op,vi a0.Rd,vi a0.Rs,vi a0.Rt,vi a0.Imm]] w (RU w (.tuple #[vi r.1,.bool r.2])):=by
 unfold bJ at h
 refine ar Tryz.func62 z z ?_
 have hS:=Sep.start w
 refine .g (.c (.box hS z z ?_))
 intro g1 W hS
 refine .q z (.qn z (.seq (.g (.s (ld T.t105 hS z z z z z) z ?_))))
 have ⟨y1,hy1,h⟩:=bnd h
 refine .c (.cO hS Tryz.func110 (pE hy1) z z ?_)
 intro W hS
 refine .q z (.nil ?_)
 refine .cs z h ?_ ?_ <;> intro h
 ·cases h
  exact .g (.q z (.qn z (.ret (ab (vs:=[_,_]) () (rt z (rt z rn)) z (hS.to [])))))
 refine .skip (.g (.s (fa T.f105_0 z z z) z (.s (ld T.t3 hS z z z z z) z (.q z ?_))))
 have ⟨x1,hx1,h⟩:=bnd h
 refine .s (ixt hx1 z T.u147 T.t146 z z z) z (.s (ldt (hG.at hS (fun _ _ h=>h)).2.1 hx1 T.t146 z z z z z) z (.c (.alloc T.t146 hS ?_)))
 intro g2 W hS
 refine .c (.st T.t146 hS z z z ?_)
 intro W hS
 refine .nil (.g (.s (fa T.f105_4 z z z) z (.s (ld T.t3 hS.p1 z z z z z) z ?_)))
 have ⟨y2,hy2,h⟩:=bnd h
 refine .c (.cO hS Tryz.func111 (ia hy2) z z ?_)
 intro W hS
 refine .c (.alloc T.t3 hS ?_)
 intro g3 W hS
 refine .c (.st T.t3 hS z z z ?_)
 intro W hS
 refine .nil (.g (.s (mf z z) z (.qn z (.g (.s (fa T.f105_3 z z z) z (.s (ld T.t3 hS.p2 z z z z z) z (.q z (.s (fa T.f105_2 z z z) z (.s (ld T.t3 hS.p2 z z z z z) z (.q z (.q z (.s (fa T.f146_2 z z z) z (.s (ld T.t3 hS.p1 z z z z z) z (.q z (.q z (.s (fa T.f146_1 z z z) z (.s (ld T.t3 hS.p1 z z z z z) z (.q z (.qn z (.seq (.g (.s (fa T.f105_0 z z z) z (.s (ld T.t3 hS.p2 z z z z z) z ?_)))))))))))))))))))))))
 have ⟨y3,hy3,h⟩:=bnd h
 refine .c (.cO hS Tryz.func114 (hZ hy3) z z ?_)
 intro W hS
 refine .nil (.block (.g (.q z (.q z (.nil ?_)))))
 refine .cs z h ?_ ?_ <;> intro h
 ·cases h
  exact .g (.s (fa T.f146_3 z z z) z (.s (ld T.t3 hS.p1 z z z z z) z (.q z (.q z (.q z (.s (fa T.f105_1 z z z) z (.s (ld T.t3 hS.p2 z z z z z) z (.q z (.q z (.q z (.qn z (.ret (ab (vs:=[_,_]) () (rt z (rt z rn)) z (hS.to []))))))))))))))
 refine .g (.q z (.q z (.nil ?_)))
 refine .cs z h ?_ ?_ <;> intro h
 ·refine .seq (.rk 10 hS [0,0,0] T.mix ?_)
  intro W hS
  have hT:=hS.to [0,0,0]
  refine .tp' 0 z z hT (.tp' 2 z z hT (.ts' 4 z (fun W hT=>fa T.f105_1 z z z) hT z (.ts' 5 z (fun W hT=>ld T.t3 hT.p2 z z z z z) hT z (.tp' 6 z z hT ?_))))
  have ⟨y4,hy4,h⟩:=bnd h
  refine .by1 1 z (.callv (vs:=[vi 0,vi 12,vi 20]) (cap:=#[pt g3]) hS ⟨_,Tryz.func112,z,by kernel_rfl⟩ (a9 hy4 hS.boxB) z z z ?_)
  rintro ⟨⟩ W hS
  have hT:=hS.to [0,0,0]
  refine ⟨fun _=>hT,?_⟩
  cases h
  exact .tp' 3 z z hT (.tp' 7 z z hT (.tp' 8 z z hT (.tp' 9 z z hT (.done (.ret (ab (vs:=[_,_]) () (rt z (rt z rn)) z (hS.to [])))))))
 refine .g (.q z (.q z (.nil ?_)))
 refine .cs z h ?_ ?_ <;> intro h
 ·refine .g (.q z ?_)
  have ⟨y5,hy5,h⟩:=bnd h
  refine .c (.callv (vs:=[vi 5,vi 7,vi 25]) (cap:=#[pt g3]) hS ⟨_,Tryz.func112,z,by kernel_rfl⟩ (a9 hy5 hS.boxB) z z z ?_)
  rintro ⟨⟩ W hS
  refine .q z (.q z (.q z ?_))
  have ⟨y6,hy6,h⟩:=bnd h
  refine .c (.callv (vs:=[vi 0,vi 5,vi 7]) (cap:=#[pt g3]) hS ⟨_,Tryz.func112,z,by kernel_rfl⟩ (a9 hy6 hS.boxB) z z z ?_)
  rintro ⟨⟩ W hS
  cases h
  exact .q z (.q z (.qn z (.ret (ab (vs:=[_,_]) () (rt z (rt z rn)) z (hS.to [])))))
 refine .g (.q z (.q z (.nil ?_)))
 refine .cs z h ?_ ?_ <;> intro h
 ·refine .g (.q z ?_)
  have ⟨y7,hy7,h⟩:=bnd h
  refine .c (.callv (vs:=[vi 12,vi 1,vi 31]) (cap:=#[pt g3]) hS ⟨_,Tryz.func112,z,by kernel_rfl⟩ (a9 hy7 hS.boxB) z z z ?_)
  rintro ⟨⟩ W hS
  refine .q z ?_
  have ⟨y8,hy8,h⟩:=bnd h
  refine .c (.callv (vs:=[vi 5,vi 6,vi 25]) (cap:=#[pt g3]) hS ⟨_,Tryz.func112,z,by kernel_rfl⟩ (a9 hy8 hS.boxB) z z z ?_)
  rintro ⟨⟩ W hS
  refine .q z (.q z (.q z (.q z ?_)))
  have ⟨y9,hy9,h⟩:=bnd h
  refine .c (.callv (vs:=[vi 1,vi 4,vi 8]) (cap:=#[pt g3]) hS ⟨_,Tryz.func112,z,by kernel_rfl⟩ (a9 hy9 hS.boxB) z z z ?_)
  rintro ⟨⟩ W hS
  refine .q z (.q z ?_)
  have ⟨y10,hy10,h⟩:=bnd h
  refine .c (.callv (vs:=[vi 11,vi 1,vi 7]) (cap:=#[pt g3]) hS ⟨_,Tryz.func112,z,by kernel_rfl⟩ (a9 hy10 hS.boxB) z z z ?_)
  rintro ⟨⟩ W hS
  cases h
  exact .q z (.q z (.qn z (.ret (ab (vs:=[_,_]) () (rt z (rt z rn)) z (hS.to [])))))
 refine .g (.q z (.q z (.nil ?_)))
 refine .cs z h ?_ ?_ <;> intro h
 ·refine .seq (.rk 11 hS [0,0,0] T.mix ?_)
  intro W hS
  have hT:=hS.to [0,0,0]
  refine .tp' 0 z z hT (.ts' 2 z (fun W hT=>fa T.f105_1 z z z) hT z (.ts' 3 z (fun W hT=>ld T.t3 hT.p2 z z z z z) hT z (.tp' 4 z z hT (.ts' 6 z (fun W hT=>fa T.f146_1 z z z) hT z (.ts' 7 z (fun W hT=>ld T.t3 hT.p1 z z z z z) hT z ?_)))))
  have ⟨y11,hy11,h⟩:=bnd h
  refine .by1 1 z (.callv (vs:=[vi 0,vi 20,vi 12]) (cap:=#[pt g3]) hS ⟨_,Tryz.func112,z,by kernel_rfl⟩ (a9 hy11 hS.boxB) z z z ?_)
  rintro ⟨⟩ W hS
  have hT:=hS.to [0,0,0]
  refine ⟨fun _=>hT,?_⟩
  cases h
  exact .tp' 5 z z hT (.tp' 8 z z hT (.tp' 9 z z hT (.tp' 10 z z hT (.done (.ret (ab (vs:=[_,_]) () (rt z (rt z rn)) z (hS.to [])))))))
 refine .g (.q z (.q z (.nil ?_)))
 refine .cs z h ?_ ?_ <;> intro h
 ·refine .seq (.rk 20 hS [0,0,0] T.mix ?_)
  intro W hS
  have hT:=hS.to [0,0,0]
  refine .tp' 0 z z hT (.tp' 2 z z hT (.tp' 5 z z hT (.tp' 8 z z hT (.ts' 11 z (fun W hT=>fa T.f105_1 z z z) hT z (.ts' 12 z (fun W hT=>ld T.t3 hT.p2 z z z z z) hT z (.tp' 13 z z hT (.ts' 15 z (fun W hT=>fa T.f146_1 z z z) hT z (.ts' 16 z (fun W hT=>ld T.t3 hT.p1 z z z z z) hT z ?_))))))))
  have ⟨y12,hy12,h⟩:=bnd h
  refine .by1 1 z (.callv (vs:=[vi 20,vi 1,vi 31]) (cap:=#[pt g3]) hS ⟨_,Tryz.func112,z,by kernel_rfl⟩ (a9 hy12 hS.boxB) z z z ?_)
  rintro ⟨⟩ W hS
  have hT:=hS.to [0,0,0]
  refine ⟨fun _=>hT,?_⟩
  have ⟨y13,hy13,h⟩:=bnd h
  refine .by1 3 z (.callv (vs:=[vi 1,vi 10,vi 21]) (cap:=#[pt g3]) hS ⟨_,Tryz.func112,z,by kernel_rfl⟩ (a9 hy13 hS.boxB) z z z ?_)
  rintro ⟨⟩ W hS
  have hT:=hS.to [0,0,0]
  refine ⟨fun _=>hT,.tp' 4 z z hT ?_⟩
  have ⟨y14,hy14,h⟩:=bnd h
  refine .by1 6 z (.callv (vs:=[vi 11,vi 1,vi 20]) (cap:=#[pt g3]) hS ⟨_,Tryz.func112,z,by kernel_rfl⟩ (a9 hy14 hS.boxB) z z z ?_)
  rintro ⟨⟩ W hS
  have hT:=hS.to [0,0,0]
  refine ⟨fun _=>hT,.tp' 7 z z hT ?_⟩
  have ⟨y15,hy15,h⟩:=bnd h
  refine .by1 9 z (.callv (vs:=[vi 12,vi 8,vi 12]) (cap:=#[pt g3]) hS ⟨_,Tryz.func112,z,by kernel_rfl⟩ (a9 hy15 hS.boxB) z z z ?_)
  rintro ⟨⟩ W hS
  have hT:=hS.to [0,0,0]
  refine ⟨fun _=>hT,?_⟩
  cases h
  exact .tp' 10 z z hT (.tp' 14 z z hT (.tp' 17 z z hT (.tp' 18 z z hT (.tp' 19 z z hT (.done (.ret (ab (vs:=[_,_]) () (rt z (rt z rn)) z (hS.to []))))))))
 cases h
 exact .skip (.g (.s (fa T.f146_1 z z z) z (.s (ld T.t3 hS.p1 z z z z z) z (.q z (.qn z (.ret (ab (vs:=[_,_]) () (rt z (rt z rn)) z (hS.to []))))))))
theorem cl {a0 : Int} {w : World} {r : Int} (h : bq a0 = some r) : Cl 63 #[vi a0] w (RU w (.int .i64 r)):=by
 unfold bq at h
 refine ar Tryz.func63 z z ?_
 have hS:=Sep.start w
 cases h
 exact .g (.qn z (.g (.q z (.s (cv T.u3 T.u21 z z) z (.s (cv T.u21 T.u3 z z) z (.qn z (.ret (ab (vs:=[_]) () (rt z rn) z (hS.to [])))))))))
def t8 (w : World) (r : (List Int) × Bool) : Env → World → Prop:=Fin Tryz.prog Tryz.f29 No w (fun s : Hd=>.tuple #[(sv s),.bool r.2]) (fun s=>[ae (sv s) 3 1 (D.int .i64) r.1]) .ret
theorem nI {a0 : List Instr} {v_0 : Hd} {w : World} {r : (List Int) × Bool} (h : gQ a0 = some r) (q_0 : RO w v_0 105 5 aw a0) (hG : Gl w) : Cl 29 #[(sv v_0)] w (Ret No w (fun s : Hd=>.tuple #[(sv s),.bool r.2]) (fun s=>[ae (sv s) 3 1 (D.int .i64) r.1])):=by
 unfold gQ at h
 refine ar Tryz.func29 z z ?_
 have hS:=Sep.start w
 refine .g (.q z (.qn z (.g (.qn z (.seq (.g (.q z (.s (bF (hS.keep q_0) T.u66 z z) z (.qn z (.block ?_))))))))))
 have hS:=hS.nilv 3 1 (D.int .i64)
 have ⟨y1,hy1,h⟩:=bnd h
 refine .via (.iter (fun s1 E' W'=>∃ (v3 : Hd),aD E' [(4,(sv v3)),(9,(sv v_0)),(10,vi (a0.length : Int)),(11,vi s1.2)] ∧ Sep No w W' [ae (sv v3) 3 1 (D.int .i64) s1.1]) (fun y2 x E' W'=>(match y2 with | .inl o1=>x = .ret ∧ t8 w o1 E' W' | .inr o2=>x = .exit 0 ∧ ∃ (v4 : Hd),aD E' [(4,(sv v4))] ∧ Sep No w W' [ae (sv v4) 3 1 (D.int .i64) o2])) hy1 ⟨aP,sb rfl,hS.to [0] rfl⟩ ?_) ?_
 ·intro s1 y3 E W h hI
  obtain ⟨v2,hE,hS⟩:=hI
  refine CW.sub hE ?_
  unfold er at h
  refine .g (.qn z (.seq ?_))
  refine .cs z h ?_ ?_ <;> intro h
  ·refine .skip (.seq (.block (.seq (.region ?_))))
   have ⟨x1,hx1,h⟩:=bnd h
   refine .s (ixv (hS.keep q_0) hx1 T.u66 T.t105 z z z) z (.s (lde (RV.flat (hS.keep q_0) hx1 z) T.t105 z z z z z) z (.c (.alloc T.t105 hS ?_)))
   intro g1 W hS
   refine .c (.st T.t105 hS z z z ?_)
   intro W hS
   refine .nil (.g (.s (ld T.t105 hS z z z z z) z ?_))
   have ⟨y4,hy4,h⟩:=bnd h
   refine .c (.cO hS Tryz.func62 (lq hy4 (hG.at hS (fun _ _ h=>h))) z z ?_)
   intro W hS
   refine .q z (.q z (.q z (.q z (.qn z (.seq (.g (.q z (.q z (.nil ?_)))))))))
   refine .cs z h ?_ ?_ <;> intro h
   ·refine .g (.q z (.qn z (.ret ?_)))
    have hS:=hS.nilv 3 1 (D.int .i64)
    cases h
    exact ⟨by simp,z,ab (vs:=[_,_]) aP (rt z (rt z rn)) z (hS.to [0])⟩
   refine .skip (.region (.q z (.q z ?_)))
   have ⟨y5,hy5,h⟩:=bnd h
   refine .c (.cO hS Tryz.func63 (cl hy5) z z ?_)
   intro W hS
   refine .c (.liv [y5] (D.int .i64) T.u23 T.t3 hS z z z z ?_ z (fun _=>z))
   intro v5 W hS
   have ⟨r1,hr1,h⟩:=bnd h
   have hT0:=hS.p2
   refine .c (.av hr1 hT0 hT0.p1.lv (fun _=>z) T.u23 T.t3 z z z ?_)
   intro v6 W hS
   refine .qn z (.region (.q z (.q z (.nil ?_))))
   cases h
   exact ⟨z,v6,sb z,hS.to [0]⟩
  refine .exit ?_
  cases h
  exact ⟨by simp,z,v2,sb z,hS.to [0]⟩
 intro x E W hJ
 rcases y1 with o3 | o4
 ·obtain ⟨rfl,hF⟩:=hJ
  refine ⟨_,fun _ _ h=>h,?_⟩
  cases h
  exact hF
 obtain ⟨rfl,v7,hE,hS⟩:=hJ
 refine ⟨_,hE.sub,?_⟩
 cases h
 exact .g (.q z (.q z (.qn z (.ret (ab (vs:=[_,_]) v7 (rt z (rt z rn)) z (hS.to [0]))))))
theorem bV {a0 : Int} {a1 : Int} {a2 : Int} {w : World} {r : Instr} (h : cn a0 a1 a2 = some r) : Cl 64 #[vi a0,vi a1,vi a2] w (RU w (.agg #[vi r.Op,vi r.Rd,vi r.Rs,vi r.Rt,vi r.Imm])):=by
 unfold cn at h
 refine ar Tryz.func64 z z ?_
 have hS:=Sep.start w
 refine .g (.c (.alloc T.t105 hS ?_))
 intro g1 W hS
 refine .nil (.g (.q z (.q z (.q z (.s (bs T.s105 z z) z (.c (.st T.t105 hS z z z ?_)))))))
 intro W hS
 cases h
 exact .nil (.ret (ab (vs:=[_]) () (rc hS T.t105 z rn z z) z (hS.to [])))
theorem dF {a0 : Int} {a1 : Int} {a2 : Int} {a3 : Int} {a4 : Int} {w : World} {r : Instr} (h : dW a0 a1 a2 a3 a4 = some r) : Cl 65 #[vi a0,vi a1,vi a2,vi a3,vi a4] w (RU w (.agg #[vi r.Op,vi r.Rd,vi r.Rs,vi r.Rt,vi r.Imm])):=by
 unfold dW at h
 refine ar Tryz.func65 z z ?_
 have hS:=Sep.start w
 refine .g (.c (.alloc T.t105 hS ?_))
 intro g1 W hS
 refine .nil (.g (.q z (.q z (.q z (.q z (.q z (.q z (.q z (.s (bs T.s105 z z) z (.c (.st T.t105 hS z z z ?_)))))))))))
 intro W hS
 cases h
 exact .nil (.ret (ab (vs:=[_]) () (rc hS T.t105 z rn z z) z (hS.to [])))
theorem oy {a0 : Int} {a1 : Int} {w : World} {r : Instr} (h : mn a0 a1 = some r) : Cl 66 #[vi a0,vi a1] w (RU w (.agg #[vi r.Op,vi r.Rd,vi r.Rs,vi r.Rt,vi r.Imm])):=by
 unfold mn at h
 refine ar Tryz.func66 z z ?_
 have hS:=Sep.start w
 refine .g (.c (.alloc T.t105 hS ?_))
 intro g1 W hS
 refine .nil (.g (.q z (.q z (.q z (.q z (.s (bs T.s105 z z) z (.c (.st T.t105 hS z z z ?_))))))))
 intro W hS
 cases h
 exact .nil (.ret (ab (vs:=[_]) () (rc hS T.t105 z rn z z) z (hS.to [])))
theorem cN {a0 : Int} {a1 : Int} {a2 : Int} {a3 : Int} {w : World} {r : Instr} (h : dk a0 a1 a2 a3 = some r) : Cl 67 #[vi a0,vi a1,vi a2,vi a3] w (RU w (.agg #[vi r.Op,vi r.Rd,vi r.Rs,vi r.Rt,vi r.Imm])):=by
 unfold dk at h
 refine ar Tryz.func67 z z ?_
 have hS:=Sep.start w
 refine .g (.c (.alloc T.t105 hS ?_))
 intro g1 W hS
 refine .nil (.g (.q z (.q z (.q z (.q z (.s (bs T.s105 z z) z (.c (.st T.t105 hS z z z ?_))))))))
 intro W hS
 cases h
 exact .nil (.ret (ab (vs:=[_]) () (rc hS T.t105 z rn z z) z (hS.to [])))
theorem db {a0 : Int} {a1 : Int} {a2 : Int} {w : World} {r : Instr} (h : eR a0 a1 a2 = some r) : Cl 68 #[vi a0,vi a1,vi a2] w (RU w (.agg #[vi r.Op,vi r.Rd,vi r.Rs,vi r.Rt,vi r.Imm])):=by
 unfold eR at h
 refine ar Tryz.func68 z z ?_
 have hS:=Sep.start w
 refine .g (.c (.alloc T.t105 hS ?_))
 intro g1 W hS
 refine .nil (.g (.q z (.q z (.q z (.s (bs T.s105 z z) z (.c (.st T.t105 hS z z z ?_)))))))
 intro W hS
 cases h
 exact .nil (.ret (ab (vs:=[_]) () (rc hS T.t105 z rn z z) z (hS.to [])))
theorem ei {a0 : Int} {a1 : Int} {a2 : Int} {w : World} {r : Instr} (h : gR a0 a1 a2 = some r) : Cl 69 #[vi a0,vi a1,vi a2] w (RU w (.agg #[vi r.Op,vi r.Rd,vi r.Rs,vi r.Rt,vi r.Imm])):=by
 unfold gR at h
 refine ar Tryz.func69 z z ?_
 have hS:=Sep.start w
 refine .g (.c (.alloc T.t105 hS ?_))
 intro g1 W hS
 refine .nil (.g (.q z (.q z (.q z (.s (bs T.s105 z z) z (.c (.st T.t105 hS z z z ?_)))))))
 intro W hS
 cases h
 exact .nil (.ret (ab (vs:=[_]) () (rc hS T.t105 z rn z z) z (hS.to [])))
theorem lA {a0 : Int} {w : World} {r : Instr} (h : lB a0 = some r) : Cl 70 #[vi a0] w (RU w (.agg #[vi r.Op,vi r.Rd,vi r.Rs,vi r.Rt,vi r.Imm])):=by
 unfold lB at h
 refine ar Tryz.func70 z z ?_
 have hS:=Sep.start w
 refine .g (.c (.alloc T.t105 hS ?_))
 intro g1 W hS
 refine .nil (.g (.q z (.s (bs T.s105 z z) z (.c (.st T.t105 hS z z z ?_)))))
 intro W hS
 cases h
 exact .nil (.ret (ab (vs:=[_]) () (rc hS T.t105 z rn z z) z (hS.to [])))
end
noncomputable section
theorem oV {w : World} {r : (List Instr)} (h : fc = some r) (hG : Gl w) : Cl 30 #[] w (Ret No w (fun s : Hd=>(sv s)) (fun s=>[ae (sv s) 105 5 aw r])):=by
 unfold fc at h
 refine ar Tryz.func30 z z ?_
 have hS:=Sep.start w
 refine .g (.qn z (.g (.s (bs T.s105 z z) z (.c (.alloc T.t105 hS ?_)))))
 intro g1 W hS
 refine .c (.st T.t105 hS z z z ?_)
 intro W hS
 refine .nil (.seq (.rk 57 hS [0] T.mix ?_))
 intro W hS
 have hT:=hS.to [0]
 refine .ts' 44 z (fun W hT=>ld T.t105 hT z z z z z) hT z ?_
 have ⟨y1,hy1,h⟩:=bnd h
 refine .by1 0 z (.cO hS Tryz.func64 (bV hy1) z z ?_)
 intro W hS
 have hT:=hS.to [0]
 refine ⟨fun _=>hT,?_⟩
 have ⟨y2,hy2,h⟩:=bnd h
 refine .by1 1 z (.cO hS Tryz.func65 (dF hy2) z z ?_)
 intro W hS
 have hT:=hS.to [0]
 refine ⟨fun _=>hT,?_⟩
 have ⟨y3,hy3,h⟩:=bnd h
 refine .by1 2 z (.cO hS Tryz.func64 (bV hy3) z z ?_)
 intro W hS
 have hT:=hS.to [0]
 refine ⟨fun _=>hT,?_⟩
 have ⟨y4,hy4,h⟩:=bnd h
 refine .by1 3 z (.cO hS Tryz.func65 (dF hy4) z z ?_)
 intro W hS
 have hT:=hS.to [0]
 refine ⟨fun _=>hT,?_⟩
 have ⟨y5,hy5,h⟩:=bnd h
 refine .by1 4 z (.cO hS Tryz.func64 (bV hy5) z z ?_)
 intro W hS
 have hT:=hS.to [0]
 refine ⟨fun _=>hT,?_⟩
 have ⟨y6,hy6,h⟩:=bnd h
 refine .by1 5 z (.cO hS Tryz.func65 (dF hy6) z z ?_)
 intro W hS
 have hT:=hS.to [0]
 refine ⟨fun _=>hT,?_⟩
 have ⟨y7,hy7,h⟩:=bnd h
 refine .by1 6 z (.cO hS Tryz.func64 (bV hy7) z z ?_)
 intro W hS
 have hT:=hS.to [0]
 refine ⟨fun _=>hT,?_⟩
 have ⟨y8,hy8,h⟩:=bnd h
 refine .by1 7 z (.cO hS Tryz.func65 (dF hy8) z z ?_)
 intro W hS
 have hT:=hS.to [0]
 refine ⟨fun _=>hT,?_⟩
 have ⟨y9,hy9,h⟩:=bnd h
 refine .by1 8 z (.cO hS Tryz.func66 (oy hy9) z z ?_)
 intro W hS
 have hT:=hS.to [0]
 refine ⟨fun _=>hT,?_⟩
 have ⟨y10,hy10,h⟩:=bnd h
 refine .by1 9 z (.cO hS Tryz.func64 (bV hy10) z z ?_)
 intro W hS
 have hT:=hS.to [0]
 refine ⟨fun _=>hT,?_⟩
 have ⟨y11,hy11,h⟩:=bnd h
 refine .by1 10 z (.cO hS Tryz.func67 (cN hy11) z z ?_)
 intro W hS
 have hT:=hS.to [0]
 refine ⟨fun _=>hT,?_⟩
 have ⟨y12,hy12,h⟩:=bnd h
 refine .by1 11 z (.cO hS Tryz.func67 (cN hy12) z z ?_)
 intro W hS
 have hT:=hS.to [0]
 refine ⟨fun _=>hT,?_⟩
 have ⟨y13,hy13,h⟩:=bnd h
 refine .by1 12 z (.cO hS Tryz.func68 (db hy13) z z ?_)
 intro W hS
 have hT:=hS.to [0]
 refine ⟨fun _=>hT,?_⟩
 have ⟨y14,hy14,h⟩:=bnd h
 refine .by1 13 z (.cO hS Tryz.func68 (db hy14) z z ?_)
 intro W hS
 have hT:=hS.to [0]
 refine ⟨fun _=>hT,?_⟩
 have ⟨y15,hy15,h⟩:=bnd h
 refine .by1 14 z (.cO hS Tryz.func65 (dF hy15) z z ?_)
 intro W hS
 have hT:=hS.to [0]
 refine ⟨fun _=>hT,?_⟩
 have ⟨y16,hy16,h⟩:=bnd h
 refine .by1 15 z (.cO hS Tryz.func68 (db hy16) z z ?_)
 intro W hS
 have hT:=hS.to [0]
 refine ⟨fun _=>hT,?_⟩
 have ⟨y17,hy17,h⟩:=bnd h
 refine .by1 16 z (.cO hS Tryz.func67 (cN hy17) z z ?_)
 intro W hS
 have hT:=hS.to [0]
 refine ⟨fun _=>hT,?_⟩
 have ⟨y18,hy18,h⟩:=bnd h
 refine .by1 17 z (.cO hS Tryz.func67 (cN hy18) z z ?_)
 intro W hS
 have hT:=hS.to [0]
 refine ⟨fun _=>hT,?_⟩
 have ⟨y19,hy19,h⟩:=bnd h
 refine .by1 18 z (.cO hS Tryz.func64 (bV hy19) z z ?_)
 intro W hS
 have hT:=hS.to [0]
 refine ⟨fun _=>hT,?_⟩
 have ⟨y20,hy20,h⟩:=bnd h
 refine .by1 19 z (.cO hS Tryz.func67 (cN hy20) z z ?_)
 intro W hS
 have hT:=hS.to [0]
 refine ⟨fun _=>hT,?_⟩
 have ⟨y21,hy21,h⟩:=bnd h
 refine .by1 20 z (.cO hS Tryz.func67 (cN hy21) z z ?_)
 intro W hS
 have hT:=hS.to [0]
 refine ⟨fun _=>hT,?_⟩
 have ⟨y22,hy22,h⟩:=bnd h
 refine .by1 21 z (.cO hS Tryz.func69 (ei hy22) z z ?_)
 intro W hS
 have hT:=hS.to [0]
 refine ⟨fun _=>hT,?_⟩
 have ⟨y23,hy23,h⟩:=bnd h
 refine .by1 22 z (.cO hS Tryz.func64 (bV hy23) z z ?_)
 intro W hS
 have hT:=hS.to [0]
 refine ⟨fun _=>hT,?_⟩
 have ⟨y24,hy24,h⟩:=bnd h
 refine .by1 23 z (.cO hS Tryz.func69 (ei hy24) z z ?_)
 intro W hS
 have hT:=hS.to [0]
 refine ⟨fun _=>hT,?_⟩
 have ⟨y25,hy25,h⟩:=bnd h
 refine .by1 24 z (.cO hS Tryz.func69 (ei hy25) z z ?_)
 intro W hS
 have hT:=hS.to [0]
 refine ⟨fun _=>hT,?_⟩
 have ⟨y26,hy26,h⟩:=bnd h
 refine .by1 25 z (.cO hS Tryz.func70 (lA hy26) z z ?_)
 intro W hS
 have hT:=hS.to [0]
 refine ⟨fun _=>hT,?_⟩
 have ⟨y27,hy27,h⟩:=bnd h
 refine .by1 26 z (.cO hS Tryz.func64 (bV hy27) z z ?_)
 intro W hS
 have hT:=hS.to [0]
 refine ⟨fun _=>hT,?_⟩
 have ⟨y28,hy28,h⟩:=bnd h
 refine .by1 27 z (.cO hS Tryz.func67 (cN hy28) z z ?_)
 intro W hS
 have hT:=hS.to [0]
 refine ⟨fun _=>hT,?_⟩
 have ⟨y29,hy29,h⟩:=bnd h
 refine .by1 28 z (.cO hS Tryz.func67 (cN hy29) z z ?_)
 intro W hS
 have hT:=hS.to [0]
 refine ⟨fun _=>hT,?_⟩
 have ⟨y30,hy30,h⟩:=bnd h
 refine .by1 29 z (.cO hS Tryz.func68 (db hy30) z z ?_)
 intro W hS
 have hT:=hS.to [0]
 refine ⟨fun _=>hT,?_⟩
 have ⟨y31,hy31,h⟩:=bnd h
 refine .by1 30 z (.cO hS Tryz.func65 (dF hy31) z z ?_)
 intro W hS
 have hT:=hS.to [0]
 refine ⟨fun _=>hT,?_⟩
 have ⟨y32,hy32,h⟩:=bnd h
 refine .by1 31 z (.cO hS Tryz.func68 (db hy32) z z ?_)
 intro W hS
 have hT:=hS.to [0]
 refine ⟨fun _=>hT,?_⟩
 have ⟨y33,hy33,h⟩:=bnd h
 refine .by1 32 z (.cO hS Tryz.func68 (db hy33) z z ?_)
 intro W hS
 have hT:=hS.to [0]
 refine ⟨fun _=>hT,?_⟩
 have ⟨y34,hy34,h⟩:=bnd h
 refine .by1 33 z (.cO hS Tryz.func64 (bV hy34) z z ?_)
 intro W hS
 have hT:=hS.to [0]
 refine ⟨fun _=>hT,?_⟩
 have ⟨y35,hy35,h⟩:=bnd h
 refine .by1 34 z (.cO hS Tryz.func67 (cN hy35) z z ?_)
 intro W hS
 have hT:=hS.to [0]
 refine ⟨fun _=>hT,?_⟩
 have ⟨y36,hy36,h⟩:=bnd h
 refine .by1 35 z (.cO hS Tryz.func67 (cN hy36) z z ?_)
 intro W hS
 have hT:=hS.to [0]
 refine ⟨fun _=>hT,?_⟩
 have ⟨y37,hy37,h⟩:=bnd h
 refine .by1 36 z (.cO hS Tryz.func68 (db hy37) z z ?_)
 intro W hS
 have hT:=hS.to [0]
 refine ⟨fun _=>hT,?_⟩
 have ⟨y38,hy38,h⟩:=bnd h
 refine .by1 37 z (.cO hS Tryz.func64 (bV hy38) z z ?_)
 intro W hS
 have hT:=hS.to [0]
 refine ⟨fun _=>hT,?_⟩
 have ⟨y39,hy39,h⟩:=bnd h
 refine .by1 38 z (.cO hS Tryz.func67 (cN hy39) z z ?_)
 intro W hS
 have hT:=hS.to [0]
 refine ⟨fun _=>hT,?_⟩
 have ⟨y40,hy40,h⟩:=bnd h
 refine .by1 39 z (.cO hS Tryz.func69 (ei hy40) z z ?_)
 intro W hS
 have hT:=hS.to [0]
 refine ⟨fun _=>hT,?_⟩
 have ⟨y41,hy41,h⟩:=bnd h
 refine .by1 40 z (.cO hS Tryz.func64 (bV hy41) z z ?_)
 intro W hS
 have hT:=hS.to [0]
 refine ⟨fun _=>hT,?_⟩
 have ⟨y42,hy42,h⟩:=bnd h
 refine .by1 41 z (.cO hS Tryz.func69 (ei hy42) z z ?_)
 intro W hS
 have hT:=hS.to [0]
 refine ⟨fun _=>hT,?_⟩
 have ⟨y43,hy43,h⟩:=bnd h
 refine .by1 42 z (.cO hS Tryz.func69 (ei hy43) z z ?_)
 intro W hS
 have hT:=hS.to [0]
 refine ⟨fun _=>hT,?_⟩
 have ⟨y44,hy44,h⟩:=bnd h
 refine .by1 43 z (.cO hS Tryz.func70 (lA hy44) z z ?_)
 intro W hS
 have hT:=hS.to [0]
 refine ⟨fun _=>hT,?_⟩
 have ⟨y45,hy45,h⟩:=bnd h
 refine .by1 45 z (.cO hS Tryz.func69 (ei hy45) z z ?_)
 intro W hS
 have hT:=hS.to [0]
 refine ⟨fun _=>hT,?_⟩
 have ⟨y46,hy46,h⟩:=bnd h
 refine .by1 46 z (.cO hS Tryz.func70 (lA hy46) z z ?_)
 intro W hS
 have hT:=hS.to [0]
 refine ⟨fun _=>hT,?_⟩
 have ⟨y47,hy47,h⟩:=bnd h
 refine .by1 47 z (.cO hS Tryz.func64 (bV hy47) z z ?_)
 intro W hS
 have hT:=hS.to [0]
 refine ⟨fun _=>hT,?_⟩
 have ⟨y48,hy48,h⟩:=bnd h
 refine .by1 48 z (.cO hS Tryz.func69 (ei hy48) z z ?_)
 intro W hS
 have hT:=hS.to [0]
 refine ⟨fun _=>hT,?_⟩
 have ⟨y49,hy49,h⟩:=bnd h
 refine .by1 49 z (.cO hS Tryz.func66 (oy hy49) z z ?_)
 intro W hS
 have hT:=hS.to [0]
 refine ⟨fun _=>hT,?_⟩
 have ⟨y50,hy50,h⟩:=bnd h
 refine .by1 50 z (.cO hS Tryz.func64 (bV hy50) z z ?_)
 intro W hS
 have hT:=hS.to [0]
 refine ⟨fun _=>hT,?_⟩
 have ⟨y51,hy51,h⟩:=bnd h
 refine .by1 51 z (.cO hS Tryz.func68 (db hy51) z z ?_)
 intro W hS
 have hT:=hS.to [0]
 refine ⟨fun _=>hT,?_⟩
 have ⟨y52,hy52,h⟩:=bnd h
 refine .by1 52 z (.cO hS Tryz.func64 (bV hy52) z z ?_)
 intro W hS
 have hT:=hS.to [0]
 refine ⟨fun _=>hT,?_⟩
 have ⟨y53,hy53,h⟩:=bnd h
 refine .by1 53 z (.cO hS Tryz.func69 (ei hy53) z z ?_)
 intro W hS
 have hT:=hS.to [0]
 refine ⟨fun _=>hT,?_⟩
 have ⟨y54,hy54,h⟩:=bnd h
 refine .by1 54 z (.cO hS Tryz.func69 (ei hy54) z z ?_)
 intro W hS
 have hT:=hS.to [0]
 refine ⟨fun _=>hT,.by1 55 z (.liv [y1,y2,y3,y4,y5,y6,y7,y8,y9,y10,y11,y12,y13,y14,y15,y16,y17,y18,y19,y20,y21,y22,y23,y24,y25,y26,y27,y28,y29,y30,y31,y32,y33,y34,y35,y36,y37,y38,y39,y40,y41,y42,y43,y44,(Instr.mk 21 0 0 0 0),y45,y46,y47,y48,y49,y50,y51,y52,y53,y54] aw T.u66 T.t105 hS z z z z ?_ z (fun _=>z))⟩
 intro v1 W hS
 have hT:=hS.to [1]
 refine ⟨fun _=>hT,.tp' 56 z z hT (.done (.seq (.g (.s (lg T.t113 (hG.at hS (fun _ _ h=>h)).1 z z z z z) z (.qn z (.block ?_))))))⟩
 have ⟨y55,hy55,h⟩:=bnd h
 refine .via (.iter (fun s1 E' W'=>∃ (v4 : Hd),aD E' [(1,pt g1),(2,(sv v4)),(64,.agg (j4.map (Value.int .i64)).toArray),(65,vi s1.2)] ∧ Sep No w W' [.box g1 105 [vi 21,vi 0,vi 0,vi 0,vi 0],ae (sv v4) 105 5 aw s1.1]) (fun y56 x E' W'=>x = .exit 0 ∧ ∃ (v5 : Hd),aD E' [(1,pt g1),(2,(sv v5))] ∧ Sep No w W' [.box g1 105 [vi 21,vi 0,vi 0,vi 0,vi 0],ae (sv v5) 105 5 aw y56]) hy55 ⟨v1,sb z,hS.to [1,0]⟩ ?_) ?_
 ·intro s1 y57 E W h hI
  obtain ⟨v3,hE,hS⟩:=hI
  refine CW.sub hE ?_
  unfold lm at h
  refine .g (.qn z (.seq ?_))
  refine .cs z h ?_ ?_ <;> intro h
  ·refine .skip (.seq (.block (.g (.q z ?_))))
   have ⟨x1,hx1,h⟩:=bnd h
   refine .s (iv (f:=Value.int .i64) hx1 T.u113 T.t3 z z z z) z (.q z (.qn z (.region (.q z (.q z (.q z (.q z (.q z ?_))))))))
   have ⟨y58,hy58,h⟩:=bnd h
   refine .c (.cO hS Tryz.func69 (ei hy58) z z ?_)
   intro W hS
   refine .c (.liv [y58] aw T.u66 T.t105 hS z z z z ?_ z (fun _=>z))
   intro v6 W hS
   have ⟨r1,hr1,h⟩:=bnd h
   have hT0:=hS.p2
   refine .c (.av hr1 hT0 hT0.p1.lv (fun _=>z) T.u66 T.t105 z z z ?_)
   intro v7 W hS
   refine .qn z (.region (.q z (.q z (.nil ?_))))
   cases h
   exact ⟨z,v7,sb z,hS.to [2,0]⟩
  refine .exit ?_
  cases h
  exact ⟨by simp,z,v3,sb z,hS.to [0,0]⟩
 intro x E W hJ
 obtain ⟨rfl,v8,hE,hS⟩:=hJ
 refine ⟨_,hE.sub,?_⟩
 refine .g (.q z ?_)
 have ⟨y59,hy59,h⟩:=bnd h
 refine .c (.cO hS Tryz.func68 (db hy59) z z ?_)
 intro W hS
 have ⟨y60,hy60,h⟩:=bnd h
 refine .c (.cO hS Tryz.func68 (db hy60) z z ?_)
 intro W hS
 have ⟨y61,hy61,h⟩:=bnd h
 refine .c (.cO hS Tryz.func65 (dF hy61) z z ?_)
 intro W hS
 have ⟨y62,hy62,h⟩:=bnd h
 refine .c (.cO hS Tryz.func64 (bV hy62) z z ?_)
 intro W hS
 have ⟨y63,hy63,h⟩:=bnd h
 refine .c (.cO hS Tryz.func68 (db hy63) z z ?_)
 intro W hS
 have ⟨y64,hy64,h⟩:=bnd h
 refine .c (.cO hS Tryz.func65 (dF hy64) z z ?_)
 intro W hS
 have ⟨y65,hy65,h⟩:=bnd h
 refine .c (.cO hS Tryz.func68 (db hy65) z z ?_)
 intro W hS
 refine .c (.liv [y59,y60,y61,y62,y63,y64,y65] aw T.u66 T.t105 hS z z z z ?_ z (fun _=>z))
 intro v9 W hS
 have ⟨r2,hr2,h⟩:=bnd h
 have hT0:=hS.p2
 refine .c (.av hr2 hT0 hT0.p1.lv (fun _=>z) T.u66 T.t105 z z z ?_)
 intro v10 W hS
 refine .qn z (.seq (.g (.s (lg T.t113 (hG.at hS (fun _ _ h=>h)).1 z z z z z) z (.qn z (.block ?_)))))
 have ⟨y66,hy66,h⟩:=bnd h
 refine .via (.iter (fun s2 E' W'=>∃ (v13 : Hd),aD E' [(1,pt g1),(2,(sv v13)),(88,.agg (j4.map (Value.int .i64)).toArray),(89,vi s2.2)] ∧ Sep No w W' [ae (sv v9) 105 5 aw [y59,y60,y61,y62,y63,y64,y65],.box g1 105 [vi 21,vi 0,vi 0,vi 0,vi 0],ae (sv v13) 105 5 aw s2.1]) (fun y67 x E' W'=>x = .exit 2 ∧ ∃ (v14 : Hd),aD E' [(1,pt g1),(2,(sv v14))] ∧ Sep No w W' [ae (sv v9) 105 5 aw [y59,y60,y61,y62,y63,y64,y65],.box g1 105 [vi 21,vi 0,vi 0,vi 0,vi 0],ae (sv v14) 105 5 aw y67]) hy66 ⟨v10,sb z,hS.to [1,1,0]⟩ ?_) ?_
 ·intro s2 y68 E W h hI
  obtain ⟨v12,hE,hS⟩:=hI
  refine CW.sub hE ?_
  unfold ln at h
  refine .g (.qn z (.seq ?_))
  refine .cs z h ?_ ?_ <;> intro h
  ·refine .skip (.seq (.block (.g (.q z ?_))))
   have ⟨x2,hx2,h⟩:=bnd h
   refine .s (iv (f:=Value.int .i64) hx2 T.u113 T.t3 z z z z) z (.q z (.qn z (.region (.q z (.q z (.q z (.q z (.q z ?_))))))))
   have ⟨y69,hy69,h⟩:=bnd h
   refine .c (.cO hS Tryz.func68 (db hy69) z z ?_)
   intro W hS
   refine .c (.liv [y69] aw T.u66 T.t105 hS z z z z ?_ z (fun _=>z))
   intro v15 W hS
   have ⟨r3,hr3,h⟩:=bnd h
   have hT0:=hS.p3
   refine .c (.av hr3 hT0 hT0.p1.lv (fun _=>z) T.u66 T.t105 z z z ?_)
   intro v16 W hS
   refine .qn z (.region (.q z (.q z (.nil ?_))))
   cases h
   exact ⟨z,v16,sb z,hS.to [2,2,0]⟩
  refine .exit ?_
  cases h
  exact ⟨by simp,z,v12,sb z,hS.to [0,0,0]⟩
 intro x E W hJ
 obtain ⟨rfl,v17,hE,hS⟩:=hJ
 refine ⟨_,hE.sub,?_⟩
 refine .seq (.rk 8 hS [0,0] T.mix ?_)
 intro W hS
 have hT:=hS.to [0,0]
 refine .tp' 0 z z hT (.ts' 4 z (fun W hT=>ld T.t105 hT.p1 z z z z z) hT z ?_)
 have ⟨y70,hy70,h⟩:=bnd h
 refine .by1 1 z (.cO hS Tryz.func68 (db hy70) z z ?_)
 intro W hS
 have hT:=hS.to [0,0]
 refine ⟨fun _=>hT,?_⟩
 have ⟨y71,hy71,h⟩:=bnd h
 refine .by1 2 z (.cO hS Tryz.func70 (lA hy71) z z ?_)
 intro W hS
 have hT:=hS.to [0,0]
 refine ⟨fun _=>hT,?_⟩
 have ⟨y72,hy72,h⟩:=bnd h
 refine .by1 3 z (.cO hS Tryz.func64 (bV hy72) z z ?_)
 intro W hS
 have hT:=hS.to [0,0]
 refine ⟨fun _=>hT,.by1 5 z (.liv [y70,y71,y72,(Instr.mk 21 0 0 0 0)] aw T.u66 T.t105 hS z z z z ?_ z (fun _=>z))⟩
 intro v18 W hS
 have hT:=hS.to [1,1]
 refine ⟨fun _=>hT,?_⟩
 have ⟨r4,hr4,h⟩:=bnd h
 have hT0:=hS.p3
 refine .by1 6 z (.av hr4 hT0 hT0.p1.lv (fun _=>z) T.u66 T.t105 z z z ?_)
 intro v19 W hS
 have hT:=hS.to [2,2]
 refine ⟨fun _=>hT,?_⟩
 obtain rfl:=o9 h
 exact .tp' 7 z z hT (.done (.ret (ab (vs:=[_]) v19 (rt z rn) z (hS.to [0]))))
def so (w : World) (r : ai × Int × Bool) : Env → World → Prop:=Fin Tryz.prog Tryz.f11 No w (fun s : Hd × Hd=>.tuple #[.agg #[(sv s.1),vi r.1.Pc,(sv s.2)],vi r.2.1,.bool r.2.2]) (fun s=>[ae (sv s.1) 3 1 (D.int .i64) r.1.Regs,ae (sv s.2) 3 1 (D.int .i64) r.1.Mem]) .ret
theorem mW {a0 : List Int} {a1 : List (List Instr)} {v_0 : Hd} {v_1 : Hd} {w : World} {r : ai × Int × Bool} (h : cr a0 a1 = some r) (q_0 : RO w v_0 3 1 (D.int .i64) a0) (q_1 : RO w v_1 66 1 (fun (l : List Instr)=>D.row 105 5 (l.map aw)) a1) (hG : Gl w) : Cl 11 #[(sv v_0),(sv v_1)] w (Ret No w (fun s : Hd × Hd=>.tuple #[.agg #[(sv s.1),vi r.1.Pc,(sv s.2)],vi r.2.1,.bool r.2.2]) (fun s=>[ae (sv s.1) 3 1 (D.int .i64) r.1.Regs,ae (sv s.2) 3 1 (D.int .i64) r.1.Mem])):=by
 unfold cr at h
 refine ar Tryz.func11 z z ?_
 have hS:=Sep.start w
 refine .g (.c (.alloc T.t28 hS ?_))
 intro g1 W hS
 refine .q z (.qn z (.seq (.g (.q z ?_))))
 have ⟨y1,hy1,h⟩:=bnd h
 refine .c (.cO hS Tryz.func28 (pD hy1 (hS.keep q_0)) z z ?_)
 intro W hS
 refine .q z (.q z (.cu 4 30 ((!y1) || (decide ((a1.length : Int) < 1))) hS ?_ ?_))
 ·refine .both (!y1) (fun hb=>?_) (fun hb=>?_)
  ·exact .xx hb z (.xx hb z (.xx hb z (.s (pkt hb z z z) z (.nil (ck 4 hS z (kL hb))))))
  have hg1:=hb
  exact .g hg1 (.q z (.g hg1 (.s (bF (hS.keep q_1) T.u24 z z) z (.g hg1 (.q z (.s (pkf hg1 z z z) z (.nil (ck 4 hS z (kM hg1)))))))))
 intro W hS
 refine .q z (.cu 4 35 (((!y1) || (decide ((a1.length : Int) < 1))) || (decide ((a1.length : Int) > 3))) hS ?_ ?_)
 ·refine .both ((!y1) || (decide ((a1.length : Int) < 1))) (fun hb=>?_) (fun hb=>?_)
  ·exact .xx hb z (.xx hb z (.xx hb z (.s (pkt hb z z z) z (.nil (ck 4 hS z (kL hb))))))
  have hg2:=hb
  exact .g hg2 (.q z (.g hg2 (.s (bF (hS.keep q_1) T.u24 z z) z (.g hg2 (.q z (.s (pkf hg2 z z z) z (.nil (ck 4 hS z (kM hg2)))))))))
 intro W hS
 refine .nil ?_
 refine .cs z h ?_ ?_ <;> intro h
 ·refine .g (.s (bs T.s28 z z) z (.c (.st T.t28 hS z z z ?_)))
  intro W hS
  refine .q z (.qn z (.ret ?_))
  have hS:=hS.nilv 3 1 (D.int .i64)
  have hS:=hS.nilv 3 1 (D.int .i64)
  cases h
  exact ab (vs:=[_,_,_]) (aP,aP) (rc hS.p2 T.t28 z (rt z (rt z rn)) z z) z (hS.to [1,0])
 refine .skip (.seq (.region ?_))
 have ⟨y2,hy2,h⟩:=bnd h
 refine .c (.cV hS Tryz.func30 (oV hy2 (hG.at hS (fun _ _ h=>h))) z z ?_)
 intro v1 W hS
 have ⟨y3,hy3,h⟩:=bnd h
 refine .c (.cV hS Tryz.func29 (nI hy3 hS.lv (hG.at hS (fun _ _ h=>h))) z z ?_)
 intro v2 W hS
 refine .q z (.q z (.q z (.q z (.qn z (.g (.qn z (.seq (.g (.q z (.s (bF (hS.keep q_1) T.u24 z z) z (.qn z (.block ?_))))))))))))
 have hS:=hS.nilv 3 1 (D.int .i64)
 have ⟨y4,hy4,h⟩:=bnd h
 refine .via (.iter (fun s1 E' W'=>∃ (v7 : Hd) (v8 : Hd),aD E' [(0,(sv v_0)),(1,(sv v_1)),(4,pt g1),(7,(sv v7)),(9,(sv v8)),(42,(sv v_1)),(43,vi (a1.length : Int)),(44,vi s1.2.2)] ∧ Sep No w W' [ae (sv v1) 105 5 aw y2,.box g1 28 [(sv aP),vi 0,(sv aP)],ae (sv v7) 3 1 (D.int .i64) s1.1,ae (sv v8) 3 1 (D.int .i64) s1.2.1]) (fun y5 x E' W'=>(match y5 with | .inl o1=>x = .ret ∧ so w o1 E' W' | .inr o2=>x = .exit 0 ∧ ∃ (v9 : Hd) (v10 : Hd),aD E' [(0,(sv v_0)),(1,(sv v_1)),(4,pt g1),(7,(sv v9)),(9,(sv v10))] ∧ Sep No w W' [ae (sv v1) 105 5 aw y2,.box g1 28 [(sv aP),vi 0,(sv aP)],ae (sv v9) 3 1 (D.int .i64) o2.1,ae (sv v10) 3 1 (D.int .i64) o2.2])) hy4 ⟨v2,aP,sb rfl,hS.to [2,2,1,0] rfl⟩ ?_) ?_
 ·intro s1 y6 E W h hI
  obtain ⟨v5,v6,hE,hS⟩:=hI
  refine CW.sub hE ?_
  unfold d7 at h
  refine .g (.qn z (.seq ?_))
  refine .cs z h ?_ ?_ <;> intro h
  ·refine .skip (.seq (.block (.seq (.region ?_))))
   have ⟨x1,hx1,h⟩:=bnd h
   obtain ⟨k1,hd,hck1⟩:=RV.el2 q_1 hx1
   obtain ⟨v11,k1,rfl,q9,hd1⟩:=jc q_1 hd
   obtain rfl:=rO q_1 hd1
   refine .s (ixv (hS.keep q_1) hx1 T.u24 T.t66 z z z) z (.s (lde (hck1 _ hS.agree) T.t66 z z z z z) z (.qn z (.g (.q z ?_))))
   have ⟨y7,hy7,h⟩:=bnd h
   refine .c (.cV hS Tryz.func29 (nI hy7 (hS.keep (q9 _ q_1)) (hG.at hS (fun _ _ h=>h))) z z ?_)
   intro v12 W hS
   refine .q z (.q z (.q z (.q z (.qn z (.seq (.g (.q z (.q z (.nil ?_)))))))))
   refine .cs z h ?_ ?_ <;> intro h
   ·refine .g (.s (bs T.s28 z z) z (.c (.st T.t28 hS.p2 z z z ?_)))
    intro W hS
    refine .q z (.qn z (.ret ?_))
    have hS:=hS.nilv 3 1 (D.int .i64)
    have hS:=hS.nilv 3 1 (D.int .i64)
    cases h
    exact ⟨by simp,z,ab (vs:=[_,_,_]) (aP,aP) (rc hS.p2 T.t28 z (rt z (rt z rn)) z z) z (hS.to [1,0])⟩
   refine .skip (.g (.q z (.q z (.s (bF hS.p3.lv T.u23 z z) z (.q z (.c (.liv [w64 (4 * (s1.1.length : Int))] (D.int .i64) T.u23 T.t3 hS z z z z ?_ z (fun _=>z))))))))
   intro v13 W hS
   have ⟨r1,hr1,h⟩:=bnd h
   have hT0:=hS.p5
   refine .c (.av hr1 hT0 hT0.p1.lv (fun _=>z) T.u23 T.t3 z z z ?_)
   intro v14 W hS
   refine .qn z (.region (.q z (.q z ?_)))
   have ⟨r2,hr2,h⟩:=bnd h
   have hT0:=hS.p5
   refine .c (.av hr2 hT0 hT0.p3.lv (fun _=>z) T.u23 T.t3 z z z ?_)
   intro v15 W hS
   refine .qn z (.region (.q z (.q z (.nil ?_))))
   cases h
   exact ⟨z,v15,v14,sb z,hS.to [4,4,0,0]⟩
  refine .exit ?_
  cases h
  exact ⟨by simp,z,v5,v6,sb z,hS.to [0,0,0,0]⟩
 intro x E W hJ
 rcases y4 with o3 | o4
 ·obtain ⟨rfl,hF⟩:=hJ
  refine ⟨_,fun _ _ h=>h,?_⟩
  cases h
  exact hF
 obtain ⟨rfl,v16,v17,hE,hS⟩:=hJ
 refine ⟨_,hE.sub,?_⟩
 refine .g (.q z (.s (bF hS.p2.lv T.u23 z z) z (.q z (.qn z (.g (.q z (.q z (.qn z (.g (.q z (.q z (.s (bF (hS.keep q_1) T.u24 z z) z (.q z (.q z (.qn z (.g (.q z (.q z (.s (bF (hS.keep q_1) T.u24 z z) z (.q z (.q z (.c (.liv [0,(a1.length : Int),w64 ((w64 (4 * (o4.1.length : Int))) + 112),w64 ((w64 ((w64 (4 * (o4.1.length : Int))) + 112)) + (w64 (64 * (a1.length : Int))))] (D.int .i64) T.u23 T.t3 hS z z z z ?_ z (fun _=>z))))))))))))))))))))))))
 intro v18 W hS
 have ⟨r3,hr3,h⟩:=bnd h
 have hT0:=hS.p3
 refine .c (.av hr3 hT0 hT0.p1.lv (fun _=>z) T.u23 T.t3 z z z ?_)
 intro v19 W hS
 refine .qn z (.seq (.g (.qn z (.block ?_))))
 have ⟨y8,hy8,h⟩:=bnd h
 refine .via (.iter (fun s2 E' W'=>∃ (v22 : Hd),aD E' [(0,(sv v_0)),(1,(sv v_1)),(4,pt g1),(7,(sv v22)),(9,(sv v17)),(14,vi (w64 (4 * (o4.1.length : Int)))),(15,vi (w64 ((w64 (4 * (o4.1.length : Int))) + 112))),(16,vi (w64 ((w64 ((w64 (4 * (o4.1.length : Int))) + 112)) + (w64 (64 * (a1.length : Int)))))),(83,vi s2.2)] ∧ Sep No w W' [ae (sv v18) 3 1 (D.int .i64) [0,(a1.length : Int),w64 ((w64 (4 * (o4.1.length : Int))) + 112),w64 ((w64 ((w64 (4 * (o4.1.length : Int))) + 112)) + (w64 (64 * (a1.length : Int))))],ae (sv v1) 105 5 aw y2,.box g1 28 [(sv aP),vi 0,(sv aP)],ae (sv v17) 3 1 (D.int .i64) o4.2,ae (sv v22) 3 1 (D.int .i64) s2.1]) (fun y9 x E' W'=>x = .exit 2 ∧ ∃ (v23 : Hd),aD E' [(1,(sv v_1)),(4,pt g1),(7,(sv v23)),(9,(sv v17)),(14,vi (w64 (4 * (o4.1.length : Int)))),(15,vi (w64 ((w64 (4 * (o4.1.length : Int))) + 112))),(16,vi (w64 ((w64 ((w64 (4 * (o4.1.length : Int))) + 112)) + (w64 (64 * (a1.length : Int))))))] ∧ Sep No w W' [ae (sv v18) 3 1 (D.int .i64) [0,(a1.length : Int),w64 ((w64 (4 * (o4.1.length : Int))) + 112),w64 ((w64 ((w64 (4 * (o4.1.length : Int))) + 112)) + (w64 (64 * (a1.length : Int))))],ae (sv v1) 105 5 aw y2,.box g1 28 [(sv aP),vi 0,(sv aP)],ae (sv v17) 3 1 (D.int .i64) o4.2,ae (sv v23) 3 1 (D.int .i64) y9]) hy8 ⟨v19,sb z,hS.to [1,1,1,1,0]⟩ ?_) ?_
 ·intro s2 y10 E W h hI
  obtain ⟨v21,hE,hS⟩:=hI
  refine CW.sub hE ?_
  unfold fd at h
  refine .g (.qn z (.seq ?_))
  refine .cs z h ?_ ?_ <;> intro h
  ·refine .skip (.seq (.block (.g (.q z (.qn z (.seq (.region ?_)))))))
   have ⟨r4,hr4,h⟩:=bnd h
   refine .c (.mkv 0 (D.int .i64) hr4 T.u23 T.t3 hS z z z z z (fun _=>z) ?_)
   intro v24 W hS
   refine .q z (.nil ?_)
   have ⟨y11,hy11,h⟩:=bnd h
   refine .seq (CW.via (R':=fun x E' W'=>x = .normal ∧ aD E' [(0,(sv v_0)),(1,(sv v_1)),(4,pt g1),(7,(sv v21)),(9,(sv v17)),(14,vi (w64 (4 * (o4.1.length : Int)))),(15,vi (w64 ((w64 (4 * (o4.1.length : Int))) + 112))),(16,vi (w64 ((w64 ((w64 (4 * (o4.1.length : Int))) + 112)) + (w64 (64 * (a1.length : Int)))))),(18,(sv v24)),(83,vi s2.2)] ∧ Sep No w W' [ae (sv v24) 3 1 (D.int .i64) y11,ae (sv v18) 3 1 (D.int .i64) [0,(a1.length : Int),w64 ((w64 (4 * (o4.1.length : Int))) + 112),w64 ((w64 ((w64 (4 * (o4.1.length : Int))) + 112)) + (w64 (64 * (a1.length : Int))))],ae (sv v1) 105 5 aw y2,.box g1 28 [(sv aP),vi 0,(sv aP)],ae (sv v17) 3 1 (D.int .i64) o4.2,ae (sv v21) 3 1 (D.int .i64) s2.1]) ?_ ?_)
   ·have h:=hy11
    refine .g (.q z (.q z (.s (bF (hS.keep q_0) T.u23 z z) z (.q z (.nil ?_)))))
    refine .cs z h ?_ ?_ <;> intro h
    ·refine .region (.q z (.q z (.q z ?_)))
     have ⟨x2,hx2,h⟩:=bnd h
     refine .s (ixv (hS.keep q_0) hx2 T.u23 T.t3 z z z) z (.s (lde (RV.flat (hS.keep q_0) hx2 z) T.t3 z z z z z) z ?_)
     have ⟨x3,hx3,h⟩:=bnd h
     refine .s (ixv hS.lv hx3 T.u23 T.t3 z z z) z ?_
     have ⟨r5,hr5,h⟩:=bnd h
     refine .c (.sev hr5 hx3 hS T.t3 z z z z z z ?_)
     intro W hS
     refine .nil ?_
     obtain rfl:=o9 h
     exact ⟨z,sb z,hS.to [0,0,0,0,0,0]⟩
    refine .skip ?_
    obtain rfl:=o9 h
    exact ⟨z,sb z,hS.to [0,0,0,0,0,0]⟩
   intro x E W hJ
   obtain ⟨rfl,hE,hS⟩:=hJ
   refine ⟨_,hE.sub,?_⟩
   refine .region (.q z (.q z ?_))
   have ⟨r6,hr6,h⟩:=bnd h
   have hT0:=hS.p5
   refine .c (.av hr6 hT0 hT0.p1.lv (fun _=>z) T.u23 T.t3 z z z ?_)
   intro v25 W hS
   refine .qn z (.region (.q z (.q z (.nil ?_))))
   cases h
   exact ⟨z,v25,sb z,hS.to [2,2,2,2,0]⟩
  refine .exit ?_
  cases h
  exact ⟨by simp,z,v21,sb z,hS.to [0,0,0,0,0]⟩
 intro x E W hJ
 obtain ⟨rfl,v26,hE,hS⟩:=hJ
 refine ⟨_,hE.sub,?_⟩
 refine .seq (.g (.q z (.s (bF hS.p3.lv T.u23 z z) z (.qn z (.block ?_)))))
 have ⟨y12,hy12,h⟩:=bnd h
 refine .via (.iter (fun s3 E' W'=>∃ (v29 : Hd),aD E' [(1,(sv v_1)),(4,pt g1),(7,(sv v29)),(9,(sv v17)),(14,vi (w64 (4 * (o4.1.length : Int)))),(15,vi (w64 ((w64 (4 * (o4.1.length : Int))) + 112))),(16,vi (w64 ((w64 ((w64 (4 * (o4.1.length : Int))) + 112)) + (w64 (64 * (a1.length : Int)))))),(101,(sv v17)),(102,vi (o4.2.length : Int)),(103,vi s3.2)] ∧ Sep No w W' [ae (sv v18) 3 1 (D.int .i64) [0,(a1.length : Int),w64 ((w64 (4 * (o4.1.length : Int))) + 112),w64 ((w64 ((w64 (4 * (o4.1.length : Int))) + 112)) + (w64 (64 * (a1.length : Int))))],ae (sv v1) 105 5 aw y2,.box g1 28 [(sv aP),vi 0,(sv aP)],ae (sv v17) 3 1 (D.int .i64) o4.2,ae (sv v29) 3 1 (D.int .i64) s3.1]) (fun y13 x E' W'=>x = .exit 4 ∧ ∃ (v30 : Hd),aD E' [(1,(sv v_1)),(4,pt g1),(7,(sv v30)),(9,(sv v17)),(14,vi (w64 (4 * (o4.1.length : Int)))),(15,vi (w64 ((w64 (4 * (o4.1.length : Int))) + 112))),(16,vi (w64 ((w64 ((w64 (4 * (o4.1.length : Int))) + 112)) + (w64 (64 * (a1.length : Int))))))] ∧ Sep No w W' [ae (sv v18) 3 1 (D.int .i64) [0,(a1.length : Int),w64 ((w64 (4 * (o4.1.length : Int))) + 112),w64 ((w64 ((w64 (4 * (o4.1.length : Int))) + 112)) + (w64 (64 * (a1.length : Int))))],ae (sv v1) 105 5 aw y2,.box g1 28 [(sv aP),vi 0,(sv aP)],ae (sv v17) 3 1 (D.int .i64) o4.2,ae (sv v30) 3 1 (D.int .i64) y13]) hy12 ⟨v26,sb z,hS.to [0,0,0,0,0]⟩ ?_) ?_
 ·intro s3 y14 E W h hI
  obtain ⟨v28,hE,hS⟩:=hI
  refine CW.sub hE ?_
  unfold ff at h
  refine .g (.qn z (.seq ?_))
  refine .cs z h ?_ ?_ <;> intro h
  ·refine .skip (.seq (.block (.g (.q z ?_))))
   have ⟨x4,hx4,h⟩:=bnd h
   refine .s (ixv hS.p3.lv hx4 T.u23 T.t3 z z z) z (.s (lde (RV.flat hS.p3.lv hx4 z) T.t3 z z z z z) z (.q z (.qn z (.seq (.region ?_)))))
   have ⟨r7,hr7,h⟩:=bnd h
   refine .c (.mkv 0 (D.int .i64) hr7 T.u23 T.t3 hS z z z z z (fun _=>z) ?_)
   intro v31 W hS
   refine .qn z (.g (.q z (.q z (.q z (.q z (.q z (.q z (.q z ?_))))))))
   have ⟨x5,hx5,h⟩:=bnd h
   refine .s (ixv hS.lv hx5 T.u23 T.t3 z z z) z ?_
   have ⟨r8,hr8,h⟩:=bnd h
   refine .c (.sev hr8 hx5 hS T.t3 z z z z z z ?_)
   intro W hS
   have ⟨x6,hx6,h⟩:=bnd h
   refine .s (ixv hS.lv hx6 T.u23 T.t3 z z z) z ?_
   have ⟨r9,hr9,h⟩:=bnd h
   refine .c (.sev hr9 hx6 hS T.t3 z z z z z z ?_)
   intro W hS
   refine .nil (.region (.q z (.q z ?_)))
   have ⟨r10,hr10,h⟩:=bnd h
   have hT0:=hS.p5
   refine .c (.av hr10 hT0 hT0.p1.lv (fun _=>z) T.u23 T.t3 z z z ?_)
   intro v32 W hS
   refine .qn z (.region (.q z (.q z (.nil ?_))))
   cases h
   exact ⟨z,v32,sb z,hS.to [2,2,2,2,0]⟩
  refine .exit ?_
  cases h
  exact ⟨by simp,z,v28,sb z,hS.to [0,0,0,0,0]⟩
 intro x E W hJ
 obtain ⟨rfl,v33,hE,hS⟩:=hJ
 refine ⟨_,hE.sub,?_⟩
 refine .g (.q z (.q z (.s (bF (hS.keep q_1) T.u24 z z) z (.q z ?_))))
 have ⟨r11,hr11,h⟩:=bnd h
 refine .c (.appz 0 hr11 hS.p4 T.u23 T.u3 T.t3 z z z z ?_ (fun _=>z))
 intro v34 W hS
 refine .qn z (.seq (.g (.q z (.s (bF hS.lv T.u23 z z) z (.q z (.nil ?_))))))
 refine .cs z h ?_ ?_ <;> intro h
 ·refine .g (.s (bs T.s28 z z) z (.c (.st T.t28 hS.p3 z z z ?_)))
  intro W hS
  refine .q z (.qn z (.ret ?_))
  have hS:=hS.nilv 3 1 (D.int .i64)
  have hS:=hS.nilv 3 1 (D.int .i64)
  cases h
  exact ab (vs:=[_,_,_]) (aP,aP) (rc hS.p2 T.t28 z (rt z (rt z rn)) z z) z (hS.to [1,0])
 refine .skip (.seq ?_)
 have ⟨x7,hx7,h⟩:=bnd h
 have ⟨r12,hr12,h⟩:=bnd h
 refine .via (R':=fun x E' W'=>x = .normal ∧ ∃ (g2 : Nat) (v35 : Hd),aD E' [(4,pt g1),(14,vi (w64 (4 * (o4.1.length : Int)))),(15,vi (w64 ((w64 (4 * (o4.1.length : Int))) + 112))),(16,vi (w64 ((w64 ((w64 (4 * (o4.1.length : Int))) + 112)) + (w64 (64 * (a1.length : Int)))))),(22,pt g2)] ∧ Sep No w W' [ae (sv v34) 3 1 (D.int .i64) r11,ae (sv v18) 3 1 (D.int .i64) [0,(a1.length : Int),w64 ((w64 (4 * (o4.1.length : Int))) + 112),w64 ((w64 ((w64 (4 * (o4.1.length : Int))) + 112)) + (w64 (64 * (a1.length : Int))))],ae (sv v1) 105 5 aw y2,.box g1 28 [(sv aP),vi 0,(sv aP)],ae (sv v17) 3 1 (D.int .i64) o4.2,.box g2 28 [(sv v35),vi x7,(sv v34)],ae (sv v35) 3 1 (D.int .i64) r12]) ?_ ?_
 ·refine .rk 7 hS [0,0,0,0,0] T.mix ?_
  intro W hS
  have hT:=hS.to [0,0,0,0,0]
  refine .tp' 1 z z hT (.ts' 2 z (fun W hT=>ixv hS.p4.lv hx7 T.u23 T.t3 z z z) hT z (.ts' 3 z (fun W hT=>lde (RV.flat hT.p4.lv hx7 z) T.t3 z z z z z) hT z (.tp' 4 z z hT (.by [0,6] ⟨⟨_,z,?_⟩,⟨_,z,?_⟩,trivial⟩))))
  ·refine (.mkv 0 (D.int .i64) hr12 T.u23 T.t3 hS z z z z z (fun _=>z) ?_)
   intro v36 W hS
   have hT:=hS.to [1,1,1,1,1]
   refine ⟨fun _=>hT,.ts' 5 z (fun W hT=>bs T.s28 z z) hT z (.by1 6 z (.alloc T.t28 hS ?_))⟩
   intro g3 W hS
   have hT:=hS.to [2,2,2,2,2]
   refine ⟨fun _=>hT,.by1 7 z (.st T.t28 hS z z z ?_)⟩
   intro W hS
   refine ⟨fun h=>absurd z h,?_⟩
   exact .done (⟨z,g3,v36,sb z,hS.to [2,2,2,2,2,0,0]⟩)
  refine (.alloc T.t28 hS ?_)
  intro g4 W hS
  have hT:=hS.to [1,1,1,1,1]
  refine ⟨fun _=>hT,.by1 0 z (.mkv 0 (D.int .i64) hr12 T.u23 T.t3 hS z z z z z (fun _=>z) ?_)⟩
  intro v37 W hS
  have hT:=hS.to [2,2,2,2,2]
  refine ⟨fun _=>hT,.ts' 5 z (fun W hT=>bs T.s28 z z) hT z (.by1 7 z (.st T.t28 hS.p1 z z z ?_))⟩
  intro W hS
  refine ⟨fun h=>absurd z h,?_⟩
  exact .done (⟨z,g4,v37,sb z,hS.to [2,2,2,2,2,0,0]⟩)
 intro x E W hJ
 obtain ⟨rfl,g5,v38,hE,hS⟩:=hJ
 refine ⟨_,hE.sub,?_⟩
 refine .seq (.rk 14 hS [0,0,0,0,0,0] T.mix ?_)
 intro W hS
 have hT:=hS.to [0,0,0,0,0,0]
 refine .ts' 0 z (fun W hT=>fa T.f28_0 z z z) hT z (.ts' 1 z (fun W hT=>ld T.t23 hT.p5 z z z z z) hT z (.ts' 2 z (fun W hT=>fa T.f28_0 z z z) hT z (.ts' 3 z (fun W hT=>ld T.t23 hT.p5 z z z z z) hT z (.ts' 4 z (fun W hT=>fa T.f28_0 z z z) hT z (.ts' 5 z (fun W hT=>ld T.t23 hT.p5 z z z z z) hT z (.tp' 6 z z hT (.tp' 7 z z hT (.tp' 8 z z hT ?_))))))))
 have ⟨x8,hx8,h⟩:=bnd h
 refine .ts' 9 z (fun W hT=>ixv hS.p6.lv hx8 T.u23 T.t3 z z z) hT z ?_
 have ⟨r13,hr13,h⟩:=bnd h
 refine .by1 10 z (.sev hr13 hx8 hS.p6 T.t3 z z z z z z ?_)
 intro W hS
 have hT:=hS.to [1,1,1,1,1,1]
 refine ⟨fun _=>hT,?_⟩
 have ⟨x9,hx9,h⟩:=bnd h
 refine .ts' 11 z (fun W hT=>ixv hS.lv hx9 T.u23 T.t3 z z z) hT z ?_
 have ⟨r14,hr14,h⟩:=bnd h
 refine .by1 12 z (.sev hr14 hx9 hS T.t3 z z z z z z ?_)
 intro W hS
 have hT:=hS.to [1,1,1,1,1,1]
 refine ⟨fun _=>hT,?_⟩
 have ⟨x10,hx10,h⟩:=bnd h
 refine .ts' 13 z (fun W hT=>ixv hS.lv hx10 T.u23 T.t3 z z z) hT z ?_
 have ⟨r15,hr15,h⟩:=bnd h
 refine .by1 14 z (.sev hr15 hx10 hS T.t3 z z z z z z ?_)
 intro W hS
 refine ⟨fun h=>absurd z h,?_⟩
 refine .done (.g (.s (ld T.t28 hS.p6 z z z z z) z (.q z (.c (.st T.t28 hS.p4 z z z ?_)))))
 intro W hS
 cases h
 exact .q z (.qn z (.ret (ab (vs:=[_,_,_]) (v38,v34) (rc hS T.t28 z (rt z (rt z rn)) z z) z (hS.to [1,1]))))
def sq (w : World) (r : Bool) : Env → World → Prop:=Fin Tryz.prog Tryz.f31 No w (fun s : Unit=>.bool r) (fun s=>[]) .ret
theorem ru {a0 : List Int} {v_0 : Hd} {w : World} {r : Bool} (h : eL a0 = some r) (q_0 : RO w v_0 3 1 (D.int .i64) a0) : Cl 31 #[(sv v_0)] w (RU w (.bool r)):=by
 unfold eL at h
 refine ar Tryz.func31 z z ?_
 have hS:=Sep.start w
 refine .g (.qn z (.seq (.g (.qn z (.block ?_)))))
 have ⟨y1,hy1,h⟩:=bnd h
 refine .via (.iter (fun s1 E' W'=>aD E' [(0,(sv v_0)),(3,vi s1)] ∧ Sep No w W' []) (fun y2 x E' W'=>(match y2 with | .inl o1=>x = .ret ∧ sq w o1 E' W' | .inr o2=>x = .exit 0 ∧ aD E' [(0,(sv v_0))] ∧ Sep No w W' [])) hy1 ⟨sb rfl,hS.to [] rfl⟩ ?_) ?_
 ·intro s1 y3 E W h hI
  obtain ⟨hE,hS⟩:=hI
  refine CW.sub hE ?_
  unfold d8 at h
  refine .seq (.g (.q z (.q z (.s (bF (hS.keep q_0) T.u23 z z) z (.q z (.nil ?_))))))
  refine .cs z h ?_ ?_ <;> intro h
  ·refine .skip (.seq (.block (.g (.q z (.q z ?_)))))
   have ⟨x1,hx1,h⟩:=bnd h
   refine .s (ixv (hS.keep q_0) hx1 T.u23 T.t3 z z z) z (.s (lde (RV.flat (hS.keep q_0) hx1 z) T.t3 z z z z z) z ?_)
   have ⟨y4,hy4,h⟩:=bnd h
   refine .c (.cO hS Tryz.func32 (aQ hy4) z z ?_)
   intro W hS
   refine .q z (.nil ?_)
   refine .cs z h ?_ ?_ <;> intro h
   ·refine .g (.qn z (.ret ?_))
    cases h
    exact ⟨by simp,z,ab (vs:=[_]) () (rt z rn) z (hS.to [])⟩
   refine .skip (.region (.q z (.q z (.q z (.nil ?_)))))
   cases h
   exact ⟨z,sb z,hS.to []⟩
  refine .exit ?_
  cases h
  exact ⟨by simp,z,sb z,hS.to []⟩
 intro x E W hJ
 rcases y1 with o3 | o4
 ·obtain ⟨rfl,hF⟩:=hJ
  refine ⟨_,fun _ _ h=>h,?_⟩
  cases h
  exact hF
 obtain ⟨rfl,hE,hS⟩:=hJ
 refine ⟨_,hE.sub,?_⟩
 cases h
 exact .g (.q z (.s (bF (hS.keep q_0) T.u23 z z) z (.q z (.qn z (.ret (ab (vs:=[_]) () (rt z rn) z (hS.to [])))))))
theorem dN {a0 : Instr} {a1 : Int} {a2 : Int} {a3 : Int} {w : World} {r : Bool} (h : c7 a0 a1 a2 a3 = some r) : Cl 160 #[.agg #[vi a0.Op,vi a0.Rd,vi a0.Rs,vi a0.Rt,vi a0.Imm],vi a1,vi a2,vi a3] w (RU w (.bool r)):=by
 unfold c7 at h
 refine ar Tryz.func160 z z ?_
 have hS:=Sep.start w
 refine .g (.c (.box hS z z ?_))
 intro g1 W hS
 refine .qn z (.g (.s (fa T.f105_1 z z z) z (.s (ld T.t3 hS z z z z z) z (.q z (.q z ?_)))))
 have ⟨y1,hy1,h⟩:=bnd h
 refine .c (.cO hS Tryz.func32 (aQ hy1) z z ?_)
 intro W hS
 refine .q z ?_
 have ⟨b1,hb1,h⟩:=bnd h
 refine .cu 6 20 (b1) hS ?_ ?_
 ·refine .both (y1) (fun hb=>?_) (fun hb=>?_)
  ·have hg1:=hb
   have h:=aF hb hb1
   refine .g hg1 (.s (fa T.f105_2 z z z) z (.g hg1 (.s (ld T.t3 hS z z z z z) z (.g hg1 (.q z (.g hg1 (.q z ?_)))))))
   have ⟨y2,hy2,h⟩:=bnd h
   refine .g hg1 (.c (.cO hS Tryz.func32 (aQ hy2) z z ?_))
   intro W hS
   refine .s (pkt hg1 z z z) z ?_
   cases h
   exact .nil (ck 6 hS)
  refine .xx hb z (.xx hb z (.xx hb z (.xx hb z (.xx hb z ?_))))
  cases aG hb hb1
  exact .s (pkf hb z z z) z (.nil (ck 6 hS))
 intro W hS
 refine .q z ?_
 have ⟨b2,hb2,h⟩:=bnd h
 refine .cu 6 27 (b2) hS ?_ ?_
 ·refine .both (b1) (fun hb=>?_) (fun hb=>?_)
  ·have hg2:=hb
   have h:=aF hb hb2
   refine .g hg2 (.s (fa T.f105_3 z z z) z (.g hg2 (.s (ld T.t3 hS z z z z z) z (.g hg2 (.q z (.g hg2 (.q z ?_)))))))
   have ⟨y3,hy3,h⟩:=bnd h
   refine .g hg2 (.c (.cO hS Tryz.func32 (aQ hy3) z z ?_))
   intro W hS
   refine .s (pkt hg2 z z z) z ?_
   cases h
   exact .nil (ck 6 hS)
  refine .xx hb z (.xx hb z (.xx hb z (.xx hb z (.xx hb z ?_))))
  cases aG hb hb2
  exact .s (pkf hb z z z) z (.nil (ck 6 hS))
 intro W hS
 obtain rfl:=o9 h
 exact .qn z (.ret (ab (vs:=[_]) () (rt z rn) z (hS.to [])))
theorem nJ {a0 : Int} {a1 : Int} {a2 : Int} {w : World} {r : Bool} (h : gS a0 a1 a2 = some r) : Cl 161 #[vi a0,vi a1,vi a2] w (RU w (.bool r)):=by
 unfold gS at h
 refine ar Tryz.func161 z z ?_
 have hS:=Sep.start w
 refine .g (.qn z (.g (.q z (.q z (.q z ?_)))))
 have ⟨y1,hy1,h⟩:=bnd h
 refine .c (.cO hS Tryz.func32 (aQ hy1) z z ?_)
 intro W hS
 refine .q z (.cu 4 15 (y1 && ((Int.tmod a0 2) == 0)) hS ?_ ?_)
 ·refine .both (y1) (fun hb=>?_) (fun hb=>?_)
  ·have hg1:=hb
   exact .g hg1 (.q z (.g hg1 (.q z (.g hg1 (.q z (.s (pkt hg1 z z z) z (.nil (ck 4 hS z (bR hg1)))))))))
  exact .xx hb z (.xx hb z (.xx hb z (.s (pkf hb z z z) z (.nil (ck 4 hS z (bS hb))))))
 intro W hS
 cases h
 exact .qn z (.ret (ab (vs:=[_]) () (rt z rn) z (hS.to [])))
theorem pF {a0 : Instr} {w : World} {r : Bool} (h : dK a0 = some r) : Cl 115 #[.agg #[vi a0.Op,vi a0.Rd,vi a0.Rs,vi a0.Rt,vi a0.Imm]] w (RU w (.bool r)):=by
 unfold dK at h
 refine ar Tryz.func115 z z ?_
 have hS:=Sep.start w
 refine .g (.c (.box hS z z ?_))
 intro g1 W hS
 refine .qn z (.seq (.block (.g (.s (fa T.f105_0 z z z) z (.s (ld T.t3 hS z z z z z) z ?_)))))
 have ⟨y1,hy1,h⟩:=bnd h
 refine .c (.cO hS Tryz.func32 (aQ hy1) z z ?_)
 intro W hS
 refine .q z (.nil ?_)
 refine .cs z h ?_ ?_ <;> intro h
 ·refine .g (.s (ld T.t105 hS z z z z z) z ?_)
  have ⟨y2,hy2,h⟩:=bnd h
  refine .c (.cO hS Tryz.func160 (dN hy2) z z ?_)
  intro W hS
  refine .q z (.cu 4 13 (y2 && (a0.Imm == 0)) hS ?_ ?_)
  ·refine .both (y2) (fun hb=>?_) (fun hb=>?_)
   ·have hg1:=hb
    exact .g hg1 (.s (fa T.f105_4 z z z) z (.g hg1 (.s (ld T.t3 hS z z z z z) z (.g hg1 (.q z (.s (pkt hg1 z z z) z (.nil (ck 4 hS z (bR hg1)))))))))
   exact .xx hb z (.xx hb z (.xx hb z (.s (pkf hb z z z) z (.nil (ck 4 hS z (bS hb))))))
  intro W hS
  cases h
  exact .qn z (.ret (ab (vs:=[_]) () (rt z rn) z (hS.to [])))
 refine .g (.s (fa T.f105_0 z z z) z (.s (ld T.t3 hS z z z z z) z ?_))
 have ⟨y3,hy3,h⟩:=bnd h
 refine .c (.cO hS Tryz.func32 (aQ hy3) z z ?_)
 intro W hS
 refine .q z (.nil ?_)
 refine .cs z h ?_ ?_ <;> intro h
 ·refine .g (.s (ld T.t105 hS z z z z z) z ?_)
  have ⟨y4,hy4,h⟩:=bnd h
  refine .c (.cO hS Tryz.func160 (dN hy4) z z ?_)
  intro W hS
  refine .q z ?_
  have ⟨b1,hb1,h⟩:=bnd h
  refine .cu 4 24 (b1) hS ?_ ?_
  ·refine .both (y4) (fun hb=>?_) (fun hb=>?_)
   ·have hg2:=hb
    have h:=aF hb hb1
    refine .g hg2 (.s (fa T.f105_4 z z z) z (.g hg2 (.s (ld T.t3 hS z z z z z) z ?_)))
    have ⟨y5,hy5,h⟩:=bnd h
    refine .g hg2 (.c (.cO hS Tryz.func32 (aQ hy5) z z ?_))
    intro W hS
    refine .s (pkt hg2 z z z) z ?_
    cases h
    exact .nil (ck 4 hS)
   refine .xx hb z (.xx hb z (.xx hb z ?_))
   cases aG hb hb1
   exact .s (pkf hb z z z) z (.nil (ck 4 hS))
  intro W hS
  obtain rfl:=o9 h
  exact .qn z (.ret (ab (vs:=[_]) () (rt z rn) z (hS.to [])))
 refine .g (.s (fa T.f105_0 z z z) z (.s (ld T.t3 hS z z z z z) z (.q z (.q z (.nil ?_)))))
 refine .cs z h ?_ ?_ <;> intro h
 ·refine .g (.s (ld T.t105 hS z z z z z) z ?_)
  have ⟨y6,hy6,h⟩:=bnd h
  refine .c (.cO hS Tryz.func160 (dN hy6) z z ?_)
  intro W hS
  refine .q z ?_
  have ⟨b2,hb2,h⟩:=bnd h
  refine .cu 4 35 (b2) hS ?_ ?_
  ·refine .both (y6) (fun hb=>?_) (fun hb=>?_)
   ·have hg3:=hb
    have h:=aF hb hb2
    refine .g hg3 (.s (fa T.f105_4 z z z) z (.g hg3 (.s (ld T.t3 hS z z z z z) z ?_)))
    have ⟨y7,hy7,h⟩:=bnd h
    refine .g hg3 (.c (.cO hS Tryz.func32 (aQ hy7) z z ?_))
    intro W hS
    refine .s (pkt hg3 z z z) z ?_
    cases h
    exact .nil (ck 4 hS)
   refine .xx hb z (.xx hb z (.xx hb z ?_))
   cases aG hb hb2
   exact .s (pkf hb z z z) z (.nil (ck 4 hS))
  intro W hS
  obtain rfl:=o9 h
  exact .qn z (.ret (ab (vs:=[_]) () (rt z rn) z (hS.to [])))
 refine .g (.s (fa T.f105_0 z z z) z (.s (ld T.t3 hS z z z z z) z (.q z (.q z (.cu 4 44 ((a0.Op == 17) || (a0.Op == 18)) hS ?_ ?_)))))
 ·refine .both (a0.Op == 17) (fun hb=>?_) (fun hb=>?_)
  ·exact .xx hb z (.xx hb z (.xx hb z (.s (pkt hb z z z) z (.nil (ck 4 hS z (kL hb))))))
  have hg4:=hb
  exact .g hg4 (.s (fa T.f105_0 z z z) z (.g hg4 (.s (ld T.t3 hS z z z z z) z (.g hg4 (.q z (.s (pkf hg4 z z z) z (.nil (ck 4 hS z (kM hg4)))))))))
 intro W hS
 refine .q z (.nil ?_)
 refine .cs z h ?_ ?_ <;> intro h
 ·refine .g (.s (ld T.t105 hS z z z z z) z ?_)
  have ⟨y8,hy8,h⟩:=bnd h
  refine .c (.cO hS Tryz.func160 (dN hy8) z z ?_)
  intro W hS
  refine .q z ?_
  have ⟨b3,hb3,h⟩:=bnd h
  refine .cu 4 51 (b3) hS ?_ ?_
  ·refine .both (y8) (fun hb=>?_) (fun hb=>?_)
   ·have hg5:=hb
    have h:=aF hb hb3
    refine .g hg5 (.s (fa T.f105_4 z z z) z (.g hg5 (.s (ld T.t3 hS z z z z z) z ?_)))
    have ⟨y9,hy9,h⟩:=bnd h
    refine .g hg5 (.c (.cO hS Tryz.func161 (nJ hy9) z z ?_))
    intro W hS
    refine .s (pkt hg5 z z z) z ?_
    cases h
    exact .nil (ck 4 hS)
   refine .xx hb z (.xx hb z (.xx hb z ?_))
   cases aG hb hb3
   exact .s (pkf hb z z z) z (.nil (ck 4 hS))
  intro W hS
  obtain rfl:=o9 h
  exact .qn z (.ret (ab (vs:=[_]) () (rt z rn) z (hS.to [])))
 refine .g (.s (fa T.f105_0 z z z) z (.s (ld T.t3 hS z z z z z) z (.q z (.q z (.nil ?_)))))
 refine .cs z h ?_ ?_ <;> intro h
 ·refine .g (.s (ld T.t105 hS z z z z z) z ?_)
  have ⟨y10,hy10,h⟩:=bnd h
  refine .c (.cO hS Tryz.func160 (dN hy10) z z ?_)
  intro W hS
  refine .q z ?_
  have ⟨b4,hb4,h⟩:=bnd h
  refine .cu 4 62 (b4) hS ?_ ?_
  ·refine .both (y10) (fun hb=>?_) (fun hb=>?_)
   ·have hg6:=hb
    have h:=aF hb hb4
    refine .g hg6 (.s (fa T.f105_4 z z z) z (.g hg6 (.s (ld T.t3 hS z z z z z) z ?_)))
    have ⟨y11,hy11,h⟩:=bnd h
    refine .g hg6 (.c (.cO hS Tryz.func32 (aQ hy11) z z ?_))
    intro W hS
    refine .s (pkt hg6 z z z) z ?_
    cases h
    exact .nil (ck 4 hS)
   refine .xx hb z (.xx hb z (.xx hb z ?_))
   cases aG hb hb4
   exact .s (pkf hb z z z) z (.nil (ck 4 hS))
  intro W hS
  obtain rfl:=o9 h
  exact .qn z (.ret (ab (vs:=[_]) () (rt z rn) z (hS.to [])))
 refine .g (.s (fa T.f105_0 z z z) z (.s (ld T.t3 hS z z z z z) z (.q z (.q z (.nil ?_)))))
 refine .cs z h ?_ ?_ <;> intro h
 ·refine .g (.s (ld T.t105 hS z z z z z) z ?_)
  have ⟨y12,hy12,h⟩:=bnd h
  refine .c (.cO hS Tryz.func160 (dN hy12) z z ?_)
  intro W hS
  refine .q z ?_
  have ⟨b5,hb5,h⟩:=bnd h
  refine .cu 4 73 (b5) hS ?_ ?_
  ·refine .both (y12) (fun hb=>?_) (fun hb=>?_)
   ·have hg7:=hb
    have h:=aF hb hb5
    refine .g hg7 (.s (fa T.f105_4 z z z) z (.g hg7 (.s (ld T.t3 hS z z z z z) z ?_)))
    have ⟨y13,hy13,h⟩:=bnd h
    refine .g hg7 (.c (.cO hS Tryz.func161 (nJ hy13) z z ?_))
    intro W hS
    refine .s (pkt hg7 z z z) z ?_
    cases h
    exact .nil (ck 4 hS)
   refine .xx hb z (.xx hb z (.xx hb z ?_))
   cases aG hb hb5
   exact .s (pkf hb z z z) z (.nil (ck 4 hS))
  intro W hS
  obtain rfl:=o9 h
  exact .qn z (.ret (ab (vs:=[_]) () (rt z rn) z (hS.to [])))
 refine .skip (.g (.s (fa T.f105_0 z z z) z (.s (ld T.t3 hS z z z z z) z (.q z (.q z ?_)))))
 have ⟨b6,hb6,h⟩:=bnd h
 refine .cu 3 80 (b6) hS ?_ ?_
 ·refine .both (a0.Op == 21) (fun hb=>?_) (fun hb=>?_)
  ·have hg8:=hb
   have h:=aF hb hb6
   refine .g hg8 (.s (ld T.t105 hS z z z z z) z ?_)
   have ⟨y14,hy14,h⟩:=bnd h
   refine .g hg8 (.c (.cO hS Tryz.func160 (dN hy14) z z ?_))
   intro W hS
   refine .s (pkt hg8 z z z) z ?_
   cases h
   exact .nil (ck 3 hS)
  refine .xx hb z (.xx hb z ?_)
  cases aG hb hb6
  exact .s (pkf hb z z z) z (.nil (ck 3 hS))
 intro W hS
 refine .q z (.cu 4 85 (b6 && (a0.Imm == 0)) hS ?_ ?_)
 ·refine .both (b6) (fun hb=>?_) (fun hb=>?_)
  ·have hg9:=hb
   exact .g hg9 (.s (fa T.f105_4 z z z) z (.g hg9 (.s (ld T.t3 hS z z z z z) z (.g hg9 (.q z (.s (pkt hg9 z z z) z (.nil (ck 4 hS z (bR hg9)))))))))
  exact .xx hb z (.xx hb z (.xx hb z (.s (pkf hb z z z) z (.nil (ck 4 hS z (bS hb))))))
 intro W hS
 cases h
 exact .qn z (.ret (ab (vs:=[_]) () (rt z rn) z (hS.to [])))
theorem jX {a0 : Int} {a1 : Int} {w : World} {r : Int} (h : fz a0 a1 = some r) : Cl 163 #[vi a0,vi a1] w (RU w (.int .i64 r)):=by
 unfold fz at h
 refine ar Tryz.func163 z z ?_
 have hS:=Sep.start w
 refine .g (.qn z (.seq (.g (.q z (.q z (.nil ?_))))))
 refine .cs z h ?_ ?_ <;> intro h
 ·cases h
  exact .g (.q z (.q z (.q z (.qn z (.ret (ab (vs:=[_]) () (rt z rn) z (hS.to [])))))))
 obtain rfl:=o9 h
 exact .skip (.g (.q z (.qn z (.ret (ab (vs:=[_]) () (rt z rn) z (hS.to []))))))
theorem aV {a0 : Int} {a1 : Int} {w : World} {r : Int} (h : bc a0 a1 = some r) : Cl 164 #[vi a0,vi a1] w (RU w (.int .i64 r)):=by
 unfold bc at h
 refine ar Tryz.func164 z z ?_
 have hS:=Sep.start w
 refine .g (.qn z (.g (.q z (.q z ?_))))
 have ⟨y1,hy1,h⟩:=bnd h
 refine .c (.cO hS Tryz.func192 (ey hy1) z z ?_)
 intro W hS
 cases h
 exact .q z (.qn z (.ret (ab (vs:=[_]) () (rt z rn) z (hS.to []))))
theorem rv {a0 : Int} {w : World} {r : Int} (h : fU a0 = some r) : Cl 193 #[vi a0] w (RU w (.int .i64 r)):=by
 unfold fU at h
 refine ar Tryz.func193 z z ?_
 have hS:=Sep.start w
 refine .g (.qn z (.g (.c (.liv [0,0,0,4,6,7,6,4,1,5,2,0,3,2,0,2,0,1,0,0,0] (D.int .i64) T.u23 T.t3 hS z z z z ?_ z (fun _=>z)))))
 intro v1 W hS
 refine .q z (.q z ?_)
 have ⟨x1,hx1,h⟩:=bnd h
 obtain rfl:=o9 h
 exact .s (ixv hS.lv hx1 T.u23 T.t3 z z z) z (.s (lde (RV.flat hS.lv hx1 z) T.t3 z z z z z) z (.qn z (.ret (ab (vs:=[_]) () (rt z rn) z (hS.to [])))))
theorem jY {a0 : Instr} {a1 : Int} {w : World} {r : Int} (h : fA a0 a1 = some r) : Cl 166 #[.agg #[vi a0.Op,vi a0.Rd,vi a0.Rs,vi a0.Rt,vi a0.Imm],vi a1] w (RU w (.int .i64 r)):=by
 unfold fA at h
 refine ar Tryz.func166 z z ?_
 have hS:=Sep.start w
 refine .g (.c (.box hS z z ?_))
 intro g1 W hS
 refine .qn z (.seq (.rk 11 hS [0] T.mix ?_))
 intro W hS
 have hT:=hS.to [0]
 refine .ts' 0 z (fun W hT=>fa T.f105_2 z z z) hT z (.ts' 1 z (fun W hT=>ld T.t3 hT z z z z z) hT z (.ts' 3 z (fun W hT=>fa T.f105_0 z z z) hT z (.ts' 4 z (fun W hT=>ld T.t3 hT z z z z z) hT z (.tp' 8 z z hT ?_))))
 have ⟨y1,hy1,h⟩:=bnd h
 refine .by1 2 z (.cO hS Tryz.func164 (aV hy1) z z ?_)
 intro W hS
 have hT:=hS.to [0]
 refine ⟨fun _=>hT,?_⟩
 have ⟨y2,hy2,h⟩:=bnd h
 refine .by1 5 z (.cO hS Tryz.func193 (rv hy2) z z ?_)
 intro W hS
 have hT:=hS.to [0]
 refine ⟨fun _=>hT,?_⟩
 have ⟨y3,hy3,h⟩:=bnd h
 refine .by1 6 z (.cO hS Tryz.func164 (aV hy3) z z ?_)
 intro W hS
 have hT:=hS.to [0]
 refine ⟨fun _=>hT,?_⟩
 cases h
 exact .tp' 7 z z hT (.tp' 9 z z hT (.tp' 10 z z hT (.done (.ret (ab (vs:=[_]) () (rt z rn) z (hS.to []))))))
theorem mg {a0 : Instr} {a1 : Int} {w : World} {r : Int} (h : gw a0 a1 = some r) : Cl 162 #[.agg #[vi a0.Op,vi a0.Rd,vi a0.Rs,vi a0.Rt,vi a0.Imm],vi a1] w (RU w (.int .i64 r)):=by
 unfold gw at h
 refine ar Tryz.func162 z z ?_
 have hS:=Sep.start w
 refine .g (.c (.box hS z z ?_))
 intro g1 W hS
 refine .qn z (.seq (.rk 13 hS [0] T.mix ?_))
 intro W hS
 have hT:=hS.to [0]
 refine .ts' 0 z (fun W hT=>fa T.f105_4 z z z) hT z (.ts' 1 z (fun W hT=>ld T.t3 hT z z z z z) hT z (.ts' 4 z (fun W hT=>ld T.t105 hT z z z z z) hT z (.tp' 5 z z hT (.ts' 8 z (fun W hT=>fa T.f105_1 z z z) hT z (.ts' 9 z (fun W hT=>ld T.t3 hT z z z z z) hT z ?_)))))
 have ⟨y1,hy1,h⟩:=bnd h
 refine .by1 2 z (.cO hS Tryz.func163 (jX hy1) z z ?_)
 intro W hS
 have hT:=hS.to [0]
 refine ⟨fun _=>hT,?_⟩
 have ⟨y2,hy2,h⟩:=bnd h
 refine .by1 3 z (.cO hS Tryz.func164 (aV hy2) z z ?_)
 intro W hS
 have hT:=hS.to [0]
 refine ⟨fun _=>hT,?_⟩
 have ⟨y3,hy3,h⟩:=bnd h
 refine .by1 6 z (.cO hS Tryz.func166 (jY hy3) z z ?_)
 intro W hS
 have hT:=hS.to [0]
 refine ⟨fun _=>hT,.tp' 7 z z hT ?_⟩
 have ⟨y4,hy4,h⟩:=bnd h
 refine .by1 10 z (.cO hS Tryz.func164 (aV hy4) z z ?_)
 intro W hS
 have hT:=hS.to [0]
 refine ⟨fun _=>hT,?_⟩
 cases h
 exact .tp' 11 z z hT (.tp' 12 z z hT (.done (.ret (ab (vs:=[_]) () (rt z rn) z (hS.to [])))))
theorem qm {a0 : Instr} {w : World} {r : Int} (h : gx a0 = some r) : Cl 167 #[.agg #[vi a0.Op,vi a0.Rd,vi a0.Rs,vi a0.Rt,vi a0.Imm]] w (RU w (.int .i64 r)):=by
 unfold gx at h
 refine ar Tryz.func167 z z ?_
 have hS:=Sep.start w
 refine .g (.c (.box hS z z ?_))
 intro g1 W hS
 refine .qn z (.g (.s (fa T.f105_4 z z z) z (.s (ld T.t3 hS z z z z z) z ?_)))
 have ⟨y1,hy1,h⟩:=bnd h
 refine .c (.cO hS Tryz.func163 (jX hy1) z z ?_)
 intro W hS
 refine .qn z (.seq (.rk 12 hS [0] T.mix ?_))
 intro W hS
 have hT:=hS.to [0]
 refine .tp' 0 z z hT (.tp' 3 z z hT (.ts' 7 z (fun W hT=>fa T.f105_3 z z z) hT z (.ts' 8 z (fun W hT=>ld T.t3 hT z z z z z) hT z ?_)))
 have ⟨y2,hy2,h⟩:=bnd h
 refine .by1 1 z (.cO hS Tryz.func165 (cR hy2) z z ?_)
 intro W hS
 have hT:=hS.to [0]
 refine ⟨fun _=>hT,?_⟩
 have ⟨y3,hy3,h⟩:=bnd h
 refine .by1 2 z (.cO hS Tryz.func164 (aV hy3) z z ?_)
 intro W hS
 have hT:=hS.to [0]
 refine ⟨fun _=>hT,?_⟩
 have ⟨y4,hy4,h⟩:=bnd h
 refine .by1 4 z (.cO hS Tryz.func165 (cR hy4) z z ?_)
 intro W hS
 have hT:=hS.to [0]
 refine ⟨fun _=>hT,?_⟩
 have ⟨y5,hy5,h⟩:=bnd h
 refine .by1 5 z (.cO hS Tryz.func164 (aV hy5) z z ?_)
 intro W hS
 have hT:=hS.to [0]
 refine ⟨fun _=>hT,.tp' 6 z z hT ?_⟩
 have ⟨y6,hy6,h⟩:=bnd h
 refine .by1 9 z (.cO hS Tryz.func164 (aV hy6) z z ?_)
 intro W hS
 have hT:=hS.to [0]
 refine ⟨fun _=>hT,.tp' 10 z z hT (.tp' 11 z z hT (.done (.g (.q z (.s (ld T.t105 hS z z z z z) z ?_)))))⟩
 have ⟨y7,hy7,h⟩:=bnd h
 refine .c (.cO hS Tryz.func166 (jY hy7) z z ?_)
 intro W hS
 refine .q z (.q z ?_)
 have ⟨y8,hy8,h⟩:=bnd h
 refine .c (.cO hS Tryz.func165 (cR hy8) z z ?_)
 intro W hS
 have ⟨y9,hy9,h⟩:=bnd h
 refine .c (.cO hS Tryz.func164 (aV hy9) z z ?_)
 intro W hS
 refine .q z (.q z ?_)
 have ⟨y10,hy10,h⟩:=bnd h
 refine .c (.cO hS Tryz.func165 (cR hy10) z z ?_)
 intro W hS
 have ⟨y11,hy11,h⟩:=bnd h
 refine .c (.cO hS Tryz.func164 (aV hy11) z z ?_)
 intro W hS
 cases h
 exact .q z (.qn z (.ret (ab (vs:=[_]) () (rt z rn) z (hS.to []))))
theorem sr {a0 : Instr} {w : World} {r : Int} (h : jJ a0 = some r) : Cl 168 #[.agg #[vi a0.Op,vi a0.Rd,vi a0.Rs,vi a0.Rt,vi a0.Imm]] w (RU w (.int .i64 r)):=by
 unfold jJ at h
 refine ar Tryz.func168 z z ?_
 have hS:=Sep.start w
 refine .g (.c (.box hS z z ?_))
 intro g1 W hS
 refine .qn z (.g (.s (fa T.f105_4 z z z) z (.s (ld T.t3 hS z z z z z) z ?_)))
 have ⟨y1,hy1,h⟩:=bnd h
 refine .c (.cO hS Tryz.func163 (jX hy1) z z ?_)
 intro W hS
 refine .qn z (.g (.q z ?_))
 have ⟨y2,hy2,h⟩:=bnd h
 refine .c (.cO hS Tryz.func165 (cR hy2) z z ?_)
 intro W hS
 have ⟨y3,hy3,h⟩:=bnd h
 refine .c (.cO hS Tryz.func164 (aV hy3) z z ?_)
 intro W hS
 refine .q z ?_
 have ⟨y4,hy4,h⟩:=bnd h
 refine .c (.cO hS Tryz.func165 (cR hy4) z z ?_)
 intro W hS
 have ⟨y5,hy5,h⟩:=bnd h
 refine .c (.cO hS Tryz.func164 (aV hy5) z z ?_)
 intro W hS
 refine .q z (.q z ?_)
 have ⟨y6,hy6,h⟩:=bnd h
 refine .c (.cO hS Tryz.func165 (cR hy6) z z ?_)
 intro W hS
 have ⟨y7,hy7,h⟩:=bnd h
 refine .c (.cO hS Tryz.func164 (aV hy7) z z ?_)
 intro W hS
 refine .q z (.qn z (.seq (.rk 11 hS [0] T.mix ?_)))
 intro W hS
 have hT:=hS.to [0]
 refine .tp' 0 z z hT (.tp' 1 z z hT (.ts' 5 z (fun W hT=>fa T.f105_1 z z z) hT z (.ts' 6 z (fun W hT=>ld T.t3 hT z z z z z) hT z ?_)))
 have ⟨y8,hy8,h⟩:=bnd h
 refine .by1 2 z (.cO hS Tryz.func165 (cR hy8) z z ?_)
 intro W hS
 have hT:=hS.to [0]
 refine ⟨fun _=>hT,?_⟩
 have ⟨y9,hy9,h⟩:=bnd h
 refine .by1 3 z (.cO hS Tryz.func164 (aV hy9) z z ?_)
 intro W hS
 have hT:=hS.to [0]
 refine ⟨fun _=>hT,.tp' 4 z z hT ?_⟩
 have ⟨y10,hy10,h⟩:=bnd h
 refine .by1 7 z (.cO hS Tryz.func164 (aV hy10) z z ?_)
 intro W hS
 have hT:=hS.to [0]
 refine ⟨fun _=>hT,?_⟩
 cases h
 exact .tp' 8 z z hT (.tp' 9 z z hT (.tp' 10 z z hT (.done (.ret (ab (vs:=[_]) () (rt z rn) z (hS.to []))))))
theorem rx {a0 : Int} {w : World} {r : Int} (h : fV a0 = some r) : Cl 169 #[vi a0] w (RU w (.int .i64 r)):=by
 unfold fV at h
 refine ar Tryz.func169 z z ?_
 have hS:=Sep.start w
 refine .g (.qn z (.g (.c (.liv [0,32,1,1,1,0,0,0,0,32,0] (D.int .i64) T.u23 T.t3 hS z z z z ?_ z (fun _=>z)))))
 intro v1 W hS
 refine .q z (.q z ?_)
 have ⟨x1,hx1,h⟩:=bnd h
 obtain rfl:=o9 h
 exact .s (ixv hS.lv hx1 T.u23 T.t3 z z z) z (.s (lde (RV.flat hS.lv hx1 z) T.t3 z z z z z) z (.qn z (.ret (ab (vs:=[_]) () (rt z rn) z (hS.to [])))))
theorem qo {a0 : Instr} {w : World} {r : Int} (h : bB a0 = some r) : Cl 116 #[.agg #[vi a0.Op,vi a0.Rd,vi a0.Rs,vi a0.Rt,vi a0.Imm]] w (RU w (.int .i64 r)):=by
 unfold bB at h
 refine ar Tryz.func116 z z ?_
 have hS:=Sep.start w
 refine .g (.c (.box hS z z ?_))
 intro g1 W hS
 refine .qn z (.seq (.g (.s (fa T.f105_0 z z z) z (.s (ld T.t3 hS z z z z z) z (.nil (.block ?_))))))
 have ⟨y1,hy1,h⟩:=bnd h
 refine .seq (CW.via (R':=fun x E' W'=>x = .normal ∧ aD E' [(1,pt g1),(5,vi a0.Op),(6,.bool y1)] ∧ Sep No w W' [.box g1 105 [vi a0.Op,vi a0.Rd,vi a0.Rs,vi a0.Rt,vi a0.Imm]]) ?_ ?_)
 ·have h:=hy1
  refine .g (.q z (.q z (.nil ?_)))
  refine .cs z h ?_ ?_ <;> intro h
  ·refine .skip ?_
   cases h
   exact ⟨z,sb z,hS.to [0]⟩
  refine .region (.q z (.q z (.nil ?_)))
  cases h
  exact ⟨z,sb z,hS.to [0]⟩
 intro x E W hJ
 obtain ⟨rfl,hE,hS⟩:=hJ
 refine ⟨_,hE.sub,?_⟩
 refine .cs z h ?_ ?_ <;> intro h
 ·refine .g (.s (ld T.t105 hS z z z z z) z ?_)
  have ⟨y2,hy2,h⟩:=bnd h
  refine .c (.cO hS Tryz.func162 (mg hy2) z z ?_)
  intro W hS
  obtain rfl:=o9 h
  exact .qn z (.ret (ab (vs:=[_]) () (rt z rn) z (hS.to [])))
 refine .g (.q z (.q z (.nil ?_)))
 refine .cs z h ?_ ?_ <;> intro h
 ·refine .g (.s (ld T.t105 hS z z z z z) z ?_)
  have ⟨y3,hy3,h⟩:=bnd h
  refine .c (.cO hS Tryz.func162 (mg hy3) z z ?_)
  intro W hS
  obtain rfl:=o9 h
  exact .qn z (.ret (ab (vs:=[_]) () (rt z rn) z (hS.to [])))
 refine .g (.q z (.q z (.nil ?_)))
 refine .cs z h ?_ ?_ <;> intro h
 ·refine .g (.s (ld T.t105 hS z z z z z) z ?_)
  have ⟨y4,hy4,h⟩:=bnd h
  refine .c (.cO hS Tryz.func162 (mg hy4) z z ?_)
  intro W hS
  obtain rfl:=o9 h
  exact .qn z (.ret (ab (vs:=[_]) () (rt z rn) z (hS.to [])))
 refine .g (.q z (.q z (.nil ?_)))
 refine .cs z h ?_ ?_ <;> intro h
 ·refine .g (.s (fa T.f105_4 z z z) z (.s (ld T.t3 hS z z z z z) z ?_))
  have ⟨y5,hy5,h⟩:=bnd h
  refine .c (.cO hS Tryz.func163 (jX hy5) z z ?_)
  intro W hS
  refine .qn z (.seq (.rk 15 hS [0] T.mix ?_))
  intro W hS
  have hT:=hS.to [0]
  refine .tp' 0 z z hT (.ts' 3 z (fun W hT=>fa T.f105_3 z z z) hT z (.ts' 4 z (fun W hT=>ld T.t3 hT z z z z z) hT z (.ts' 7 z (fun W hT=>ld T.t105 hT z z z z z) hT z (.tp' 10 z z hT ?_))))
  have ⟨y6,hy6,h⟩:=bnd h
  refine .by1 1 z (.cO hS Tryz.func165 (cR hy6) z z ?_)
  intro W hS
  have hT:=hS.to [0]
  refine ⟨fun _=>hT,?_⟩
  have ⟨y7,hy7,h⟩:=bnd h
  refine .by1 2 z (.cO hS Tryz.func164 (aV hy7) z z ?_)
  intro W hS
  have hT:=hS.to [0]
  refine ⟨fun _=>hT,?_⟩
  have ⟨y8,hy8,h⟩:=bnd h
  refine .by1 5 z (.cO hS Tryz.func164 (aV hy8) z z ?_)
  intro W hS
  have hT:=hS.to [0]
  refine ⟨fun _=>hT,.tp' 6 z z hT ?_⟩
  have ⟨y9,hy9,h⟩:=bnd h
  refine .by1 8 z (.cO hS Tryz.func166 (jY hy9) z z ?_)
  intro W hS
  have hT:=hS.to [0]
  refine ⟨fun _=>hT,.tp' 9 z z hT ?_⟩
  have ⟨y10,hy10,h⟩:=bnd h
  refine .by1 11 z (.cO hS Tryz.func165 (cR hy10) z z ?_)
  intro W hS
  have hT:=hS.to [0]
  refine ⟨fun _=>hT,?_⟩
  have ⟨y11,hy11,h⟩:=bnd h
  refine .by1 12 z (.cO hS Tryz.func164 (aV hy11) z z ?_)
  intro W hS
  have hT:=hS.to [0]
  refine ⟨fun _=>hT,?_⟩
  cases h
  exact .tp' 13 z z hT (.tp' 14 z z hT (.done (.ret (ab (vs:=[_]) () (rt z rn) z (hS.to [])))))
 have ⟨y12,hy12,h⟩:=bnd h
 refine .seq (CW.via (R':=fun x E' W'=>x = .normal ∧ aD E' [(1,pt g1),(5,vi a0.Op),(38,.bool y12)] ∧ Sep No w W' [.box g1 105 [vi a0.Op,vi a0.Rd,vi a0.Rs,vi a0.Rt,vi a0.Imm]]) ?_ ?_)
 ·have h:=hy12
  refine .g (.q z (.q z (.nil ?_)))
  refine .cs z h ?_ ?_ <;> intro h
  ·refine .skip ?_
   cases h
   exact ⟨z,sb z,hS.to [0]⟩
  refine .region (.q z (.q z (.nil ?_)))
  cases h
  exact ⟨z,sb z,hS.to [0]⟩
 intro x E W hJ
 obtain ⟨rfl,hE,hS⟩:=hJ
 refine ⟨_,hE.sub,?_⟩
 refine .cs z h ?_ ?_ <;> intro h
 ·refine .g (.s (ld T.t105 hS z z z z z) z ?_)
  have ⟨y13,hy13,h⟩:=bnd h
  refine .c (.cO hS Tryz.func167 (qm hy13) z z ?_)
  intro W hS
  obtain rfl:=o9 h
  exact .qn z (.ret (ab (vs:=[_]) () (rt z rn) z (hS.to [])))
 refine .g (.q z (.q z (.nil ?_)))
 refine .cs z h ?_ ?_ <;> intro h
 ·refine .seq (.rk 9 hS [0] T.mix ?_)
  intro W hS
  have hT:=hS.to [0]
  refine .ts' 0 z (fun W hT=>fa T.f105_4 z z z) hT z (.ts' 1 z (fun W hT=>ld T.t3 hT z z z z z) hT z (.ts' 3 z (fun W hT=>fa T.f105_1 z z z) hT z (.ts' 4 z (fun W hT=>ld T.t3 hT z z z z z) hT z ?_)))
  have ⟨y14,hy14,h⟩:=bnd h
  refine .by1 2 z (.cO hS Tryz.func164 (aV hy14) z z ?_)
  intro W hS
  have hT:=hS.to [0]
  refine ⟨fun _=>hT,?_⟩
  have ⟨y15,hy15,h⟩:=bnd h
  refine .by1 5 z (.cO hS Tryz.func164 (aV hy15) z z ?_)
  intro W hS
  have hT:=hS.to [0]
  refine ⟨fun _=>hT,?_⟩
  cases h
  exact .tp' 6 z z hT (.tp' 7 z z hT (.tp' 8 z z hT (.done (.ret (ab (vs:=[_]) () (rt z rn) z (hS.to []))))))
 refine .g (.q z (.q z (.nil ?_)))
 refine .cs z h ?_ ?_ <;> intro h
 ·refine .g (.s (ld T.t105 hS z z z z z) z ?_)
  have ⟨y16,hy16,h⟩:=bnd h
  refine .c (.cO hS Tryz.func168 (sr hy16) z z ?_)
  intro W hS
  obtain rfl:=o9 h
  exact .qn z (.ret (ab (vs:=[_]) () (rt z rn) z (hS.to [])))
 refine .g (.q z (.q z (.nil ?_)))
 refine .cs z h ?_ ?_ <;> intro h
 ·cases h
  exact .g (.qn z (.ret (ab (vs:=[_]) () (rt z rn) z (hS.to []))))
 refine .skip (.seq (.rk 16 hS [0] T.mix ?_))
 intro W hS
 have hT:=hS.to [0]
 refine .ts' 0 z (fun W hT=>fa T.f105_0 z z z) hT z (.ts' 1 z (fun W hT=>ld T.t3 hT z z z z z) hT z (.ts' 4 z (fun W hT=>fa T.f105_3 z z z) hT z (.ts' 5 z (fun W hT=>ld T.t3 hT z z z z z) hT z (.ts' 8 z (fun W hT=>ld T.t105 hT z z z z z) hT z (.ts' 11 z (fun W hT=>fa T.f105_1 z z z) hT z (.ts' 12 z (fun W hT=>ld T.t3 hT z z z z z) hT z ?_))))))
 have ⟨y17,hy17,h⟩:=bnd h
 refine .by1 2 z (.cO hS Tryz.func169 (rx hy17) z z ?_)
 intro W hS
 have hT:=hS.to [0]
 refine ⟨fun _=>hT,?_⟩
 have ⟨y18,hy18,h⟩:=bnd h
 refine .by1 3 z (.cO hS Tryz.func164 (aV hy18) z z ?_)
 intro W hS
 have hT:=hS.to [0]
 refine ⟨fun _=>hT,?_⟩
 have ⟨y19,hy19,h⟩:=bnd h
 refine .by1 6 z (.cO hS Tryz.func164 (aV hy19) z z ?_)
 intro W hS
 have hT:=hS.to [0]
 refine ⟨fun _=>hT,.tp' 7 z z hT ?_⟩
 have ⟨y20,hy20,h⟩:=bnd h
 refine .by1 9 z (.cO hS Tryz.func166 (jY hy20) z z ?_)
 intro W hS
 have hT:=hS.to [0]
 refine ⟨fun _=>hT,.tp' 10 z z hT ?_⟩
 have ⟨y21,hy21,h⟩:=bnd h
 refine .by1 13 z (.cO hS Tryz.func164 (aV hy21) z z ?_)
 intro W hS
 have hT:=hS.to [0]
 refine ⟨fun _=>hT,?_⟩
 cases h
 exact .tp' 14 z z hT (.tp' 15 z z hT (.done (.ret (ab (vs:=[_]) () (rt z rn) z (hS.to [])))))
theorem oW {a0 : Instr} {w : World} {r : Int × Bool} (h : cB a0 = some r) : Cl 71 #[.agg #[vi a0.Op,vi a0.Rd,vi a0.Rs,vi a0.Rt,vi a0.Imm]] w (RU w (.tuple #[vi r.1,.bool r.2])):=by
 unfold cB at h
 refine ar Tryz.func71 z z ?_
 have hS:=Sep.start w
 refine .g (.c (.box hS z z ?_))
 intro g1 W hS
 refine .q z (.qn z (.seq (.g (.s (ld T.t105 hS z z z z z) z ?_))))
 have ⟨y1,hy1,h⟩:=bnd h
 refine .c (.cO hS Tryz.func115 (pF hy1) z z ?_)
 intro W hS
 refine .q z (.nil ?_)
 refine .cs z h ?_ ?_ <;> intro h
 ·cases h
  exact .g (.q z (.qn z (.ret (ab (vs:=[_,_]) () (rt z (rt z rn)) z (hS.to [])))))
 refine .skip (.g (.s (ld T.t105 hS z z z z z) z ?_))
 have ⟨y2,hy2,h⟩:=bnd h
 refine .c (.cO hS Tryz.func116 (qo hy2) z z ?_)
 intro W hS
 cases h
 exact .q z (.qn z (.ret (ab (vs:=[_,_]) () (rt z (rt z rn)) z (hS.to []))))
def t9 (w : World) (S : Nat → Prop) (v_0 : Hd) (v_1 : Hd) (a0 : List Int) (a1 : List Instr) (r : (List Int) × Bool) : Env → World → Prop:=Fin Tryz.prog Tryz.f33 S w (fun s : Hd=>.tuple #[(sv s),.bool r.2]) (fun s=>[ae (sv s) 3 1 (D.int .i64) r.1]) .ret
theorem nK {a0 : List Int} {a1 : List Instr} {v_0 : Hd} {v_1 : Hd} {S : Nat → Prop} {w : World} {r : (List Int) × Bool} (h : gU a0 a1 = some r) (q_1 : RV w (Old S w) (sv v_1) 105 5 aw a1) (hO : bO w [ae (sv v_0) 3 1 (D.int .i64) a0] S) (hlt : ∀ b,S b → b < w.heap.size) : Cl 33 #[(sv v_0),(sv v_1)] w (Ret S w (fun s : Hd=>.tuple #[(sv s),.bool r.2]) (fun s=>[ae (sv s) 3 1 (D.int .i64) r.1])):=by
 unfold gU at h
 refine ar Tryz.func33 z z ?_
 have hS:=Sep.sm hO hlt
 refine .g (.q z (.qn z (.seq (.g (.qn z (.block ?_))))))
 have ⟨y1,hy1,h⟩:=bnd h
 refine .via (.iter (fun s1 E' W'=>∃ (v3 : Hd),aD E' [(0,(sv v3)),(1,(sv v_1)),(6,vi s1.2)] ∧ Sep S w W' [ae (sv v3) 3 1 (D.int .i64) s1.1]) (fun y2 x E' W'=>(match y2 with | .inl o1=>x = .ret ∧ t9 w S v_0 v_1 a0 a1 o1 E' W' | .inr o2=>x = .exit 0 ∧ ∃ (v4 : Hd),aD E' [(0,(sv v4))] ∧ Sep S w W' [ae (sv v4) 3 1 (D.int .i64) o2])) hy1 ⟨v_0,sb rfl,hS.to [0] rfl⟩ ?_) ?_
 ·intro s1 y3 E W h hI
  obtain ⟨v2,hE,hS⟩:=hI
  refine CW.sub hE ?_
  unfold et at h
  refine .seq (.g (.q z (.q z (.s (bF (hS.keep q_1) T.u66 z z) z (.q z (.nil ?_))))))
  refine .cs z h ?_ ?_ <;> intro h
  ·refine .skip (.seq (.block (.g (.q z (.q z ?_)))))
   have ⟨x1,hx1,h⟩:=bnd h
   refine .s (ixv (hS.keep q_1) hx1 T.u66 T.t105 z z z) z (.s (lde (RV.flat (hS.keep q_1) hx1 z) T.t105 z z z z z) z ?_)
   have ⟨y4,hy4,h⟩:=bnd h
   refine .c (.cO hS Tryz.func71 (oW hy4) z z ?_)
   intro W hS
   refine .q z (.q z (.q z (.q z (.qn z (.seq (.g (.q z (.q z (.nil ?_)))))))))
   refine .cs z h ?_ ?_ <;> intro h
   ·refine .g (.q z (.q z (.qn z (.ret ?_))))
    cases h
    exact ⟨by simp,z,ab (vs:=[_,_]) v2 (rt z (rt z rn)) z (hS.to [0])⟩
   refine .skip (.region (.q z (.q z ?_)))
   have ⟨y5,hy5,h⟩:=bnd h
   refine .c (.cO hS Tryz.func72 (eI hy5) z z ?_)
   intro W hS
   refine .c (.liv [y5] (D.int .i64) T.u23 T.t3 hS z z z z ?_ z (fun _=>z))
   intro v5 W hS
   have ⟨r1,hr1,h⟩:=bnd h
   have hT0:=hS.p1
   refine .c (.av hr1 hT0 hT0.p1.lv (fun _=>z) T.u23 T.t3 z z z ?_)
   intro v6 W hS
   refine .qn z (.region (.q z (.q z (.q z (.nil ?_)))))
   cases h
   exact ⟨z,v6,sb z,hS.to [0]⟩
  refine .exit ?_
  cases h
  exact ⟨by simp,z,v2,sb z,hS.to [0]⟩
 intro x E W hJ
 rcases y1 with o3 | o4
 ·obtain ⟨rfl,hF⟩:=hJ
  refine ⟨_,fun _ _ h=>h,?_⟩
  cases h
  exact hF
 obtain ⟨rfl,v7,hE,hS⟩:=hJ
 refine ⟨_,hE.sub,?_⟩
 cases h
 exact .g (.q z (.q z (.qn z (.ret (ab (vs:=[_,_]) v7 (rt z (rt z rn)) z (hS.to [0]))))))
theorem bp {a0 : Int} {a1 : Int} {a2 : Int} {w : World} {r : Instr} (h : bM a0 a1 a2 = some r) : Cl 79 #[vi a0,vi a1,vi a2] w (RU w (.agg #[vi r.Op,vi r.Rd,vi r.Rs,vi r.Rt,vi r.Imm])):=by
 unfold bM at h
 refine ar Tryz.func79 z z ?_
 have hS:=Sep.start w
 refine .g (.c (.alloc T.t105 hS ?_))
 intro g1 W hS
 refine .nil (.g (.q z (.q z (.q z (.s (bs T.s105 z z) z (.c (.st T.t105 hS z z z ?_)))))))
 intro W hS
 cases h
 exact .nil (.ret (ab (vs:=[_]) () (rc hS T.t105 z rn z z) z (hS.to [])))
theorem dZ {a0 : Int} {a1 : Int} {a2 : Int} {a3 : Int} {a4 : Int} {w : World} {r : Instr} (h : eM a0 a1 a2 a3 a4 = some r) : Cl 117 #[vi a0,vi a1,vi a2,vi a3,vi a4] w (RU w (.agg #[vi r.Op,vi r.Rd,vi r.Rs,vi r.Rt,vi r.Imm])):=by
 unfold eM at h
 refine ar Tryz.func117 z z ?_
 have hS:=Sep.start w
 refine .g (.c (.alloc T.t105 hS ?_))
 intro g1 W hS
 refine .nil (.g (.q z (.q z (.q z (.q z (.q z (.q z (.q z (.s (bs T.s105 z z) z (.c (.st T.t105 hS z z z ?_)))))))))))
 intro W hS
 cases h
 exact .nil (.ret (ab (vs:=[_]) () (rc hS T.t105 z rn z z) z (hS.to [])))
theorem pf {a0 : Int} {a1 : Int} {w : World} {r : Instr} (h : m8 a0 a1 = some r) : Cl 118 #[vi a0,vi a1] w (RU w (.agg #[vi r.Op,vi r.Rd,vi r.Rs,vi r.Rt,vi r.Imm])):=by
 unfold m8 at h
 refine ar Tryz.func118 z z ?_
 have hS:=Sep.start w
 refine .g (.c (.alloc T.t105 hS ?_))
 intro g1 W hS
 refine .nil (.g (.q z (.q z (.q z (.q z (.s (bs T.s105 z z) z (.c (.st T.t105 hS z z z ?_))))))))
 intro W hS
 cases h
 exact .nil (.ret (ab (vs:=[_]) () (rc hS T.t105 z rn z z) z (hS.to [])))
theorem ry {w : World} {r : (List Instr)} (h : mw = some r) : Cl 73 #[] w (Ret No w (fun s : Hd=>(sv s)) (fun s=>[ae (sv s) 105 5 aw r])):=by
 unfold mw at h
 refine ar Tryz.func73 z z ?_
 have hS:=Sep.start w
 refine .g (.qn z (.seq (.region ?_)))
 have ⟨y1,hy1,h⟩:=bnd h
 refine .c (.cO hS Tryz.func79 (bp hy1) z z ?_)
 intro W hS
 have ⟨y2,hy2,h⟩:=bnd h
 refine .c (.cO hS Tryz.func117 (dZ hy2) z z ?_)
 intro W hS
 have ⟨y3,hy3,h⟩:=bnd h
 refine .c (.cO hS Tryz.func79 (bp hy3) z z ?_)
 intro W hS
 have ⟨y4,hy4,h⟩:=bnd h
 refine .c (.cO hS Tryz.func117 (dZ hy4) z z ?_)
 intro W hS
 have ⟨y5,hy5,h⟩:=bnd h
 refine .c (.cO hS Tryz.func79 (bp hy5) z z ?_)
 intro W hS
 have ⟨y6,hy6,h⟩:=bnd h
 refine .c (.cO hS Tryz.func117 (dZ hy6) z z ?_)
 intro W hS
 have ⟨y7,hy7,h⟩:=bnd h
 refine .c (.cO hS Tryz.func79 (bp hy7) z z ?_)
 intro W hS
 have ⟨y8,hy8,h⟩:=bnd h
 refine .c (.cO hS Tryz.func117 (dZ hy8) z z ?_)
 intro W hS
 have ⟨y9,hy9,h⟩:=bnd h
 refine .c (.cO hS Tryz.func118 (pf hy9) z z ?_)
 intro W hS
 refine .c (.liv [y1,y2,y3,y4,y5,y6,y7,y8,y9] aw T.u66 T.t105 hS z z z z ?_ z (fun _=>z))
 intro v1 W hS
 cases h
 exact .qn z (.ret (ab (vs:=[_]) v1 (rt z rn) z (hS.to [0])))
theorem dc {a0 : Int} {a1 : Int} {a2 : Int} {a3 : Int} {w : World} {r : Instr} (h : d9 a0 a1 a2 a3 = some r) : Cl 119 #[vi a0,vi a1,vi a2,vi a3] w (RU w (.agg #[vi r.Op,vi r.Rd,vi r.Rs,vi r.Rt,vi r.Imm])):=by
 unfold d9 at h
 refine ar Tryz.func119 z z ?_
 have hS:=Sep.start w
 refine .g (.c (.alloc T.t105 hS ?_))
 intro g1 W hS
 refine .nil (.g (.q z (.q z (.q z (.q z (.s (bs T.s105 z z) z (.c (.st T.t105 hS z z z ?_))))))))
 intro W hS
 cases h
 exact .nil (.ret (ab (vs:=[_]) () (rc hS T.t105 z rn z z) z (hS.to [])))
theorem ca {a0 : Int} {a1 : Int} {a2 : Int} {w : World} {r : Instr} (h : cD a0 a1 a2 = some r) : Cl 120 #[vi a0,vi a1,vi a2] w (RU w (.agg #[vi r.Op,vi r.Rd,vi r.Rs,vi r.Rt,vi r.Imm])):=by
 unfold cD at h
 refine ar Tryz.func120 z z ?_
 have hS:=Sep.start w
 refine .g (.c (.alloc T.t105 hS ?_))
 intro g1 W hS
 refine .nil (.g (.q z (.q z (.q z (.s (bs T.s105 z z) z (.c (.st T.t105 hS z z z ?_)))))))
 intro W hS
 cases h
 exact .nil (.ret (ab (vs:=[_]) () (rc hS T.t105 z rn z z) z (hS.to [])))
theorem cP {a0 : Int} {a1 : Int} {a2 : Int} {w : World} {r : Instr} (h : dl a0 a1 a2 = some r) : Cl 121 #[vi a0,vi a1,vi a2] w (RU w (.agg #[vi r.Op,vi r.Rd,vi r.Rs,vi r.Rt,vi r.Imm])):=by
 unfold dl at h
 refine ar Tryz.func121 z z ?_
 have hS:=Sep.start w
 refine .g (.c (.alloc T.t105 hS ?_))
 intro g1 W hS
 refine .nil (.g (.q z (.q z (.q z (.s (bs T.s105 z z) z (.c (.st T.t105 hS z z z ?_)))))))
 intro W hS
 cases h
 exact .nil (.ret (ab (vs:=[_]) () (rc hS T.t105 z rn z z) z (hS.to [])))
theorem i5 {a0 : Int} {w : World} {r : Instr} (h : gV a0 = some r) : Cl 122 #[vi a0] w (RU w (.agg #[vi r.Op,vi r.Rd,vi r.Rs,vi r.Rt,vi r.Imm])):=by
 unfold gV at h
 refine ar Tryz.func122 z z ?_
 have hS:=Sep.start w
 refine .g (.c (.alloc T.t105 hS ?_))
 intro g1 W hS
 refine .nil (.g (.q z (.s (bs T.s105 z z) z (.c (.st T.t105 hS z z z ?_)))))
 intro W hS
 cases h
 exact .nil (.ret (ab (vs:=[_]) () (rc hS T.t105 z rn z z) z (hS.to [])))
theorem ss {w : World} {r : (List Instr)} (h : m9 = some r) : Cl 74 #[] w (Ret No w (fun s : Hd=>(sv s)) (fun s=>[ae (sv s) 105 5 aw r])):=by
 unfold m9 at h
 refine ar Tryz.func74 z z ?_
 have hS:=Sep.start w
 refine .g (.qn z (.seq (.region ?_)))
 have ⟨y1,hy1,h⟩:=bnd h
 refine .c (.cO hS Tryz.func79 (bp hy1) z z ?_)
 intro W hS
 have ⟨y2,hy2,h⟩:=bnd h
 refine .c (.cO hS Tryz.func119 (dc hy2) z z ?_)
 intro W hS
 have ⟨y3,hy3,h⟩:=bnd h
 refine .c (.cO hS Tryz.func119 (dc hy3) z z ?_)
 intro W hS
 have ⟨y4,hy4,h⟩:=bnd h
 refine .c (.cO hS Tryz.func120 (ca hy4) z z ?_)
 intro W hS
 have ⟨y5,hy5,h⟩:=bnd h
 refine .c (.cO hS Tryz.func120 (ca hy5) z z ?_)
 intro W hS
 have ⟨y6,hy6,h⟩:=bnd h
 refine .c (.cO hS Tryz.func117 (dZ hy6) z z ?_)
 intro W hS
 have ⟨y7,hy7,h⟩:=bnd h
 refine .c (.cO hS Tryz.func120 (ca hy7) z z ?_)
 intro W hS
 have ⟨y8,hy8,h⟩:=bnd h
 refine .c (.cO hS Tryz.func119 (dc hy8) z z ?_)
 intro W hS
 have ⟨y9,hy9,h⟩:=bnd h
 refine .c (.cO hS Tryz.func119 (dc hy9) z z ?_)
 intro W hS
 have ⟨y10,hy10,h⟩:=bnd h
 refine .c (.cO hS Tryz.func79 (bp hy10) z z ?_)
 intro W hS
 have ⟨y11,hy11,h⟩:=bnd h
 refine .c (.cO hS Tryz.func119 (dc hy11) z z ?_)
 intro W hS
 have ⟨y12,hy12,h⟩:=bnd h
 refine .c (.cO hS Tryz.func119 (dc hy12) z z ?_)
 intro W hS
 have ⟨y13,hy13,h⟩:=bnd h
 refine .c (.cO hS Tryz.func121 (cP hy13) z z ?_)
 intro W hS
 have ⟨y14,hy14,h⟩:=bnd h
 refine .c (.cO hS Tryz.func79 (bp hy14) z z ?_)
 intro W hS
 have ⟨y15,hy15,h⟩:=bnd h
 refine .c (.cO hS Tryz.func121 (cP hy15) z z ?_)
 intro W hS
 have ⟨y16,hy16,h⟩:=bnd h
 refine .c (.cO hS Tryz.func121 (cP hy16) z z ?_)
 intro W hS
 have ⟨y17,hy17,h⟩:=bnd h
 refine .c (.cO hS Tryz.func122 (i5 hy17) z z ?_)
 intro W hS
 refine .c (.liv [y1,y2,y3,y4,y5,y6,y7,y8,y9,y10,y11,y12,y13,y14,y15,y16,y17] aw T.u66 T.t105 hS z z z z ?_ z (fun _=>z))
 intro v1 W hS
 cases h
 exact .qn z (.ret (ab (vs:=[_]) v1 (rt z rn) z (hS.to [0])))
theorem su {w : World} {r : (List Instr)} (h : nh = some r) : Cl 75 #[] w (Ret No w (fun s : Hd=>(sv s)) (fun s=>[ae (sv s) 105 5 aw r])):=by
 unfold nh at h
 refine ar Tryz.func75 z z ?_
 have hS:=Sep.start w
 refine .g (.qn z (.seq (.region ?_)))
 have ⟨y1,hy1,h⟩:=bnd h
 refine .c (.cO hS Tryz.func79 (bp hy1) z z ?_)
 intro W hS
 have ⟨y2,hy2,h⟩:=bnd h
 refine .c (.cO hS Tryz.func119 (dc hy2) z z ?_)
 intro W hS
 have ⟨y3,hy3,h⟩:=bnd h
 refine .c (.cO hS Tryz.func119 (dc hy3) z z ?_)
 intro W hS
 have ⟨y4,hy4,h⟩:=bnd h
 refine .c (.cO hS Tryz.func120 (ca hy4) z z ?_)
 intro W hS
 have ⟨y5,hy5,h⟩:=bnd h
 refine .c (.cO hS Tryz.func117 (dZ hy5) z z ?_)
 intro W hS
 have ⟨y6,hy6,h⟩:=bnd h
 refine .c (.cO hS Tryz.func120 (ca hy6) z z ?_)
 intro W hS
 have ⟨y7,hy7,h⟩:=bnd h
 refine .c (.cO hS Tryz.func120 (ca hy7) z z ?_)
 intro W hS
 have ⟨y8,hy8,h⟩:=bnd h
 refine .c (.cO hS Tryz.func79 (bp hy8) z z ?_)
 intro W hS
 have ⟨y9,hy9,h⟩:=bnd h
 refine .c (.cO hS Tryz.func119 (dc hy9) z z ?_)
 intro W hS
 have ⟨y10,hy10,h⟩:=bnd h
 refine .c (.cO hS Tryz.func119 (dc hy10) z z ?_)
 intro W hS
 have ⟨y11,hy11,h⟩:=bnd h
 refine .c (.cO hS Tryz.func120 (ca hy11) z z ?_)
 intro W hS
 have ⟨y12,hy12,h⟩:=bnd h
 refine .c (.cO hS Tryz.func79 (bp hy12) z z ?_)
 intro W hS
 have ⟨y13,hy13,h⟩:=bnd h
 refine .c (.cO hS Tryz.func119 (dc hy13) z z ?_)
 intro W hS
 have ⟨y14,hy14,h⟩:=bnd h
 refine .c (.cO hS Tryz.func121 (cP hy14) z z ?_)
 intro W hS
 have ⟨y15,hy15,h⟩:=bnd h
 refine .c (.cO hS Tryz.func79 (bp hy15) z z ?_)
 intro W hS
 have ⟨y16,hy16,h⟩:=bnd h
 refine .c (.cO hS Tryz.func121 (cP hy16) z z ?_)
 intro W hS
 have ⟨y17,hy17,h⟩:=bnd h
 refine .c (.cO hS Tryz.func121 (cP hy17) z z ?_)
 intro W hS
 have ⟨y18,hy18,h⟩:=bnd h
 refine .c (.cO hS Tryz.func122 (i5 hy18) z z ?_)
 intro W hS
 refine .c (.liv [y1,y2,y3,y4,y5,y6,y7,y8,y9,y10,y11,y12,y13,y14,y15,y16,y17,y18] aw T.u66 T.t105 hS z z z z ?_ z (fun _=>z))
 intro v1 W hS
 cases h
 exact .qn z (.ret (ab (vs:=[_]) v1 (rt z rn) z (hS.to [0])))
theorem rz {w : World} {r : (List Instr)} (h : my = some r) : Cl 76 #[] w (Ret No w (fun s : Hd=>(sv s)) (fun s=>[ae (sv s) 105 5 aw r])):=by
 unfold my at h
 refine ar Tryz.func76 z z ?_
 have hS:=Sep.start w
 refine .g (.qn z (.g (.s (bs T.s105 z z) z ?_)))
 have ⟨y1,hy1,h⟩:=bnd h
 refine .c (.cO hS Tryz.func121 (cP hy1) z z ?_)
 intro W hS
 have ⟨y2,hy2,h⟩:=bnd h
 refine .c (.cO hS Tryz.func122 (i5 hy2) z z ?_)
 intro W hS
 have ⟨y3,hy3,h⟩:=bnd h
 refine .c (.cO hS Tryz.func79 (bp hy3) z z ?_)
 intro W hS
 have ⟨y4,hy4,h⟩:=bnd h
 refine .c (.cO hS Tryz.func121 (cP hy4) z z ?_)
 intro W hS
 have ⟨y5,hy5,h⟩:=bnd h
 refine .c (.cO hS Tryz.func118 (pf hy5) z z ?_)
 intro W hS
 have ⟨y6,hy6,h⟩:=bnd h
 refine .c (.cO hS Tryz.func79 (bp hy6) z z ?_)
 intro W hS
 have ⟨y7,hy7,h⟩:=bnd h
 refine .c (.cO hS Tryz.func120 (ca hy7) z z ?_)
 intro W hS
 have ⟨y8,hy8,h⟩:=bnd h
 refine .c (.cO hS Tryz.func79 (bp hy8) z z ?_)
 intro W hS
 have ⟨y9,hy9,h⟩:=bnd h
 refine .c (.cO hS Tryz.func121 (cP hy9) z z ?_)
 intro W hS
 refine .c (.liv [(Instr.mk 21 0 0 0 0),y1,y2,y3,y4,y5,y6,y7,y8,y9] aw T.u66 T.t105 hS z z z z ?_ z (fun _=>z))
 intro v1 W hS
 cases h
 exact .qn z (.ret (ab (vs:=[_]) v1 (rt z rn) z (hS.to [0])))
theorem mX {w : World} {r : (List Int)} (h : kB = some r) : Cl 123 #[] w (Ret No w (fun s : Hd=>(sv s)) (fun s=>[ae (sv s) 3 1 (D.int .i64) r])):=by
 unfold kB at h
 refine ar Tryz.func123 z z ?_
 have hS:=Sep.start w
 refine .g (.qn z (.g (.c (.liv [1,2,8,9,18,19,20,21,22,23,10,11,17] (D.int .i64) T.u23 T.t3 hS z z z z ?_ z (fun _=>z)))))
 intro v1 W hS
 cases h
 exact .qn z (.ret (ab (vs:=[_]) v1 (rt z rn) z (hS.to [0])))
theorem sw {w : World} {r : (List Instr)} (h : jK = some r) : Cl 77 #[] w (Ret No w (fun s : Hd=>(sv s)) (fun s=>[ae (sv s) 105 5 aw r])):=by
 unfold jK at h
 refine ar Tryz.func77 z z ?_
 have hS:=Sep.start w
 refine .g (.qn z (.seq (.region ?_)))
 have ⟨y1,hy1,h⟩:=bnd h
 refine .c (.cO hS Tryz.func121 (cP hy1) z z ?_)
 intro W hS
 refine .c (.liv [y1] aw T.u66 T.t105 hS z z z z ?_ z (fun _=>z))
 intro v1 W hS
 refine .qn z (.seq (.region ?_))
 have ⟨y2,hy2,h⟩:=bnd h
 refine .c (.cV hS Tryz.func123 (mX hy2) z z ?_)
 intro v2 W hS
 refine .qn z (.seq (.g (.qn z (.block ?_))))
 have ⟨y3,hy3,h⟩:=bnd h
 refine .via (.iter (fun s1 E' W'=>∃ (v5 : Hd),aD E' [(1,(sv v5)),(2,(sv v2)),(3,vi s1.2)] ∧ Sep No w W' [ae (sv v2) 3 1 (D.int .i64) y2,ae (sv v5) 105 5 aw s1.1]) (fun y4 x E' W'=>x = .exit 0 ∧ ∃ (v6 : Hd),aD E' [(1,(sv v6))] ∧ Sep No w W' [ae (sv v2) 3 1 (D.int .i64) y2,ae (sv v6) 105 5 aw y4]) hy3 ⟨v1,sb z,hS.to [0,0]⟩ ?_) ?_
 ·intro s1 y5 E W h hI
  obtain ⟨v4,hE,hS⟩:=hI
  refine CW.sub hE ?_
  unfold ny at h
  refine .seq (.g (.q z (.q z (.s (bF hS.lv T.u23 z z) z (.q z (.nil ?_))))))
  refine .cs z h ?_ ?_ <;> intro h
  ·refine .skip (.seq (.block (.region (.q z (.q z (.q z ?_))))))
   have ⟨x1,hx1,h⟩:=bnd h
   refine .s (ixv hS.lv hx1 T.u23 T.t3 z z z) z (.s (lde (RV.flat hS.lv hx1 z) T.t3 z z z z z) z (.q z (.q z (.q z ?_))))
   have ⟨y6,hy6,h⟩:=bnd h
   refine .c (.cO hS Tryz.func121 (cP hy6) z z ?_)
   intro W hS
   refine .c (.liv [y6] aw T.u66 T.t105 hS z z z z ?_ z (fun _=>z))
   intro v7 W hS
   have ⟨r1,hr1,h⟩:=bnd h
   have hT0:=hS.p2
   refine .c (.av hr1 hT0 hT0.p1.lv (fun _=>z) T.u66 T.t105 z z z ?_)
   intro v8 W hS
   refine .qn z (.region (.q z (.q z (.q z (.nil ?_)))))
   cases h
   exact ⟨z,v8,sb z,hS.to [2,0]⟩
  refine .exit ?_
  cases h
  exact ⟨by simp,z,v4,sb z,hS.to [0,0]⟩
 intro x E W hJ
 obtain ⟨rfl,v9,hE,hS⟩:=hJ
 refine ⟨_,hE.sub,?_⟩
 obtain rfl:=o9 h
 exact .g (.q z (.qn z (.ret (ab (vs:=[_]) v9 (rt z rn) z (hS.to [1])))))
theorem sy {w : World} {r : (List Instr)} (h : jL = some r) : Cl 78 #[] w (Ret No w (fun s : Hd=>(sv s)) (fun s=>[ae (sv s) 105 5 aw r])):=by
 unfold jL at h
 refine ar Tryz.func78 z z ?_
 have hS:=Sep.start w
 refine .g (.qn z (.seq (.region ?_)))
 have ⟨y1,hy1,h⟩:=bnd h
 refine .c (.cO hS Tryz.func120 (ca hy1) z z ?_)
 intro W hS
 have ⟨y2,hy2,h⟩:=bnd h
 refine .c (.cO hS Tryz.func120 (ca hy2) z z ?_)
 intro W hS
 have ⟨y3,hy3,h⟩:=bnd h
 refine .c (.cO hS Tryz.func117 (dZ hy3) z z ?_)
 intro W hS
 have ⟨y4,hy4,h⟩:=bnd h
 refine .c (.cO hS Tryz.func79 (bp hy4) z z ?_)
 intro W hS
 have ⟨y5,hy5,h⟩:=bnd h
 refine .c (.cO hS Tryz.func120 (ca hy5) z z ?_)
 intro W hS
 have ⟨y6,hy6,h⟩:=bnd h
 refine .c (.cO hS Tryz.func117 (dZ hy6) z z ?_)
 intro W hS
 have ⟨y7,hy7,h⟩:=bnd h
 refine .c (.cO hS Tryz.func120 (ca hy7) z z ?_)
 intro W hS
 refine .c (.liv [y1,y2,y3,y4,y5,y6,y7] aw T.u66 T.t105 hS z z z z ?_ z (fun _=>z))
 intro v1 W hS
 refine .qn z (.seq (.region ?_))
 have ⟨y8,hy8,h⟩:=bnd h
 refine .c (.cV hS Tryz.func123 (mX hy8) z z ?_)
 intro v2 W hS
 refine .qn z (.seq (.g (.qn z (.block ?_))))
 have ⟨y9,hy9,h⟩:=bnd h
 refine .via (.iter (fun s1 E' W'=>∃ (v5 : Hd),aD E' [(1,(sv v5)),(2,(sv v2)),(3,vi s1.2)] ∧ Sep No w W' [ae (sv v2) 3 1 (D.int .i64) y8,ae (sv v5) 105 5 aw s1.1]) (fun y10 x E' W'=>x = .exit 0 ∧ ∃ (v6 : Hd),aD E' [(1,(sv v6))] ∧ Sep No w W' [ae (sv v2) 3 1 (D.int .i64) y8,ae (sv v6) 105 5 aw y10]) hy9 ⟨v1,sb z,hS.to [0,0]⟩ ?_) ?_
 ·intro s1 y11 E W h hI
  obtain ⟨v4,hE,hS⟩:=hI
  refine CW.sub hE ?_
  unfold nz at h
  refine .seq (.g (.q z (.q z (.s (bF hS.lv T.u23 z z) z (.q z (.nil ?_))))))
  refine .cs z h ?_ ?_ <;> intro h
  ·refine .skip (.seq (.block (.region (.q z (.q z (.q z ?_))))))
   have ⟨x1,hx1,h⟩:=bnd h
   refine .s (ixv hS.lv hx1 T.u23 T.t3 z z z) z (.s (lde (RV.flat hS.lv hx1 z) T.t3 z z z z z) z (.q z (.q z (.q z ?_))))
   have ⟨y12,hy12,h⟩:=bnd h
   refine .c (.cO hS Tryz.func120 (ca hy12) z z ?_)
   intro W hS
   refine .c (.liv [y12] aw T.u66 T.t105 hS z z z z ?_ z (fun _=>z))
   intro v7 W hS
   have ⟨r1,hr1,h⟩:=bnd h
   have hT0:=hS.p2
   refine .c (.av hr1 hT0 hT0.p1.lv (fun _=>z) T.u66 T.t105 z z z ?_)
   intro v8 W hS
   refine .qn z (.region (.q z (.q z (.q z (.nil ?_)))))
   cases h
   exact ⟨z,v8,sb z,hS.to [2,0]⟩
  refine .exit ?_
  cases h
  exact ⟨by simp,z,v4,sb z,hS.to [0,0]⟩
 intro x E W hJ
 obtain ⟨rfl,v9,hE,hS⟩:=hJ
 refine ⟨_,hE.sub,?_⟩
 refine .g (.q z ?_)
 have ⟨y13,hy13,h⟩:=bnd h
 refine .c (.cO hS Tryz.func120 (ca hy13) z z ?_)
 intro W hS
 have ⟨y14,hy14,h⟩:=bnd h
 refine .c (.cO hS Tryz.func122 (i5 hy14) z z ?_)
 intro W hS
 refine .c (.liv [y13,y14] aw T.u66 T.t105 hS z z z z ?_ z (fun _=>z))
 intro v10 W hS
 have ⟨r2,hr2,h⟩:=bnd h
 have hT0:=hS.p2
 refine .c (.av hr2 hT0 hT0.p1.lv (fun _=>z) T.u66 T.t105 z z z ?_)
 intro v11 W hS
 obtain rfl:=o9 h
 exact .qn z (.ret (ab (vs:=[_]) v11 (rt z rn) z (hS.to [0])))
end
noncomputable section
theorem sA {w : World} {r : (List Instr)} (h : jM = some r) : Cl 34 #[] w (Ret No w (fun s : Hd=>(sv s)) (fun s=>[ae (sv s) 105 5 aw r])):=by
 unfold jM at h
 refine ar Tryz.func34 z z ?_
 have hS:=Sep.start w
 refine .g (.qn z (.seq (.region ?_)))
 have ⟨y1,hy1,h⟩:=bnd h
 refine .c (.cV hS Tryz.func73 (ry hy1) z z ?_)
 intro v1 W hS
 have ⟨y2,hy2,h⟩:=bnd h
 refine .c (.cV hS Tryz.func74 (ss hy2) z z ?_)
 intro v2 W hS
 have ⟨r1,hr1,h⟩:=bnd h
 have hT0:=hS.p1
 refine .c (.av hr1 hT0 hT0.p1.lv (fun _=>z) T.u66 T.t105 z z z ?_)
 intro v3 W hS
 refine .qn z (.g (.q z ?_))
 have ⟨y3,hy3,h⟩:=bnd h
 refine .c (.cV hS Tryz.func75 (su hy3) z z ?_)
 intro v4 W hS
 have ⟨r2,hr2,h⟩:=bnd h
 have hT0:=hS.p1
 refine .c (.av hr2 hT0 hT0.p1.lv (fun _=>z) T.u66 T.t105 z z z ?_)
 intro v5 W hS
 refine .qn z (.g (.q z ?_))
 have ⟨y4,hy4,h⟩:=bnd h
 refine .c (.cV hS Tryz.func76 (rz hy4) z z ?_)
 intro v6 W hS
 have ⟨r3,hr3,h⟩:=bnd h
 have hT0:=hS.p1
 refine .c (.av hr3 hT0 hT0.p1.lv (fun _=>z) T.u66 T.t105 z z z ?_)
 intro v7 W hS
 refine .qn z (.g (.q z ?_))
 have ⟨y5,hy5,h⟩:=bnd h
 refine .c (.cV hS Tryz.func77 (sw hy5) z z ?_)
 intro v8 W hS
 have ⟨r4,hr4,h⟩:=bnd h
 have hT0:=hS.p1
 refine .c (.av hr4 hT0 hT0.p1.lv (fun _=>z) T.u66 T.t105 z z z ?_)
 intro v9 W hS
 refine .qn z (.g (.q z ?_))
 have ⟨y6,hy6,h⟩:=bnd h
 refine .c (.cV hS Tryz.func78 (sy hy6) z z ?_)
 intro v10 W hS
 have ⟨r5,hr5,h⟩:=bnd h
 have hT0:=hS.p1
 refine .c (.av hr5 hT0 hT0.p1.lv (fun _=>z) T.u66 T.t105 z z z ?_)
 intro v11 W hS
 refine .qn z (.g (.q z ?_))
 have ⟨y7,hy7,h⟩:=bnd h
 refine .c (.cO hS Tryz.func79 (bp hy7) z z ?_)
 intro W hS
 refine .s (bs T.s105 z z) z (.c (.liv [y7,(Instr.mk 21 0 0 0 0)] aw T.u66 T.t105 hS z z z z ?_ z (fun _=>z)))
 intro v12 W hS
 have ⟨r6,hr6,h⟩:=bnd h
 have hT0:=hS.p1
 refine .c (.av hr6 hT0 hT0.p1.lv (fun _=>z) T.u66 T.t105 z z z ?_)
 intro v13 W hS
 obtain rfl:=o9 h
 exact .qn z (.ret (ab (vs:=[_]) v13 (rt z rn) z (hS.to [0])))
theorem sB {a0 : Int} {a1 : List Int} {a2 : List Int} {v_1 : Hd} {v_2 : Hd} {w : World} {r : (List Int)} (h : jN a0 a1 a2 = some r) (q_1 : RO w v_1 3 1 (D.int .i64) a1) (q_2 : RO w v_2 3 1 (D.int .i64) a2) : Cl 35 #[vi a0,(sv v_1),(sv v_2)] w (Ret No w (fun s : Hd=>(sv s)) (fun s=>[ae (sv s) 3 1 (D.int .i64) r])):=by
 unfold jN at h
 refine ar Tryz.func35 z z ?_
 have hS:=Sep.start w
 refine .g (.qn z (.g (.q z (.s (bF (hS.keep q_2) T.u23 z z) z (.qn z (.g (.q z (.q z (.q z (.qn z (.g (.q z (.q z (.q z (.q z (.q z (.q z (.q z (.q z (.c (.liv [0,(a2.length : Int),w64 (4 * (w64 ((w64 (a0 + 4)) + 24))),w64 (4 * (w64 ((w64 ((w64 (a0 + 4)) + 24)) + (w64 (16 * (a2.length : Int))))))] (D.int .i64) T.u23 T.t3 hS z z z z ?_ z (fun _=>z))))))))))))))))))))))
 intro v1 W hS
 refine .qn z (.seq (.g (.qn z (.block ?_))))
 have ⟨y1,hy1,h⟩:=bnd h
 refine .via (.iter (fun s1 E' W'=>∃ (v4 : Hd),aD E' [(1,(sv v_1)),(2,(sv v_2)),(7,vi (a2.length : Int)),(8,vi (w64 ((w64 (a0 + 4)) + 24))),(9,(sv v4)),(10,vi s1.2)] ∧ Sep No w W' [ae (sv v4) 3 1 (D.int .i64) s1.1]) (fun y2 x E' W'=>x = .exit 0 ∧ ∃ (v5 : Hd),aD E' [(2,(sv v_2)),(7,vi (a2.length : Int)),(8,vi (w64 ((w64 (a0 + 4)) + 24))),(9,(sv v5))] ∧ Sep No w W' [ae (sv v5) 3 1 (D.int .i64) y2]) hy1 ⟨v1,sb z,hS.to [0]⟩ ?_) ?_
 ·intro s1 y3 E W h hI
  obtain ⟨v3,hE,hS⟩:=hI
  refine CW.sub hE ?_
  unfold fK at h
  refine .seq (.g (.q z (.q z (.nil ?_))))
  refine .cs z h ?_ ?_ <;> intro h
  ·refine .skip (.seq (.block (.g (.q z (.nil ?_)))))
   have ⟨y4,hy4,h⟩:=bnd h
   refine .seq (CW.via (R':=fun x E' W'=>x = .normal ∧ aD E' [(1,(sv v_1)),(2,(sv v_2)),(7,vi (a2.length : Int)),(8,vi (w64 ((w64 (a0 + 4)) + 24))),(9,(sv v3)),(10,vi s1.2),(11,vi y4)] ∧ Sep No w W' [ae (sv v3) 3 1 (D.int .i64) s1.1]) ?_ ?_)
   ·have h:=hy4
    refine .g (.q z (.q z (.s (bF (hS.keep q_1) T.u23 z z) z (.q z (.nil ?_)))))
    refine .cs z h ?_ ?_ <;> intro h
    ·refine .region (.q z (.q z ?_))
     have ⟨x1,hx1,h⟩:=bnd h
     refine .s (ixv (hS.keep q_1) hx1 T.u23 T.t3 z z z) z (.s (lde (RV.flat (hS.keep q_1) hx1 z) T.t3 z z z z z) z (.q z (.nil ?_)))
     obtain rfl:=o9 h
     exact ⟨z,sb z,hS.to [0]⟩
    refine .skip ?_
    cases h
    exact ⟨z,sb z,hS.to [0]⟩
   intro x E W hJ
   obtain ⟨rfl,hE,hS⟩:=hJ
   refine ⟨_,hE.sub,?_⟩
   refine .region (.q z (.q z (.c (.liv [y4,0,0,0,0,0,0,0] (D.int .i64) T.u23 T.t3 hS z z z z ?_ z (fun _=>z)))))
   intro v6 W hS
   have ⟨r1,hr1,h⟩:=bnd h
   have hT0:=hS.p1
   refine .c (.av hr1 hT0 hT0.p1.lv (fun _=>z) T.u23 T.t3 z z z ?_)
   intro v7 W hS
   refine .qn z (.region (.q z (.q z (.q z (.nil ?_)))))
   cases h
   exact ⟨z,v7,sb z,hS.to [0]⟩
  refine .exit ?_
  cases h
  exact ⟨by simp,z,v3,sb z,hS.to [0]⟩
 intro x E W hJ
 obtain ⟨rfl,v8,hE,hS⟩:=hJ
 refine ⟨_,hE.sub,?_⟩
 refine .seq (.g (.qn z (.block ?_)))
 have ⟨y5,hy5,h⟩:=bnd h
 refine .via (.iter (fun s2 E' W'=>∃ (v11 : Hd),aD E' [(2,(sv v_2)),(7,vi (a2.length : Int)),(8,vi (w64 ((w64 (a0 + 4)) + 24))),(9,(sv v11)),(12,vi s2.2)] ∧ Sep No w W' [ae (sv v11) 3 1 (D.int .i64) s2.1]) (fun y6 x E' W'=>x = .exit 2 ∧ ∃ (v12 : Hd),aD E' [(7,vi (a2.length : Int)),(9,(sv v12))] ∧ Sep No w W' [ae (sv v12) 3 1 (D.int .i64) y6]) hy5 ⟨v8,sb z,hS.to [0]⟩ ?_) ?_
 ·intro s2 y7 E W h hI
  obtain ⟨v10,hE,hS⟩:=hI
  refine CW.sub hE ?_
  unfold fL at h
  refine .seq (.g (.q z (.q z (.q z (.nil ?_)))))
  refine .cs z h ?_ ?_ <;> intro h
  ·refine .skip (.seq (.block (.seq (.region ?_))))
   have ⟨r2,hr2,h⟩:=bnd h
   refine .c (.mkv 0 (D.int .i64) hr2 T.u23 T.t3 hS z z z z z (fun _=>z) ?_)
   intro v13 W hS
   refine .qn z (.g (.q z (.q z (.q z ?_))))
   have ⟨x2,hx2,h⟩:=bnd h
   refine .s (ixv (hS.keep q_2) hx2 T.u23 T.t3 z z z) z (.s (lde (RV.flat (hS.keep q_2) hx2 z) T.t3 z z z z z) z (.q z ?_))
   have ⟨x3,hx3,h⟩:=bnd h
   refine .s (ixv hS.lv hx3 T.u23 T.t3 z z z) z ?_
   have ⟨r3,hr3,h⟩:=bnd h
   refine .c (.sev hr3 hx3 hS T.t3 z z z z z z ?_)
   intro W hS
   refine .nil (.g (.q z (.q z (.q z (.q z (.q z (.q z (.q z (.q z (.q z ?_))))))))))
   have ⟨x4,hx4,h⟩:=bnd h
   refine .s (ixv hS.lv hx4 T.u23 T.t3 z z z) z ?_
   have ⟨r4,hr4,h⟩:=bnd h
   refine .c (.sev hr4 hx4 hS T.t3 z z z z z z ?_)
   intro W hS
   refine .nil (.region (.q z (.q z ?_)))
   have ⟨r5,hr5,h⟩:=bnd h
   have hT0:=hS.p1
   refine .c (.av hr5 hT0 hT0.p1.lv (fun _=>z) T.u23 T.t3 z z z ?_)
   intro v14 W hS
   refine .qn z (.region (.q z (.q z (.q z (.nil ?_)))))
   cases h
   exact ⟨z,v14,sb z,hS.to [0]⟩
  refine .exit ?_
  cases h
  exact ⟨by simp,z,v10,sb z,hS.to [0]⟩
 intro x E W hJ
 obtain ⟨rfl,v15,hE,hS⟩:=hJ
 refine ⟨_,hE.sub,?_⟩
 refine .g (.q z (.q z (.q z ?_)))
 have ⟨r6,hr6,h⟩:=bnd h
 refine .c (.appz 0 hr6 hS T.u23 T.u3 T.t3 z z z z ?_ (fun _=>z))
 intro v16 W hS
 obtain rfl:=o9 h
 exact .qn z (.ret (ab (vs:=[_]) v16 (rt z rn) z (hS.to [0])))
theorem sC {a0 : List Int} {a1 : Int} {a2 : Int} {v_0 : Hd} {S : Nat → Prop} {w : World} {r : ai} (h : jO a0 a1 a2 = some r) (hO : bO w [ae (sv v_0) 3 1 (D.int .i64) a0] S) (hlt : ∀ b,S b → b < w.heap.size) : Cl 36 #[(sv v_0),vi a1,vi a2] w (Ret S w (fun s : Hd × Hd=>.agg #[(sv s.1),vi r.Pc,(sv s.2)]) (fun s=>[ae (sv s.1) 3 1 (D.int .i64) r.Regs,ae (sv s.2) 3 1 (D.int .i64) r.Mem])):=by
 unfold jO at h
 refine ar Tryz.func36 z z ?_
 have hS:=Sep.sm hO hlt
 refine .g (.c (.alloc T.t28 hS ?_))
 intro g1 W hS
 refine .nil (.seq (.region ?_))
 have ⟨r1,hr1,h⟩:=bnd h
 refine .c (.mkv 0 (D.int .i64) hr1 T.u23 T.t3 hS z z z z z (fun _=>z) ?_)
 intro v1 W hS
 refine .q z (.q z (.q z (.s (bs T.s28 z z) z (.c (.alloc T.t28 hS ?_)))))
 intro g2 W hS
 refine .c (.st T.t28 hS z z z ?_)
 intro W hS
 refine .nil (.g (.q z (.q z (.q z (.qn z (.seq (.rk 8 hS [0,0,0,0] T.mix ?_)))))))
 intro W hS
 have hT:=hS.to [0,0,0,0]
 refine .ts' 0 z (fun W hT=>fa T.f28_0 z z z) hT z (.ts' 1 z (fun W hT=>ld T.t23 hT z z z z z) hT z (.tp' 2 z z hT (.tp' 3 z z hT (.tp' 4 z z hT ?_))))
 have ⟨x1,hx1,h⟩:=bnd h
 refine .ts' 5 z (fun W hT=>ixv hS.p3.lv hx1 T.u23 T.t3 z z z) hT z (.ts' 6 z (fun W hT=>lde (RV.flat hT.p3.lv hx1 z) T.t3 z z z z z) hT z ?_)
 have ⟨x2,hx2,h⟩:=bnd h
 refine .ts' 7 z (fun W hT=>ixv hS.p1.lv hx2 T.u23 T.t3 z z z) hT z ?_
 have ⟨r2,hr2,h⟩:=bnd h
 refine .by1 8 z (.sev hr2 hx2 hS.p1 T.t3 z z z z z z ?_)
 intro W hS
 refine ⟨fun h=>absurd z h,?_⟩
 refine .done (.g (.s (fa T.f28_0 z z z) z (.s (ld T.t23 hS.p1 z z z z z) z (.q z (.q z ?_)))))
 have ⟨x3,hx3,h⟩:=bnd h
 refine .s (ixv hS.lv hx3 T.u23 T.t3 z z z) z ?_
 have ⟨r3,hr3,h⟩:=bnd h
 refine .c (.sev hr3 hx3 hS T.t3 z z z z z z ?_)
 intro W hS
 refine .nil (.g (.s (fa T.f28_0 z z z) z (.s (ld T.t23 hS.p1 z z z z z) z (.q z (.q z ?_)))))
 have ⟨x4,hx4,h⟩:=bnd h
 refine .s (ixv hS.lv hx4 T.u23 T.t3 z z z) z ?_
 have ⟨r4,hr4,h⟩:=bnd h
 refine .c (.sev hr4 hx4 hS T.t3 z z z z z z ?_)
 intro W hS
 refine .nil (.g (.s (ld T.t28 hS.p1 z z z z z) z (.c (.st T.t28 hS.p2 z z z ?_))))
 intro W hS
 cases h
 exact .nil (.ret (ab (vs:=[_]) (v1,v_0) (rc hS T.t28 z rn z z) z (hS.to [1,2])))
def sD (w : World) (r : ai × Int × Bool) : Env → World → Prop:=Fin Tryz.prog Tryz.f12 No w (fun s : Hd × Hd=>.tuple #[.agg #[(sv s.1),vi r.1.Pc,(sv s.2)],vi r.2.1,.bool r.2.2]) (fun s=>[ae (sv s.1) 3 1 (D.int .i64) r.1.Regs,ae (sv s.2) 3 1 (D.int .i64) r.1.Mem]) .ret
theorem rC {a0 : List Int} {a1 : List (List Instr)} {v_0 : Hd} {v_1 : Hd} {w : World} {r : ai × Int × Bool} (h : cZ a0 a1 = some r) (q_0 : RO w v_0 3 1 (D.int .i64) a0) (q_1 : RO w v_1 66 1 (fun (l : List Instr)=>D.row 105 5 (l.map aw)) a1) : Cl 12 #[(sv v_0),(sv v_1)] w (Ret No w (fun s : Hd × Hd=>.tuple #[.agg #[(sv s.1),vi r.1.Pc,(sv s.2)],vi r.2.1,.bool r.2.2]) (fun s=>[ae (sv s.1) 3 1 (D.int .i64) r.1.Regs,ae (sv s.2) 3 1 (D.int .i64) r.1.Mem])):=by
 unfold cZ at h
 refine ar Tryz.func12 z z ?_
 have hS:=Sep.start w
 refine .g (.c (.alloc T.t28 hS ?_))
 intro g1 W hS
 refine .q z (.qn z (.g (.s (bs T.s28 z z) z (.c (.alloc T.t28 hS ?_)))))
 intro g2 W hS
 refine .c (.st T.t28 hS z z z ?_)
 intro W hS
 refine .nil (.seq (.g (.q z ?_)))
 have ⟨y1,hy1,h⟩:=bnd h
 refine .c (.cO hS Tryz.func31 (ru hy1 (hS.keep q_0)) z z ?_)
 intro W hS
 refine .q z (.q z ?_)
 have ⟨b1,hb1,h⟩:=bnd h
 refine .cu 5 24 (b1) hS ?_ ?_
 ·refine .both (!y1) (fun hb=>?_) (fun hb=>?_)
  ·refine .xx hb z (.xx hb z (.xx hb z (.xx hb z ?_)))
   cases aF hb hb1
   exact .s (pkt hb z z z) z (.nil (ck 5 hS))
  have hg1:=hb
  have h:=aG hb hb1
  refine .g hg1 (.q z (.g hg1 (.s (bF (hS.keep q_1) T.u24 z z) z ?_)))
  have ⟨y2,hy2,h⟩:=bnd h
  refine .g hg1 (.c (.cO hS Tryz.func32 (aQ hy2) z z ?_))
  intro W hS
  refine .g hg1 (.q z (.s (pkf hg1 z z z) z ?_))
  cases h
  exact .nil (ck 5 hS)
 intro W hS
 refine .nil (.cond z (fun hb=>?_) (fun hb=>?_))
 ·have h:=aF hb h
  refine .g (.s (ld T.t28 hS z z z z z) z (.c (.st T.t28 hS.p1 z z z ?_)))
  intro W hS
  refine .q z (.qn z (.ret ?_))
  have hS:=hS.nilv 3 1 (D.int .i64)
  have hS:=hS.nilv 3 1 (D.int .i64)
  cases h
  exact ab (vs:=[_,_,_]) (aP,aP) (rc hS.p2 T.t28 z (rt z (rt z rn)) z z) z (hS.to [1,0])
 have h:=aG hb h
 refine .skip (.g (.c (.liv [] (D.int .i64) T.u23 T.t3 hS z z z z ?_ z (fun _=>z))))
 intro v1 W hS
 have ⟨y3,hy3,h⟩:=bnd h
 refine .c (.cV hS Tryz.func34 (sA hy3) z z ?_)
 intro v2 W hS
 have ⟨y4,hy4,h⟩:=bnd h
 have hS:=hS.p1
 refine .c (.cS (L0:=[ae (sv v1) 3 1 (D.int .i64) []]) hS Tryz.func33 (fun S h1 h2 h3=>(nK hy4 (h3.rdv (k:=0) z) h2 (zz h1))) z z ?_)
 rintro v3 W hS
 refine .q z (.q z (.q z (.q z (.qn z (.g (.c (.liv [] (D.int .i64) T.u23 T.t3 hS z z z z ?_ z (fun _=>z))))))))
 intro v4 W hS
 refine .qn z (.seq (.g (.qn z (.block ?_))))
 have ⟨y5,hy5,h⟩:=bnd h
 refine .via (.iter (fun s1 E' W'=>∃ (v9 : Hd) (v10 : Hd),aD E' [(0,(sv v_0)),(1,(sv v_1)),(4,pt g1),(7,pt g2),(8,(sv v9)),(10,(sv v10)),(11,vi s1.2.2)] ∧ Sep No w W' [ae (sv v2) 105 5 aw y3,.box g2 28 [(sv aP),vi 0,(sv aP)],.box g1 28 [(sv aP),vi 0,(sv aP)],ae (sv v9) 3 1 (D.int .i64) s1.1,ae (sv v10) 3 1 (D.int .i64) s1.2.1]) (fun y6 x E' W'=>(match y6 with | .inl o1=>x = .ret ∧ sD w o1 E' W' | .inr o2=>x = .exit 0 ∧ ∃ (v11 : Hd) (v12 : Hd),aD E' [(0,(sv v_0)),(4,pt g1),(7,pt g2),(8,(sv v11)),(10,(sv v12))] ∧ Sep No w W' [ae (sv v2) 105 5 aw y3,.box g2 28 [(sv aP),vi 0,(sv aP)],.box g1 28 [(sv aP),vi 0,(sv aP)],ae (sv v11) 3 1 (D.int .i64) o2.1,ae (sv v12) 3 1 (D.int .i64) o2.2])) hy5 ⟨v3,v4,sb rfl,hS.to [2,2,2,1,0] rfl⟩ ?_) ?_
 ·intro s1 y7 E W h hI
  obtain ⟨v7,v8,hE,hS⟩:=hI
  refine CW.sub hE ?_
  unfold ea at h
  refine .seq (.g (.q z (.q z (.s (bF (hS.keep q_1) T.u24 z z) z (.q z (.nil ?_))))))
  refine .cs z h ?_ ?_ <;> intro h
  ·refine .skip (.seq (.block (.g (.q z (.q z (.s (bF hS.p3.lv T.u23 z z) z (.c (.liv [(s1.1.length : Int)] (D.int .i64) T.u23 T.t3 hS z z z z ?_ z (fun _=>z)))))))))
   intro v13 W hS
   have ⟨r1,hr1,h⟩:=bnd h
   have hT0:=hS.p5
   refine .c (.av hr1 hT0 hT0.p1.lv (fun _=>z) T.u23 T.t3 z z z ?_)
   intro v14 W hS
   refine .qn z (.seq (.g (.q z (.q z ?_))))
   have ⟨x1,hx1,h⟩:=bnd h
   obtain ⟨k1,hd,hck1⟩:=RV.el2 q_1 hx1
   obtain ⟨v15,k1,rfl,q9,hd1⟩:=jc q_1 hd
   obtain rfl:=rO q_1 hd1
   refine .s (ixv (hS.keep q_1) hx1 T.u24 T.t66 z z z) z (.s (lde (hck1 _ hS.agree) T.t66 z z z z z) z (.s (bF (hS.keep (q9 _ q_1)) T.u66 z z) z (.qn z (.cond z (fun hb=>?_) (fun hb=>?_)))))
   ·have h:=aF hb h
    refine .g (.s (ld T.t28 hS.p3 z z z z z) z (.c (.st T.t28 hS.p4 z z z ?_)))
    intro W hS
    refine .q z (.qn z (.ret ?_))
    have hS:=hS.nilv 3 1 (D.int .i64)
    have hS:=hS.nilv 3 1 (D.int .i64)
    cases h
    exact ⟨by simp,z,ab (vs:=[_,_,_]) (aP,aP) (rc hS.p2 T.t28 z (rt z (rt z rn)) z z) z (hS.to [1,0])⟩
   have h:=aG hb h
   refine .skip (.g (.q z (.q z (.q z ?_))))
   have ⟨x2,hx2,h⟩:=bnd h
   obtain ⟨k2,hd,hck2⟩:=RV.el2 q_1 hx2
   obtain ⟨v16,k2,rfl,q10,hd1⟩:=jc q_1 hd
   obtain rfl:=rO q_1 hd1
   refine .s (ixv (hS.keep q_1) hx2 T.u24 T.t66 z z z) z (.s (lde (hck2 _ hS.agree) T.t66 z z z z z) z ?_)
   have ⟨y8,hy8,h⟩:=bnd h
   have hS:=hS.p5
   refine .c (.cS (L0:=[ae (sv v7) 3 1 (D.int .i64) s1.1]) hS Tryz.func33 (fun S h1 h2 h3=>(nK hy8 (hS.ks (q10 _ q_1) h1) h2 (zz h1))) z z ?_)
   rintro v17 W hS
   refine .q z (.q z (.q z (.q z (.qn z (.seq (.g (.q z (.q z (.nil ?_)))))))))
   refine .cs z h ?_ ?_ <;> intro h
   ·refine .g (.s (ld T.t28 hS.p4 z z z z z) z (.c (.st T.t28 hS.p5 z z z ?_)))
    intro W hS
    refine .q z (.qn z (.ret ?_))
    have hS:=hS.nilv 3 1 (D.int .i64)
    have hS:=hS.nilv 3 1 (D.int .i64)
    cases h
    exact ⟨by simp,z,ab (vs:=[_,_,_]) (aP,aP) (rc hS.p2 T.t28 z (rt z (rt z rn)) z z) z (hS.to [1,0])⟩
   refine .skip (.region (.q z (.qn z (.region (.q z (.q z (.q z (.nil ?_))))))))
   cases h
   exact ⟨z,v17,v14,sb z,hS.to [3,3,3,0,0]⟩
  refine .exit ?_
  cases h
  exact ⟨by simp,z,v7,v8,sb z,hS.to [0,0,0,0,0]⟩
 intro x E W hJ
 rcases y5 with o3 | o4
 ·obtain ⟨rfl,hF⟩:=hJ
  refine ⟨_,fun _ _ h=>h,?_⟩
  cases h
  exact hF
 obtain ⟨rfl,v18,v19,hE,hS⟩:=hJ
 refine ⟨_,hE.sub,?_⟩
 refine .g (.q z (.s (bF hS.p3.lv T.u23 z z) z (.qn z (.g (.q z (.q z (.q z (.q z ?_))))))))
 have ⟨y9,hy9,h⟩:=bnd h
 refine .c (.cV hS Tryz.func35 (sB hy9 (hS.keep q_0) hS.p4.lv) z z ?_)
 intro v20 W hS
 have ⟨r2,hr2,h⟩:=bnd h
 have hT0:=hS.p4
 refine .c (.av hr2 hT0 hT0.p1.lv (fun _=>z) T.u23 T.t3 z z z ?_)
 intro v21 W hS
 refine .qn z (.seq (.g (.q z (.s (bF hS.lv T.u23 z z) z (.qn z (.cond z (fun hb=>?_) (fun hb=>?_)))))))
 ·have h:=aF hb h
  refine .g (.s (ld T.t28 hS.p3 z z z z z) z (.c (.st T.t28 hS.p4 z z z ?_)))
  intro W hS
  refine .q z (.qn z (.ret ?_))
  have hS:=hS.nilv 3 1 (D.int .i64)
  have hS:=hS.nilv 3 1 (D.int .i64)
  cases h
  exact ab (vs:=[_,_,_]) (aP,aP) (rc hS.p2 T.t28 z (rt z (rt z rn)) z z) z (hS.to [1,0])
 have h:=aG hb h
 refine .skip (.g (.q z (.q z (.q z ?_))))
 have ⟨x3,hx3,h⟩:=bnd h
 refine .s (ixv hS.p5.lv hx3 T.u23 T.t3 z z z) z (.s (lde (RV.flat hS.p5.lv hx3 z) T.t3 z z z z z) z ?_)
 have ⟨y10,hy10,h⟩:=bnd h
 refine .c (.cS (L0:=[ae (sv v21) 3 1 (D.int .i64) r2]) hS Tryz.func36 (fun S h1 h2 h3=>(sC hy10 h2 (zz h1))) z z ?_)
 rintro ⟨v22,v23⟩ W hS
 refine .q z (.q z (.c (.st T.t28 hS.p5 z z z ?_)))
 intro W hS
 cases h
 exact .q z (.qn z (.ret (ab (vs:=[_,_,_]) (v22,v23) (rc hS T.t28 z (rt z (rt z rn)) z z) z (hS.to [1,1]))))
def sE (w : World) (r : Bool) : Env → World → Prop:=Fin Tryz.prog Tryz.f15 No w (fun s : Unit=>.bool r) (fun s=>[]) .ret
theorem ed {a0 : List Int} {a1 : List Int} {v_0 : Hd} {v_1 : Hd} {w : World} {r : Bool} (h : dX a0 a1 = some r) (q_0 : RO w v_0 3 1 (D.int .i64) a0) (q_1 : RO w v_1 3 1 (D.int .i64) a1) : Cl 15 #[(sv v_0),(sv v_1)] w (RU w (.bool r)):=by
 unfold dX at h
 refine ar Tryz.func15 z z ?_
 have hS:=Sep.start w
 refine .g (.qn z (.seq (.g (.q z (.s (bF (hS.keep q_0) T.u23 z z) z (.q z (.s (bF (hS.keep q_1) T.u23 z z) z (.q z (.nil ?_)))))))))
 refine .cs z h ?_ ?_ <;> intro h
 ·obtain rfl:=o9 h
  exact .g (.qn z (.ret (ab (vs:=[_]) () (rt z rn) z (hS.to []))))
 refine .skip (.seq (.g (.qn z (.block ?_))))
 have ⟨y1,hy1,h⟩:=bnd h
 refine .via (.iter (fun s1 E' W'=>aD E' [(0,(sv v_0)),(1,(sv v_1)),(5,vi s1)] ∧ Sep No w W' []) (fun y2 x E' W'=>(match y2 with | .inl o1=>x = .ret ∧ sE w o1 E' W' | .inr o2=>x = .exit 0 ∧ aD E' [] ∧ Sep No w W' [])) hy1 ⟨sb rfl,hS.to [] rfl⟩ ?_) ?_
 ·intro s1 y3 E W h hI
  obtain ⟨hE,hS⟩:=hI
  refine CW.sub hE ?_
  unfold fg at h
  refine .seq (.g (.q z (.q z (.s (bF (hS.keep q_0) T.u23 z z) z (.q z (.nil ?_))))))
  refine .cs z h ?_ ?_ <;> intro h
  ·refine .skip (.seq (.block (.seq (.rk 9 hS [] T.mix ?_))))
   intro W hS
   have hT:=hS.to []
   refine .tp' 0 z z hT (.tp' 1 z z hT ?_)
   have ⟨x1,hx1,h⟩:=bnd h
   refine .ts' 2 z (fun W hT=>ixv (hS.keep q_0) hx1 T.u23 T.t3 z z z) hT z (.ts' 3 z (fun W hT=>lde (RV.flat (hT.keep q_0) hx1 z) T.t3 z z z z z) hT z (.tp' 4 z z hT (.tp' 5 z z hT ?_)))
   have ⟨x2,hx2,h⟩:=bnd h
   refine .ts' 6 z (fun W hT=>ixv (hS.keep q_1) hx2 T.u23 T.t3 z z z) hT z (.ts' 7 z (fun W hT=>lde (RV.flat (hT.keep q_1) hx2 z) T.t3 z z z z z) hT z (.tp' 8 z z hT (.done ?_)))
   refine .cs z h ?_ ?_ <;> intro h
   ·refine .g (.qn z (.ret ?_))
    cases h
    exact ⟨by simp,z,ab (vs:=[_]) () (rt z rn) z (hS.to [])⟩
   refine .skip (.region (.q z (.q z (.q z (.nil ?_)))))
   cases h
   exact ⟨z,sb z,hS.to []⟩
  refine .exit ?_
  cases h
  exact ⟨by simp,z,sb z,hS.to []⟩
 intro x E W hJ
 rcases y1 with o3 | o4
 ·obtain ⟨rfl,hF⟩:=hJ
  refine ⟨_,fun _ _ h=>h,?_⟩
  cases h
  exact hF
 obtain ⟨rfl,hE,hS⟩:=hJ
 refine ⟨_,hE.sub,?_⟩
 obtain rfl:=o9 h
 exact .g (.qn z (.ret (ab (vs:=[_]) () (rt z rn) z (hS.to []))))
theorem lr {a0 : ai} {a1 : ai} {aI : Hd} {bb : Hd} {ww : Hd} {xT : Hd} {w : World} {r : Bool} (h : cW a0 a1 = some r) (fP : RO w aI 3 1 (D.int .i64) a0.Regs) (ib : RO w bb 3 1 (D.int .i64) a0.Mem) (Ay : RO w ww 3 1 (D.int .i64) a1.Regs) (Bx : RO w xT 3 1 (D.int .i64) a1.Mem) : Cl 13 #[.agg #[(sv aI),vi a0.Pc,(sv bb)],.agg #[(sv ww),vi a1.Pc,(sv xT)]] w (RU w (.bool r)):=by
 unfold cW at h
 refine ar Tryz.func13 z z ?_
 have hS:=Sep.start w
 refine .g (.c (.box hS z z ?_))
 intro g1 W hS
 refine .c (.box hS z z ?_)
 intro g2 W hS
 refine .qn z (.g (.s (fa T.f28_1 z z z) z (.s (ld T.t3 hS.p1 z z z z z) z (.s (fa T.f28_1 z z z) z (.s (ld T.t3 hS z z z z z) z (.q z (.q z ?_)))))))
 have ⟨b1,hb1,h⟩:=bnd h
 refine .cu 6 16 (b1) hS ?_ ?_
 ·refine .both (a0.Pc == a1.Pc) (fun hb=>?_) (fun hb=>?_)
  ·have hg1:=hb
   have h:=aF hb hb1
   refine .g hg1 (.s (fa T.f28_0 z z z) z (.g hg1 (.s (ld T.t23 hS.p1 z z z z z) z (.g hg1 (.s (fa T.f28_0 z z z) z (.g hg1 (.s (ld T.t23 hS z z z z z) z ?_)))))))
   have ⟨y1,hy1,h⟩:=bnd h
   refine .g hg1 (.c (.cO hS Tryz.func15 (ed hy1 (hS.keep fP) (hS.keep Ay)) z z ?_))
   intro W hS
   refine .s (pkt hg1 z z z) z ?_
   cases h
   exact .nil (ck 6 hS)
  refine .xx hb z (.xx hb z (.xx hb z (.xx hb z (.xx hb z ?_))))
  cases aG hb hb1
  exact .s (pkf hb z z z) z (.nil (ck 6 hS))
 intro W hS
 refine .q z ?_
 have ⟨b2,hb2,h⟩:=bnd h
 refine .cu 6 23 (b2) hS ?_ ?_
 ·refine .both (b1) (fun hb=>?_) (fun hb=>?_)
  ·have hg2:=hb
   have h:=aF hb hb2
   refine .g hg2 (.s (fa T.f28_2 z z z) z (.g hg2 (.s (ld T.t23 hS.p1 z z z z z) z (.g hg2 (.s (fa T.f28_2 z z z) z (.g hg2 (.s (ld T.t23 hS z z z z z) z ?_)))))))
   have ⟨y2,hy2,h⟩:=bnd h
   refine .g hg2 (.c (.cO hS Tryz.func15 (ed hy2 (hS.keep ib) (hS.keep Bx)) z z ?_))
   intro W hS
   refine .s (pkt hg2 z z z) z ?_
   cases h
   exact .nil (ck 6 hS)
  refine .xx hb z (.xx hb z (.xx hb z (.xx hb z (.xx hb z ?_))))
  cases aG hb hb2
  exact .s (pkf hb z z z) z (.nil (ck 6 hS))
 intro W hS
 obtain rfl:=o9 h
 exact .qn z (.ret (ab (vs:=[_]) () (rt z rn) z (hS.to [])))
def sF (w : World) (r : Bool) : Env → World → Prop:=Fin Tryz.prog Tryz.f57 No w (fun s : Unit=>.bool r) (fun s=>[]) .ret
theorem mY {a0 : List Int} {v_0 : Hd} {w : World} {r : Bool} (h : dY a0 = some r) (q_0 : RO w v_0 3 1 (D.int .i64) a0) : Cl 57 #[(sv v_0)] w (RU w (.bool r)):=by
 unfold dY at h
 refine ar Tryz.func57 z z ?_
 have hS:=Sep.start w
 refine .g (.qn z (.seq (.g (.q z (.s (bF (hS.keep q_0) T.u23 z z) z (.qn z (.block ?_)))))))
 have ⟨y1,hy1,h⟩:=bnd h
 refine .via (.iter (fun s1 E' W'=>aD E' [(5,(sv v_0)),(6,vi (a0.length : Int)),(7,vi s1)] ∧ Sep No w W' []) (fun y2 x E' W'=>(match y2 with | .inl o1=>x = .ret ∧ sF w o1 E' W' | .inr o2=>x = .exit 0 ∧ aD E' [] ∧ Sep No w W' [])) hy1 ⟨sb rfl,hS.to [] rfl⟩ ?_) ?_
 ·intro s1 y3 E W h hI
  obtain ⟨hE,hS⟩:=hI
  refine CW.sub hE ?_
  unfold fh at h
  refine .g (.qn z (.seq ?_))
  refine .cs z h ?_ ?_ <;> intro h
  ·refine .skip (.seq (.block (.seq (.region ?_))))
   have ⟨x1,hx1,h⟩:=bnd h
   refine .s (ixv (hS.keep q_0) hx1 T.u23 T.t3 z z z) z (.s (lde (RV.flat (hS.keep q_0) hx1 z) T.t3 z z z z z) z (.qn z (.g (.q z ?_))))
   have ⟨y4,hy4,h⟩:=bnd h
   refine .c (.cO hS Tryz.func105 (jW hy4) z z ?_)
   intro W hS
   refine .q z (.nil ?_)
   refine .cs z h ?_ ?_ <;> intro h
   ·refine .g (.qn z (.ret ?_))
    cases h
    exact ⟨by simp,z,ab (vs:=[_]) () (rt z rn) z (hS.to [])⟩
   refine .skip (.region (.q z (.q z (.nil ?_))))
   cases h
   exact ⟨z,sb z,hS.to []⟩
  refine .exit ?_
  cases h
  exact ⟨by simp,z,sb z,hS.to []⟩
 intro x E W hJ
 rcases y1 with o3 | o4
 ·obtain ⟨rfl,hF⟩:=hJ
  refine ⟨_,fun _ _ h=>h,?_⟩
  cases h
  exact hF
 obtain ⟨rfl,hE,hS⟩:=hJ
 refine ⟨_,hE.sub,?_⟩
 obtain rfl:=o9 h
 exact .g (.qn z (.ret (ab (vs:=[_]) () (rt z rn) z (hS.to []))))
theorem oz {a0 : ai} {aI : Hd} {bb : Hd} {w : World} {r : Bool} (h : c9 a0 = some r) (fP : RO w aI 3 1 (D.int .i64) a0.Regs) (ib : RO w bb 3 1 (D.int .i64) a0.Mem) : Cl 56 #[.agg #[(sv aI),vi a0.Pc,(sv bb)]] w (RU w (.bool r)):=by
 unfold c9 at h
 refine ar Tryz.func56 z z ?_
 have hS:=Sep.start w
 refine .g (.c (.box hS z z ?_))
 intro g1 W hS
 refine .qn z (.g (.s (fa T.f28_0 z z z) z (.s (ld T.t23 hS z z z z z) z (.s (bF (hS.keep fP) T.u23 z z) z (.q z (.q z ?_))))))
 have ⟨b1,hb1,h⟩:=bnd h
 refine .cu 4 11 (b1) hS ?_ ?_
 ·refine .both ((a0.Regs.length : Int) == 32) (fun hb=>?_) (fun hb=>?_)
  ·have hg1:=hb
   have h:=aF hb hb1
   refine .g hg1 (.s (fa T.f28_0 z z z) z (.g hg1 (.s (ld T.t23 hS z z z z z) z ?_)))
   have ⟨y1,hy1,h⟩:=bnd h
   refine .g hg1 (.c (.cO hS Tryz.func57 (mY hy1 (hS.keep fP)) z z ?_))
   intro W hS
   refine .s (pkt hg1 z z z) z ?_
   cases h
   exact .nil (ck 4 hS)
  refine .xx hb z (.xx hb z (.xx hb z ?_))
  cases aG hb hb1
  exact .s (pkf hb z z z) z (.nil (ck 4 hS))
 intro W hS
 refine .q z ?_
 have ⟨b2,hb2,h⟩:=bnd h
 refine .cu 6 18 (b2) hS ?_ ?_
 ·refine .both (b1) (fun hb=>?_) (fun hb=>?_)
  ·have hg2:=hb
   have h:=aF hb hb2
   refine .g hg2 (.s (fa T.f28_0 z z z) z (.g hg2 (.s (ld T.t23 hS z z z z z) z ?_)))
   have ⟨x1,hx1,h⟩:=bnd h
   refine .g hg2 (.s (ixv (hS.keep fP) hx1 T.u23 T.t3 z z z) z (.g hg2 (.s (lde (RV.flat (hS.keep fP) hx1 z) T.t3 z z z z z) z (.g hg2 (.q z (.s (pkt hg2 z z z) z ?_))))))
   cases h
   exact .nil (ck 6 hS)
  refine .xx hb z (.xx hb z (.xx hb z (.xx hb z (.xx hb z ?_))))
  cases aG hb hb2
  exact .s (pkf hb z z z) z (.nil (ck 6 hS))
 intro W hS
 refine .q z ?_
 have ⟨b3,hb3,h⟩:=bnd h
 refine .cu 4 23 (b3) hS ?_ ?_
 ·refine .both (b2) (fun hb=>?_) (fun hb=>?_)
  ·have hg3:=hb
   have h:=aF hb hb3
   refine .g hg3 (.s (fa T.f28_1 z z z) z (.g hg3 (.s (ld T.t3 hS z z z z z) z ?_)))
   have ⟨y2,hy2,h⟩:=bnd h
   refine .g hg3 (.c (.cO hS Tryz.func105 (jW hy2) z z ?_))
   intro W hS
   refine .s (pkt hg3 z z z) z ?_
   cases h
   exact .nil (ck 4 hS)
  refine .xx hb z (.xx hb z (.xx hb z ?_))
  cases aG hb hb3
  exact .s (pkf hb z z z) z (.nil (ck 4 hS))
 intro W hS
 refine .q z (.cu 5 29 (b3 && (decide ((a0.Mem.length : Int) ≤ 10000))) hS ?_ ?_)
 ·refine .both (b3) (fun hb=>?_) (fun hb=>?_)
  ·have hg4:=hb
   exact .g hg4 (.s (fa T.f28_2 z z z) z (.g hg4 (.s (ld T.t23 hS z z z z z) z (.g hg4 (.s (bF (hS.keep ib) T.u23 z z) z (.g hg4 (.q z (.s (pkt hg4 z z z) z (.nil (ck 5 hS z (bR hg4)))))))))))
  exact .xx hb z (.xx hb z (.xx hb z (.xx hb z (.s (pkf hb z z z) z (.nil (ck 5 hS z (bS hb)))))))
 intro W hS
 refine .q z ?_
 have ⟨b4,hb4,h⟩:=bnd h
 refine .cu 4 34 (b4) hS ?_ ?_
 ·refine .both (b3 && (decide ((a0.Mem.length : Int) ≤ 10000))) (fun hb=>?_) (fun hb=>?_)
  ·have hg5:=hb
   have h:=aF hb hb4
   refine .g hg5 (.s (fa T.f28_2 z z z) z (.g hg5 (.s (ld T.t23 hS z z z z z) z ?_)))
   have ⟨y3,hy3,h⟩:=bnd h
   refine .g hg5 (.c (.cO hS Tryz.func57 (mY hy3 (hS.keep ib)) z z ?_))
   intro W hS
   refine .s (pkt hg5 z z z) z ?_
   cases h
   exact .nil (ck 4 hS)
  refine .xx hb z (.xx hb z (.xx hb z ?_))
  cases aG hb hb4
  exact .s (pkf hb z z z) z (.nil (ck 4 hS))
 intro W hS
 obtain rfl:=o9 h
 exact .qn z (.ret (ab (vs:=[_]) () (rt z rn) z (hS.to [])))
theorem gB {a0 : List Int} {v_0 : Hd} {w : World} {r : (List Int)} (h : cX a0 = some r) (q_0 : RO w v_0 3 1 (D.int .i64) a0) : Cl 58 #[(sv v_0)] w (Ret No w (fun s : Hd=>(sv s)) (fun s=>[ae (sv s) 3 1 (D.int .i64) r])):=by
 unfold cX at h
 refine ar Tryz.func58 z z ?_
 have hS:=Sep.start w
 refine .g (.qn z (.seq (.g (.q z (.s (Dj T.u23 z z) z (.nil (.cond z (fun hb=>?_) (fun hb=>?_))))))))
 ·have hl:=RV.isnil q_0 hb
  subst hl
  refine .g (.qn z (.ret ?_))
  have hS:=hS.nilv 3 1 (D.int .i64)
  have h : some [] = some r:=h
  cases h
  exact ab (vs:=[_]) aP (rt z rn) z (hS.to [0])
 refine .skip (.g (.c (.liv [] (D.int .i64) T.u23 T.t3 hS z z z z ?_ z (fun _=>z))))
 intro v1 W hS
 refine .q z ?_
 have ⟨r1,hr1,h⟩:=bnd h
 refine .c (.av hr1 hS (hS.keep q_0) (fun _=>z) T.u23 T.t3 z z z ?_)
 intro v2 W hS
 obtain rfl:=o9 h
 exact .qn z (.ret (ab (vs:=[_]) v2 (rt z rn) z (hS.to [0])))
theorem oX {a0 : ai} {aI : Hd} {bb : Hd} {w : World} {r : ai} (h : fi a0 = some r) (fP : RO w aI 3 1 (D.int .i64) a0.Regs) (ib : RO w bb 3 1 (D.int .i64) a0.Mem) : Cl 80 #[.agg #[(sv aI),vi a0.Pc,(sv bb)]] w (Ret No w (fun s : Hd × Hd=>.agg #[(sv s.1),vi r.Pc,(sv s.2)]) (fun s=>[ae (sv s.1) 3 1 (D.int .i64) r.Regs,ae (sv s.2) 3 1 (D.int .i64) r.Mem])):=by
 unfold fi at h
 refine ar Tryz.func80 z z ?_
 have hS:=Sep.start w
 refine .g (.c (.box hS z z ?_))
 intro g1 W hS
 refine .c (.alloc T.t28 hS ?_)
 intro g2 W hS
 refine .nil (.seq (.rk 9 hS [0,0] T.mix ?_))
 intro W hS
 have hT:=hS.to [0,0]
 refine .ts' 0 z (fun W hT=>fa T.f28_0 z z z) hT z (.ts' 1 z (fun W hT=>ld T.t23 hT.p1 z z z z z) hT z (.ts' 3 z (fun W hT=>fa T.f28_1 z z z) hT z (.ts' 4 z (fun W hT=>ld T.t3 hT.p1 z z z z z) hT z (.ts' 5 z (fun W hT=>fa T.f28_2 z z z) hT z (.ts' 6 z (fun W hT=>ld T.t23 hT.p1 z z z z z) hT z ?_)))))
 have ⟨y1,hy1,h⟩:=bnd h
 refine .by1 2 z (.cV hS Tryz.func58 (gB hy1 (hS.keep fP)) z z ?_)
 intro v1 W hS
 have hT:=hS.to [1,1]
 refine ⟨fun _=>hT,?_⟩
 have ⟨y2,hy2,h⟩:=bnd h
 refine .by1 7 z (.cV hS Tryz.func58 (gB hy2 (hS.keep ib)) z z ?_)
 intro v2 W hS
 have hT:=hS.to [2,2]
 refine ⟨fun _=>hT,.ts' 8 z (fun W hT=>bs T.s28 z z) hT z (.by1 9 z (.st T.t28 hS.p2 z z z ?_))⟩
 intro W hS
 refine ⟨fun h=>absurd z h,?_⟩
 cases h
 exact .done (.ret (ab (vs:=[_]) (v1,v2) (rc hS T.t28 z rn z z) z (hS.to [2,1])))
theorem kX {a0 : ai} {a1 : Int} {aI : Hd} {bb : Hd} {g_0 : Nat} {S : Nat → Prop} {w : World} {r : Int} (h : cG a0 a1 = some r) (fP : RV w (Old S w) (sv aI) 3 1 (D.int .i64) a0.Regs) (ib : RV w (Old S w) (sv bb) 3 1 (D.int .i64) a0.Mem) (hO : bO w [.box g_0 28 [(sv aI),vi a0.Pc,(sv bb)]] S) (hlt : ∀ b,S b → b < w.heap.size) : Cl 124 #[pt g_0,vi a1] w (Ret S w (fun s : Unit=>yQ (sv bb) 1 r) (fun s=>[.box g_0 28 [(sv aI),vi a0.Pc,(sv bb)]])):=by
 unfold cG at h
 refine ar Tryz.func124 z z ?_
 have hS:=Sep.sm hO hlt
 refine .g (.qn z (.seq (.g (.q z (.q z (.q z (.cu 4 11 ((decide (a1 < 0)) || ((Int.tmod a1 4) != 0)) hS ?_ ?_)))))))
 ·refine .both (decide (a1 < 0)) (fun hb=>?_) (fun hb=>?_)
  ·exact .xx hb z (.xx hb z (.xx hb z (.s (pkt hb z z z) z (.nil (ck 4 hS z (kL hb))))))
  have hg1:=hb
  exact .g hg1 (.q z (.g hg1 (.q z (.g hg1 (.q z (.s (pkf hg1 z z z) z (.nil (ck 4 hS z (kM hg1)))))))))
 intro W hS
 refine .q z (.cu 9 21 (((decide (a1 < 0)) || ((Int.tmod a1 4) != 0)) || (decide ((w64 (Int.tdiv a1 4)) ≥ (a0.Mem.length : Int)))) hS ?_ ?_)
 ·refine .both ((decide (a1 < 0)) || ((Int.tmod a1 4) != 0)) (fun hb=>?_) (fun hb=>?_)
  ·exact .xx hb z (.xx hb z (.xx hb z (.xx hb z (.xx hb z (.xx hb z (.xx hb z (.xx hb z (.s (pkt hb z z z) z (.nil (ck 9 hS z (kL hb)))))))))))
  have hg2:=hb
  exact .g hg2 (.q z (.g hg2 (.q z (.g hg2 (.q z (.g hg2 (.q z (.g hg2 (.s (fa T.f28_2 z z z) z (.g hg2 (.s (ld T.t23 hS z z z z z) z (.g hg2 (.s (bF (hS.keep ib) T.u23 z z) z (.g hg2 (.q z (.s (pkf hg2 z z z) z (.nil (ck 9 hS z (kM hg2)))))))))))))))))))
 intro W hS
 refine .nil ?_
 refine .cs z h ?_ ?_ <;> intro h
 ·cases h
  exact .g (.qn z (.ret (ab (vs:=[_]) () (rt z rn) z (hS.to [0]))))
 refine .skip (.g (.q z (.q z (.s (fa T.f28_2 z z z) z (.s (ld T.t23 hS z z z z z) z (.q z (.q z ?_)))))))
 have ⟨x1,hx1,h⟩:=bnd h
 cases h
 exact .s (ixv (hS.keep ib) hx1 T.u23 T.t3 z z z) z (.qn z (.ret (ab (vs:=[_]) () (rt z rn) (uL hx1).symm (hS.to [0]))))
theorem mA {a0 : kO} {a1 : Int} {a2 : Int} {w : World} {r : Bool} (h : bz a0 a1 a2 = some r) : Cl 170 #[.agg #[.string a0.name,vi a0.opcode,vi a0.funct3,vi a0.funct7],vi a1,vi a2] w (RU w (.bool r)):=by
 unfold bz at h
 refine ar Tryz.func170 z z ?_
 have hS:=Sep.start w
 refine .g (.c (.box hS z z ?_))
 intro g1 W hS
 refine .qn z (.seq (.g (.s (fa T.f146_1 z z z) z (.s (ld T.t3 hS z z z z z) z (.q z (.q z (.q z (.nil ?_))))))))
 refine .cs z h ?_ ?_ <;> intro h
 ·obtain rfl:=o9 h
  exact .g (.qn z (.ret (ab (vs:=[_]) () (rt z rn) z (hS.to []))))
 refine .skip (.seq (.g (.q z ?_)))
 have ⟨y1,hy1,h⟩:=bnd h
 refine .c (.cO hS Tryz.func114 (hZ hy1) z z ?_)
 intro W hS
 refine .nil (.block (.g (.q z (.q z (.nil ?_)))))
 refine .cs z h ?_ ?_ <;> intro h
 ·refine .seq ?_
  have ⟨y2,hy2,h⟩:=bnd h
  have ⟨b1,hb1,h⟩:=bnd h
  refine .via (R':=fun x E' W'=>x = .normal ∧ aD E' [(6,.bool b1)] ∧ Sep No w W' [.box g1 146 [.string a0.name,vi a0.opcode,vi a0.funct3,vi a0.funct7]]) ?_ ?_
  ·refine .rk 13 hS [0] T.mix ?_
   intro W hS
   have hT:=hS.to [0]
   refine .ts' 0 z (fun W hT=>fa T.f146_2 z z z) hT z (.ts' 1 z (fun W hT=>ld T.t3 hT z z z z z) hT z (.tp' 2 z z hT (.by1 3 z (.cO hS Tryz.func113 (bN hy2) z z ?_))))
   intro W hS
   have hT:=hS.to [0]
   refine ⟨fun _=>hT,.tp' 4 z z hT (.tp' 5 z z hT (.both (a0.funct3 == y2) (fun hb=>?_) (fun hb=>?_)))⟩
   ·have hg1:=hb
    have h_b1:=aF hb hb1
    refine .t1g 6 z hg1 (fun W hT=>fa T.f146_3 z z z) hT (.t1g 7 z hg1 (fun W hT=>ld T.t3 hT z z z z z) hT (.t1g 8 z hg1 (fun W hT=>pr z) hT ?_ (by kernel_rfl) z z) (by kernel_rfl) z z) (by kernel_rfl) z z
    have ⟨y3,hy3,h_b1⟩:=bnd h_b1
    refine .by1 9 z (.gd hg1 (.cO hS Tryz.func113 (bN hy3) z z ?_))
    intro W hS
    have hT:=hS.to [0]
    refine ⟨fun _=>hT,?_⟩
    exact .t1g 10 z hg1 (fun W hT=>pr z) hT (.ts' 11 z (fun W hT=>pkt hg1 z z z) hT z (.eqv 27 z (dg h_b1) (.tp' 12 z z hT (.done (⟨z,sb z,hS.to [0]⟩))))) (by kernel_rfl) z z
   exact .off 6 z hb hT (.off 7 z hb hT (.off 8 z hb hT (.off 9 z hb hT (.off 10 z hb hT (.ts' 11 z (fun W hT=>pkf hb z z z) hT z (.eqv 27 z (dg (aG hb hb1)) (.tp' 12 z z hT (.done (⟨z,sb z,hS.to [0]⟩))))) (by kernel_rfl) z z) (by kernel_rfl) z z) (by kernel_rfl) z z) (by kernel_rfl) z z) (by kernel_rfl) z z
  intro x E W hJ
  obtain ⟨rfl,hE,hS⟩:=hJ
  refine ⟨_,hE.sub,?_⟩
  obtain rfl:=o9 h
  exact .ret (ab (vs:=[_]) () (rt z rn) z (hS.to []))
 have ⟨y4,hy4,h⟩:=bnd h
 refine .seq (CW.via (R':=fun x E' W'=>x = .normal ∧ aD E' [(2,vi a2),(3,pt g1),(28,.bool y4)] ∧ Sep No w W' [.box g1 146 [.string a0.name,vi a0.opcode,vi a0.funct3,vi a0.funct7]]) ?_ ?_)
 ·have h:=hy4
  refine .g (.q z (.q z (.nil ?_)))
  refine .cs z h ?_ ?_ <;> intro h
  ·refine .skip ?_
   cases h
   exact ⟨z,sb z,hS.to [0]⟩
  refine .g (.q z (.q z (.nil ?_)))
  refine .cs z h ?_ ?_ <;> intro h
  ·refine .skip ?_
   cases h
   exact ⟨z,sb z,hS.to [0]⟩
  refine .region (.q z (.q z (.nil ?_)))
  cases h
  exact ⟨z,sb z,hS.to [0]⟩
 intro x E W hJ
 obtain ⟨rfl,hE,hS⟩:=hJ
 refine ⟨_,hE.sub,?_⟩
 refine .cs z h ?_ ?_ <;> intro h
 ·refine .seq (.rk 6 hS [0] T.mix ?_)
  intro W hS
  have hT:=hS.to [0]
  refine .ts' 0 z (fun W hT=>fa T.f146_2 z z z) hT z (.ts' 1 z (fun W hT=>ld T.t3 hT z z z z z) hT z (.tp' 2 z z hT ?_))
  have ⟨y5,hy5,h⟩:=bnd h
  refine .by1 3 z (.cO hS Tryz.func113 (bN hy5) z z ?_)
  intro W hS
  have hT:=hS.to [0]
  refine ⟨fun _=>hT,?_⟩
  cases h
  exact .tp' 4 z z hT (.tp' 5 z z hT (.done (.ret (ab (vs:=[_]) () (rt z rn) z (hS.to [])))))
 obtain rfl:=o9 h
 exact .skip (.g (.qn z (.ret (ab (vs:=[_]) () (rt z rn) z (hS.to [])))))
theorem fF {a0 : Int} {a1 : Int} {w : World} {r : Int} (h : ch a0 a1 = some r) : Cl 181 #[vi a0,vi a1] w (RU w (.int .i64 r)):=by
 unfold ch at h
 refine ar Tryz.func181 z z ?_
 have hS:=Sep.start w
 refine .g (.qn z (.seq (.g (.q z (.q z (.q z (.cu 3 10 ((decide (a1 < 1)) || (decide (a1 > 32))) hS ?_ ?_)))))))
 ·refine .both (decide (a1 < 1)) (fun hb=>?_) (fun hb=>?_)
  ·exact .xx hb z (.xx hb z (.s (pkt hb z z z) z (.nil (ck 3 hS z (kL hb)))))
  have hg1:=hb
  exact .g hg1 (.q z (.g hg1 (.q z (.s (pkf hg1 z z z) z (.nil (ck 3 hS z (kM hg1)))))))
 intro W hS
 refine .q z (.cu 3 14 (((decide (a1 < 1)) || (decide (a1 > 32))) || (decide (a0 < 0))) hS ?_ ?_)
 ·refine .both ((decide (a1 < 1)) || (decide (a1 > 32))) (fun hb=>?_) (fun hb=>?_)
  ·exact .xx hb z (.xx hb z (.s (pkt hb z z z) z (.nil (ck 3 hS z (kL hb)))))
  have hg2:=hb
  exact .g hg2 (.q z (.g hg2 (.q z (.s (pkf hg2 z z z) z (.nil (ck 3 hS z (kM hg2)))))))
 intro W hS
 refine .q z ?_
 have ⟨b1,hb1,h⟩:=bnd h
 refine .cu 5 20 (b1) hS ?_ ?_
 ·refine .both (((decide (a1 < 1)) || (decide (a1 > 32))) || (decide (a0 < 0))) (fun hb=>?_) (fun hb=>?_)
  ·refine .xx hb z (.xx hb z (.xx hb z (.xx hb z ?_)))
   cases aF hb hb1
   exact .s (pkt hb z z z) z (.nil (ck 5 hS))
  have hg3:=hb
  have h:=aG hb hb1
  refine .g hg3 (.q z (.g hg3 (.q z ?_)))
  have ⟨d1,hd1,h⟩:=bnd h
  refine .g hg3 (.s (kA hd1 z z z) z (.g hg3 (.q z (.s (pkf hg3 z z z) z ?_))))
  cases h
  exact .nil (ck 5 hS)
 intro W hS
 refine .nil ?_
 refine .cs z h ?_ ?_ <;> intro h
 ·cases h
  exact .g (.qn z (.ret (ab (vs:=[_]) () (rt z rn) z (hS.to []))))
 refine .skip (.seq (.g (.q z (.q z (.q z ?_)))))
 have ⟨d2,hd2,h⟩:=bnd h
 refine .s (kA hd2 z z z) z (.q z (.nil ?_))
 refine .cs z h ?_ ?_ <;> intro h
 ·refine .g (.q z (.q z ?_))
  have ⟨d3,hd3,h⟩:=bnd h
  cases h
  exact .s (kA hd3 z z z) z (.q z (.qn z (.ret (ab (vs:=[_]) () (rt z rn) z (hS.to [])))))
 obtain rfl:=o9 h
 exact .skip (.g (.q z (.qn z (.ret (ab (vs:=[_]) () (rt z rn) z (hS.to []))))))
theorem rE {a0 : Int} {a1 : Int} {w : World} {r : Instr} (h : cw a0 a1 = some r) : Cl 171 #[vi a0,vi a1] w (RU w (.agg #[vi r.Op,vi r.Rd,vi r.Rs,vi r.Rt,vi r.Imm])):=by
 unfold cw at h
 refine ar Tryz.func171 z z ?_
 have hS:=Sep.start w
 refine .g (.c (.alloc T.t105 hS ?_))
 intro g1 W hS
 refine .nil (.g (.q z ?_))
 have ⟨y1,hy1,h⟩:=bnd h
 refine .c (.cO hS Tryz.func113 (bN hy1) z z ?_)
 intro W hS
 refine .q z ?_
 have ⟨y2,hy2,h⟩:=bnd h
 refine .c (.cO hS Tryz.func113 (bN hy2) z z ?_)
 intro W hS
 refine .q z ?_
 have ⟨y3,hy3,h⟩:=bnd h
 refine .c (.cO hS Tryz.func113 (bN hy3) z z ?_)
 intro W hS
 refine .q z (.q z (.qn z (.seq (.g (.q z ?_)))))
 have ⟨y4,hy4,h⟩:=bnd h
 refine .c (.cO hS Tryz.func114 (hZ hy4) z z ?_)
 intro W hS
 refine .nil (.block (.g (.q z (.q z (.nil ?_)))))
 refine .cs z h ?_ ?_ <;> intro h
 ·refine .g (.q z (.q z (.q z (.q z (.s (bs T.s105 z z) z (.c (.st T.t105 hS z z z ?_)))))))
  intro W hS
  cases h
  exact .nil (.ret (ab (vs:=[_]) () (rc hS T.t105 z rn z z) z (hS.to [])))
 refine .g (.q z (.q z (.nil ?_)))
 refine .cs z h ?_ ?_ <;> intro h
 ·refine .g (.q z (.q z (.q z (.q z ?_))))
  have ⟨y5,hy5,h⟩:=bnd h
  refine .c (.cO hS Tryz.func113 (bN hy5) z z ?_)
  intro W hS
  have ⟨y6,hy6,h⟩:=bnd h
  refine .c (.cO hS Tryz.func181 (fF hy6) z z ?_)
  intro W hS
  refine .s (bs T.s105 z z) z (.c (.st T.t105 hS z z z ?_))
  intro W hS
  cases h
  exact .nil (.ret (ab (vs:=[_]) () (rc hS T.t105 z rn z z) z (hS.to [])))
 refine .g (.q z (.q z (.nil ?_)))
 refine .cs z h ?_ ?_ <;> intro h
 ·refine .g (.q z (.q z (.q z (.q z ?_))))
  have ⟨y7,hy7,h⟩:=bnd h
  refine .c (.cO hS Tryz.func113 (bN hy7) z z ?_)
  intro W hS
  refine .q z (.q z (.q z ?_))
  have ⟨y8,hy8,h⟩:=bnd h
  refine .c (.cO hS Tryz.func181 (fF hy8) z z ?_)
  intro W hS
  refine .s (bs T.s105 z z) z (.c (.st T.t105 hS z z z ?_))
  intro W hS
  cases h
  exact .nil (.ret (ab (vs:=[_]) () (rc hS T.t105 z rn z z) z (hS.to [])))
 refine .g (.q z (.q z (.nil ?_)))
 refine .cs z h ?_ ?_ <;> intro h
 ·refine .g (.q z ?_)
  have ⟨y9,hy9,h⟩:=bnd h
  refine .c (.cO hS Tryz.func113 (bN hy9) z z ?_)
  intro W hS
  refine .q z (.q z ?_)
  have ⟨y10,hy10,h⟩:=bnd h
  refine .c (.cO hS Tryz.func113 (bN hy10) z z ?_)
  intro W hS
  refine .q z (.q z (.q z ?_))
  have ⟨y11,hy11,h⟩:=bnd h
  refine .c (.cO hS Tryz.func113 (bN hy11) z z ?_)
  intro W hS
  refine .q z (.q z (.q z ?_))
  have ⟨y12,hy12,h⟩:=bnd h
  refine .c (.cO hS Tryz.func113 (bN hy12) z z ?_)
  intro W hS
  refine .q z (.q z (.qn z (.g (.q z (.q z (.q z (.q z ?_)))))))
  have ⟨y13,hy13,h⟩:=bnd h
  refine .c (.cO hS Tryz.func181 (fF hy13) z z ?_)
  intro W hS
  refine .s (bs T.s105 z z) z (.c (.st T.t105 hS z z z ?_))
  intro W hS
  cases h
  exact .nil (.ret (ab (vs:=[_]) () (rc hS T.t105 z rn z z) z (hS.to [])))
 refine .g (.q z (.q z (.nil ?_)))
 refine .cs z h ?_ ?_ <;> intro h
 ·refine .g (.q z (.q z (.q z ?_)))
  have ⟨y14,hy14,h⟩:=bnd h
  refine .c (.cO hS Tryz.func113 (bN hy14) z z ?_)
  intro W hS
  refine .s (bs T.s105 z z) z (.c (.st T.t105 hS z z z ?_))
  intro W hS
  cases h
  exact .nil (.ret (ab (vs:=[_]) () (rc hS T.t105 z rn z z) z (hS.to [])))
 refine .g (.q z (.q z (.nil ?_)))
 refine .cs z h ?_ ?_ <;> intro h
 ·refine .g (.q z ?_)
  have ⟨y15,hy15,h⟩:=bnd h
  refine .c (.cO hS Tryz.func113 (bN hy15) z z ?_)
  intro W hS
  refine .q z (.q z ?_)
  have ⟨y16,hy16,h⟩:=bnd h
  refine .c (.cO hS Tryz.func113 (bN hy16) z z ?_)
  intro W hS
  refine .q z (.q z (.q z ?_))
  have ⟨y17,hy17,h⟩:=bnd h
  refine .c (.cO hS Tryz.func113 (bN hy17) z z ?_)
  intro W hS
  refine .q z (.q z (.q z ?_))
  have ⟨y18,hy18,h⟩:=bnd h
  refine .c (.cO hS Tryz.func113 (bN hy18) z z ?_)
  intro W hS
  refine .q z (.q z (.qn z (.g (.q z (.q z (.q z ?_))))))
  have ⟨y19,hy19,h⟩:=bnd h
  refine .c (.cO hS Tryz.func181 (fF hy19) z z ?_)
  intro W hS
  refine .s (bs T.s105 z z) z (.c (.st T.t105 hS z z z ?_))
  intro W hS
  cases h
  exact .nil (.ret (ab (vs:=[_]) () (rc hS T.t105 z rn z z) z (hS.to [])))
 refine .skip (.g (.q z (.s (bs T.s105 z z) z (.c (.st T.t105 hS z z z ?_)))))
 intro W hS
 cases h
 exact .nil (.ret (ab (vs:=[_]) () (rc hS T.t105 z rn z z) z (hS.to [])))
def mh (w : World) (r : Instr × Bool) : Env → World → Prop:=Fin Tryz.prog Tryz.f125 No w (fun s : Unit=>.tuple #[.agg #[vi r.1.Op,vi r.1.Rd,vi r.1.Rs,vi r.1.Rt,vi r.1.Imm],.bool r.2]) (fun s=>[]) .ret
theorem oY {a0 : Int} {w : World} {r : Instr × Bool} (h : cC a0 = some r) (hG : Gl w) : Cl 125 #[vi a0] w (RU w (.tuple #[.agg #[vi r.1.Op,vi r.1.Rd,vi r.1.Rs,vi r.1.Rt,vi r.1.Imm],.bool r.2])):=by
 unfold cC at h
 refine ar Tryz.func125 z z ?_
 have hS:=Sep.start w
 refine .g (.c (.alloc T.t105 hS ?_))
 intro g1 W hS
 refine .qn z (.seq (.g (.q z ?_)))
 have ⟨y1,hy1,h⟩:=bnd h
 refine .c (.cO hS Tryz.func159 (me hy1) z z ?_)
 intro W hS
 refine .q z (.nil ?_)
 refine .cs z h ?_ ?_ <;> intro h
 ·refine .g (.s (bs T.s105 z z) z (.c (.st T.t105 hS z z z ?_)))
  intro W hS
  cases h
  exact .qn z (.ret (ab (vs:=[_,_]) () (rc hS T.t105 z (rt z rn) z z) z (hS.to [])))
 refine .skip (.seq (.g (.qn z (.block ?_))))
 have ⟨y2,hy2,h⟩:=bnd h
 refine .via (.iter (fun s1 E' W'=>aD E' [(0,vi a0),(2,pt g1),(4,vi s1)] ∧ Sep No w W' [.box g1 105 [vi 0,vi 0,vi 0,vi 0,vi 0]]) (fun y3 x E' W'=>(match y3 with | .inl o1=>x = .ret ∧ mh w o1 E' W' | .inr o2=>x = .exit 0 ∧ aD E' [(2,pt g1)] ∧ Sep No w W' [.box g1 105 [vi 0,vi 0,vi 0,vi 0,vi 0]])) hy2 ⟨sb rfl,hS.to [0] rfl⟩ ?_) ?_
 ·intro s1 y4 E W h hI
  obtain ⟨hE,hS⟩:=hI
  refine CW.sub hE ?_
  unfold de at h
  refine .seq (.g (.q z (.q z (.nil ?_))))
  refine .cs z h ?_ ?_ <;> intro h
  ·refine .skip ?_
   have ⟨y5,hy5,h⟩:=bnd h
   refine .seq (CW.via (R':=fun x E' W'=>(match y5 with | .inl o3=>x = .normal ∧ aD E' [(0,vi a0),(2,pt g1),(4,vi s1)] ∧ Sep No w W' [.box g1 105 [vi 0,vi 0,vi 0,vi 0,vi 0]] | .inr o4=>x = .ret ∧ mh w o4 E' W')) ?_ ?_)
   ·have h:=hy5
    refine .block (.seq (.g (.q z (.q z ?_))))
    have ⟨x1,hx1,h⟩:=bnd h
    refine .s (ixt hx1 z T.u147 T.t146 z z z) z (.s (ldt (hG.at hS (fun _ _ h=>h)).2.1 hx1 T.t146 z z z z z) z (.q z (.q z ?_)))
    have ⟨y6,hy6,h⟩:=bnd h
    refine .c (.cO hS Tryz.func170 (mA hy6) z z ?_)
    intro W hS
    refine .q z (.nil ?_)
    refine .cs z h ?_ ?_ <;> intro h
    ·refine .exit ?_
     cases h
     exact ⟨z,sb z,hS.to [0]⟩
    refine .skip (.g (.q z (.q z ?_)))
    have ⟨y7,hy7,h⟩:=bnd h
    refine .c (.cO hS Tryz.func171 (rE hy7) z z ?_)
    intro W hS
    refine .c (.alloc T.t105 hS ?_)
    intro g2 W hS
    refine .c (.st T.t105 hS z z z ?_)
    intro W hS
    refine .nil (.g (.s (ld T.t105 hS z z z z z) z ?_))
    have ⟨y8,hy8,h⟩:=bnd h
    refine .c (.cO hS Tryz.func62 (lq hy8 (hG.at hS (fun _ _ h=>h))) z z ?_)
    intro W hS
    refine .q z (.q z (.q z (.q z (.qn z (.g (.q z (.q z (.cu 4 37 (y8.2 && (y8.1 == a0)) hS ?_ ?_))))))))
    ·refine .both (y8.2) (fun hb=>?_) (fun hb=>?_)
     ·have hg1:=hb
      exact .g hg1 (.q z (.g hg1 (.q z (.g hg1 (.q z (.s (pkt hg1 z z z) z (.nil (ck 4 hS z (bR hg1)))))))))
     exact .xx hb z (.xx hb z (.xx hb z (.s (pkf hb z z z) z (.nil (ck 4 hS z (bS hb))))))
    intro W hS
    refine .nil ?_
    refine .cs z h ?_ ?_ <;> intro h
    ·refine .g (.s (ld T.t105 hS z z z z z) z (.c (.st T.t105 hS.p1 z z z ?_)))
     intro W hS
     refine .qn z (.ret ?_)
     cases h
     exact ⟨z,ab (vs:=[_,_]) () (rc hS T.t105 z (rt z rn) z z) z (hS.to [])⟩
    refine .skip ?_
    cases h
    exact ⟨z,sb z,hS.to [1]⟩
   intro x E W hJ
   rcases y5 with o5 | o6
   ·obtain ⟨rfl,hE,hS⟩:=hJ
    refine ⟨_,hE.sub,?_⟩
    refine .region (.q z (.q z (.q z (.nil ?_))))
    cases h
    exact ⟨z,sb z,hS.to [0]⟩
   obtain ⟨rfl,hF⟩:=hJ
   refine ⟨_,fun _ _ h=>h,?_⟩
   cases h
   exact ⟨by simp,z,hF⟩
  refine .exit ?_
  cases h
  exact ⟨by simp,z,sb z,hS.to [0]⟩
 intro x E W hJ
 rcases y2 with o7 | o8
 ·obtain ⟨rfl,hF⟩:=hJ
  refine ⟨_,fun _ _ h=>h,?_⟩
  cases h
  exact hF
 obtain ⟨rfl,hE,hS⟩:=hJ
 refine ⟨_,hE.sub,?_⟩
 refine .g (.s (bs T.s105 z z) z (.c (.st T.t105 hS z z z ?_)))
 intro W hS
 cases h
 exact .qn z (.ret (ab (vs:=[_,_]) () (rc hS T.t105 z (rt z rn) z z) z (hS.to [])))
theorem cE {a0 : ai} {a1 : Int} {a2 : Int} {aI : Hd} {bb : Hd} {g_0 : Nat} {S : Nat → Prop} {w : World} {r : (List Int)} (h : aO a0 a1 a2 = some r) (ib : RV w (Old S w) (sv bb) 3 1 (D.int .i64) a0.Mem) (hO : bO w [ae (sv aI) 3 1 (D.int .i64) a0.Regs,.box g_0 28 [(sv aI),vi a0.Pc,(sv bb)]] S) (hlt : ∀ b,S b → b < w.heap.size) : Cl 126 #[pt g_0,vi a1,vi a2] w (Ret S w (fun s : Hd=>.tuple #[]) (fun s=>[.box g_0 28 [(sv s),vi a0.Pc,(sv bb)],ae (sv s) 3 1 (D.int .i64) r])):=by
 unfold aO at h
 refine ar Tryz.func126 z z ?_
 have hS:=Sep.sm hO hlt
 refine .g (.q z (.q z (.nil ?_)))
 refine .cs z h ?_ ?_ <;> intro h
 ·refine .region (.q z (.q z (.s (fa T.f28_0 z z z) z (.s (ld T.t23 hS.p1 z z z z z) z (.q z (.q z ?_))))))
  have ⟨x1,hx1,h⟩:=bnd h
  refine .s (ixv hS.lv hx1 T.u23 T.t3 z z z) z ?_
  have ⟨r1,hr1,h⟩:=bnd h
  refine .c (.sev hr1 hx1 hS T.t3 z z z z z z ?_)
  intro W hS
  obtain rfl:=o9 h
  exact .nil (ab (vs:=[]) aI (rn) z (hS.to [1,0]))
 cases h
 exact .skip (ab (vs:=[]) aI (rn) z (hS.to [1,0]))
theorem mB {a0 : Bool} {w : World} {r : Int} (h : i7 a0 = some r) : Cl 127 #[.bool a0] w (RU w (.int .i64 r)):=by
 unfold i7 at h
 refine ar Tryz.func127 z z ?_
 have hS:=Sep.start w
 refine .g (.qn z (.seq (.g (.q z (.nil ?_)))))
 refine .cs z h ?_ ?_ <;> intro h
 ·cases h
  exact .g (.qn z (.ret (ab (vs:=[_]) () (rt z rn) z (hS.to []))))
 cases h
 exact .skip (.g (.qn z (.ret (ab (vs:=[_]) () (rt z rn) z (hS.to [])))))
theorem uj {a0 : Int} {a1 : Int} {a2 : Int} {w : World} {r : Int} (h : lR a0 a1 a2 = some r) : Cl 128 #[vi a0,vi a1,vi a2] w (RU w (.int .i64 r)):=by
 unfold lR at h
 refine ar Tryz.func128 z z ?_
 have hS:=Sep.start w
 refine .g (.qn z (.seq (.g (.qn z (.block (.g (.q z (.q z (.nil ?_)))))))))
 refine .cs z h ?_ ?_ <;> intro h
 ·cases h
  exact .g (.q z (.q z (.q z (.qn z (.ret (ab (vs:=[_]) () (rt z rn) z (hS.to [])))))))
 refine .g (.q z (.q z (.nil ?_)))
 refine .cs z h ?_ ?_ <;> intro h
 ·cases h
  exact .g (.q z (.q z (.q z (.qn z (.ret (ab (vs:=[_]) () (rt z rn) z (hS.to [])))))))
 refine .g (.q z (.q z (.nil ?_)))
 refine .cs z h ?_ ?_ <;> intro h
 ·cases h
  exact .g (.q z (.q z (.q z (.qn z (.ret (ab (vs:=[_]) () (rt z rn) z (hS.to [])))))))
 refine .g (.q z (.q z (.nil ?_)))
 refine .cs z h ?_ ?_ <;> intro h
 ·refine .g (.q z (.q z (.q z ?_)))
  have ⟨y1,hy1,h⟩:=bnd h
  refine .c (.cO hS Tryz.func127 (mB hy1) z z ?_)
  intro W hS
  obtain rfl:=o9 h
  exact .qn z (.ret (ab (vs:=[_]) () (rt z rn) z (hS.to [])))
 refine .g (.q z (.q z (.nil ?_)))
 refine .cs z h ?_ ?_ <;> intro h
 ·refine .g (.q z (.q z (.q z ?_)))
  have ⟨y2,hy2,h⟩:=bnd h
  refine .c (.cO hS Tryz.func127 (mB hy2) z z ?_)
  intro W hS
  obtain rfl:=o9 h
  exact .qn z (.ret (ab (vs:=[_]) () (rt z rn) z (hS.to [])))
 refine .g (.q z (.q z (.nil ?_)))
 refine .cs z h ?_ ?_ <;> intro h
 ·refine .g (.q z (.q z (.q z ?_)))
  have ⟨d1,hd1,h⟩:=bnd h
  refine .s (kA hd1 z z z) z ?_
  have ⟨y3,hy3,h⟩:=bnd h
  refine .c (.cO hS Tryz.func63 (cl hy3) z z ?_)
  intro W hS
  obtain rfl:=o9 h
  exact .qn z (.ret (ab (vs:=[_]) () (rt z rn) z (hS.to [])))
 refine .g (.q z (.q z (.nil ?_)))
 refine .cs z h ?_ ?_ <;> intro h
 ·refine .g (.q z (.q z (.q z ?_)))
  have ⟨d2,hd2,h⟩:=bnd h
  obtain rfl:=o9 h
  exact .s (kA hd2 z z z) z (.qn z (.ret (ab (vs:=[_]) () (rt z rn) z (hS.to []))))
 refine .g (.q z (.q z (.nil ?_)))
 refine .cs z h ?_ ?_ <;> intro h
 ·refine .g (.q z (.q z (.q z ?_)))
  have ⟨y4,hy4,h⟩:=bnd h
  refine .c (.cO hS Tryz.func63 (cl hy4) z z ?_)
  intro W hS
  obtain rfl:=o9 h
  exact .qn z (.ret (ab (vs:=[_]) () (rt z rn) z (hS.to [])))
 refine .g (.q z (.q z (.nil ?_)))
 refine .cs z h ?_ ?_ <;> intro h
 ·refine .g (.q z (.q z (.q z ?_)))
  have ⟨y5,hy5,h⟩:=bnd h
  refine .c (.cO hS Tryz.func63 (cl hy5) z z ?_)
  intro W hS
  obtain rfl:=o9 h
  exact .qn z (.ret (ab (vs:=[_]) () (rt z rn) z (hS.to [])))
 refine .g (.q z (.q z (.nil ?_)))
 refine .cs z h ?_ ?_ <;> intro h
 ·refine .g (.q z (.q z (.q z ?_)))
  have ⟨y6,hy6,h⟩:=bnd h
  refine .c (.cO hS Tryz.func63 (cl hy6) z z ?_)
  intro W hS
  obtain rfl:=o9 h
  exact .qn z (.ret (ab (vs:=[_]) () (rt z rn) z (hS.to [])))
 refine .g (.q z (.q z (.nil ?_)))
 refine .cs z h ?_ ?_ <;> intro h
 ·refine .seq (.g (.q z (.q z (.nil ?_))))
  refine .cs z h ?_ ?_ <;> intro h
  ·cases h
   exact .g (.qn z (.ret (ab (vs:=[_]) () (rt z rn) z (hS.to []))))
  refine .skip (.g (.q z (.q z ?_)))
  have ⟨d3,hd3,h⟩:=bnd h
  refine .s (dq hd3 z z z) z ?_
  have ⟨y7,hy7,h⟩:=bnd h
  refine .c (.cO hS Tryz.func63 (cl hy7) z z ?_)
  intro W hS
  obtain rfl:=o9 h
  exact .qn z (.ret (ab (vs:=[_]) () (rt z rn) z (hS.to [])))
 refine .skip (.seq (.g (.q z (.q z (.nil ?_)))))
 refine .cs z h ?_ ?_ <;> intro h
 ·obtain rfl:=o9 h
  exact .g (.q z (.qn z (.ret (ab (vs:=[_]) () (rt z rn) z (hS.to [])))))
 refine .skip (.g (.q z (.q z ?_)))
 have ⟨d4,hd4,h⟩:=bnd h
 obtain rfl:=o9 h
 exact .s (dr hd4 z z z) z (.qn z (.ret (ab (vs:=[_]) () (rt z rn) z (hS.to []))))
def oZ (w : World) (S : Nat → Prop) (aI : Hd) (bb : Hd) (g_0 : Nat) (a0 : ai) (r : Int × (List Int) × Int × (List Int)) : Env → World → Prop:=Fin Tryz.prog Tryz.f81 S w (fun s : Hd × Hd=>.int .i64 r.1) (fun s=>[.box g_0 28 [(sv s.1),vi r.2.2.1,(sv s.2)],ae (sv s.1) 3 1 (D.int .i64) r.2.1,ae (sv s.2) 3 1 (D.int .i64) r.2.2.2]) .ret
theorem oA {a0 : ai} {aI : Hd} {bb : Hd} {g_0 : Nat} {S : Nat → Prop} {w : World} {r : Int × (List Int) × Int × (List Int)} (h : cH a0 = some r) (hO : bO w [ae (sv aI) 3 1 (D.int .i64) a0.Regs,ae (sv bb) 3 1 (D.int .i64) a0.Mem,.box g_0 28 [(sv aI),vi a0.Pc,(sv bb)]] S) (hlt : ∀ b,S b → b < w.heap.size) (hG : Gl w) (hM : ∀ g,g < NGl → ¬ S g) : Cl 81 #[pt g_0] w (Ret S w (fun s : Hd × Hd=>.int .i64 r.1) (fun s=>[.box g_0 28 [(sv s.1),vi r.2.2.1,(sv s.2)],ae (sv s.1) 3 1 (D.int .i64) r.2.1,ae (sv s.2) 3 1 (D.int .i64) r.2.2.2])):=by
 unfold cH at h
 refine ar Tryz.func81 z z ?_
 have hS:=Sep.sm hO hlt
 refine .g (.qn z (.g (.q z (.q z (.q z (.s (fa T.f28_1 z z z) z (.s (ld T.t3 hS.p2 z z z z z) z ?_)))))))
 have ⟨y1,hy1,h⟩:=bnd h
 have hS:=hS.p2
 refine .c (.cS (L0:=[.box g_0 28 [(sv aI),vi a0.Pc,(sv bb)]]) hS Tryz.func124 (fun S h1 h2 h3=>(kX hy1 (h3.rdv (k:=0) z) (h3.rdv (k:=1) z) h2 (zz h1))) z z ?_)
 rintro ⟨⟩ W hS
 refine .qn z (.seq (.g (.q z (.s (CR T.u153 z z) z (.nil ?_)))))
 refine .cs z h ?_ ?_ <;> intro h
 ·cases h
  exact .g (.qn z (.ret (ab (vs:=[_]) (aI,bb) (rt z rn) z (hS.to [0,0,0]))))
 refine .skip (.g (.q z ?_))
 have ⟨x1,hx1,h⟩:=bnd h
 refine .eqv 19 z (uL hx1) (.s (pr z) z (.s (lde (RV.flat hS.p2.lv hx1 z) T.t3 z z z z z) z ?_))
 have ⟨y2,hy2,h⟩:=bnd h
 refine .c (.cO hS Tryz.func111 (ia hy2) z z ?_)
 intro W hS
 have ⟨y3,hy3,h⟩:=bnd h
 refine .c (.cO hS Tryz.func125 (oY hy3 (hG.at hS hM)) z z ?_)
 intro W hS
 refine .q z (.q z (.q z (.c (.alloc T.t105 hS ?_))))
 intro g1 W hS
 refine .c (.st T.t105 hS z z z ?_)
 intro W hS
 refine .qn z (.seq (.g (.q z (.q z (.nil ?_)))))
 refine .cs z h ?_ ?_ <;> intro h
 ·cases h
  exact .g (.qn z (.ret (ab (vs:=[_]) (aI,bb) (rt z rn) z (hS.to [1,1,1]))))
 refine .skip (.seq (.rk 18 hS [0,0,0,0] T.mix ?_))
 intro W hS
 have hT:=hS.to [0,0,0,0]
 refine .tp' 0 z z hT (.tp' 1 z z hT (.ts' 2 z (fun W hT=>fa T.f28_0 z z z) hT z (.ts' 3 z (fun W hT=>ld T.t23 hT.p1 z z z z z) hT z (.ts' 4 z (fun W hT=>fa T.f105_2 z z z) hT z (.ts' 5 z (fun W hT=>ld T.t3 hT z z z z z) hT z ?_)))))
 have ⟨x2,hx2,h⟩:=bnd h
 refine .ts' 6 z (fun W hT=>ixv hS.p2.lv hx2 T.u23 T.t3 z z z) hT z (.ts' 7 z (fun W hT=>lde (RV.flat hT.p2.lv hx2 z) T.t3 z z z z z) hT z (.tp' 8 z z hT (.tp' 9 z z hT (.ts' 10 z (fun W hT=>fa T.f28_0 z z z) hT z (.ts' 11 z (fun W hT=>ld T.t23 hT.p1 z z z z z) hT z (.ts' 12 z (fun W hT=>fa T.f105_3 z z z) hT z (.ts' 13 z (fun W hT=>ld T.t3 hT z z z z z) hT z ?_)))))))
 have ⟨x3,hx3,h⟩:=bnd h
 refine .ts' 14 z (fun W hT=>ixv hS.p2.lv hx3 T.u23 T.t3 z z z) hT z (.ts' 15 z (fun W hT=>lde (RV.flat hT.p2.lv hx3 z) T.t3 z z z z z) hT z (.tp' 16 z z hT (.tp' 17 z z hT (.done (.g (.q z (.q z (.s (fa T.f28_1 z z z) z (.s (ld T.t3 hS.p1 z z z z z) z (.q z ?_))))))))))
 have ⟨y4,hy4,h⟩:=bnd h
 refine .c (.cO hS Tryz.func63 (cl hy4) z z ?_)
 intro W hS
 refine .q z (.nil ?_)
 have ⟨y5,hy5,h⟩:=bnd h
 refine .seq (CW.via (R':=fun x E' W'=>(match y5 with | .inl o1=>x = .normal ∧ ∃ (v1 : Hd),aD E' [(0,pt g_0),(8,vi o1.1)] ∧ Sep S w W' [.box g1 105 [vi y3.1.Op,vi y3.1.Rd,vi y3.1.Rs,vi y3.1.Rt,vi y3.1.Imm],.box g_0 28 [(sv v1),vi a0.Pc,(sv bb)],ae (sv bb) 3 1 (D.int .i64) o1.2.2,ae (sv v1) 3 1 (D.int .i64) o1.2.1] | .inr o2=>x = .ret ∧ oZ w S aI bb g_0 a0 o2 E' W')) ?_ ?_)
 ·have h:=hy5
  refine .g (.s (fa T.f105_0 z z z) z (.s (ld T.t3 hS z z z z z) z (.nil (.block (.g (.q z (.q z (.nil ?_))))))))
  refine .cs z h ?_ ?_ <;> intro h
  ·refine .g (.qn z (.ret ?_))
   cases h
   exact ⟨z,ab (vs:=[_]) (aI,bb) (rt z rn) z (hS.to [1,1,1])⟩
  refine .g (.q z (.qn z (.cond z (fun hb=>?_) (fun hb=>?_))))
  ·have h:=aF hb h
   refine .rk 9 hS [0,2] T.mix ?_
   intro W hS
   have hT:=hS.to [0,2]
   refine .tp' 0 z z hT (.ts' 1 z (fun W hT=>fa T.f105_1 z z z) hT z (.ts' 2 z (fun W hT=>ld T.t3 hT z z z z z) hT z (.tp' 3 z z hT (.ts' 4 z (fun W hT=>fa T.f105_4 z z z) hT z (.ts' 5 z (fun W hT=>ld T.t3 hT z z z z z) hT z (.tp' 6 z z hT ?_))))))
   have ⟨y6,hy6,h⟩:=bnd h
   refine .by1 7 z (.cO hS Tryz.func63 (cl hy6) z z ?_)
   intro W hS
   have hT:=hS.to [0,2]
   refine ⟨fun _=>hT,?_⟩
   have ⟨y7,hy7,h⟩:=bnd h
   have hS:=hS.p1
   have hS:=hS.p2
   refine .by1 8 z (.cS (L0:=[ae (sv aI) 3 1 (D.int .i64) a0.Regs,.box g_0 28 [(sv aI),vi a0.Pc,(sv bb)]]) hS Tryz.func126 (fun S h1 h2 h3=>(cE hy7 (h3.rdv (k:=1) z) h2 (zz h1))) z z ?_)
   rintro v2 W hS
   have hT:=hS.to [2,2]
   refine ⟨fun _=>hT,.done ?_⟩
   cases h
   exact ⟨z,v2,sb z,hS.to [2,0,1,0]⟩
  have h:=aG hb h
  refine .g (.q z (.qn z (.cond z (fun hb=>?_) (fun hb=>?_))))
  ·have h:=aF hb h
   refine .rk 11 hS [0,2] T.mix ?_
   intro W hS
   have hT:=hS.to [0,2]
   refine .tp' 0 z z hT (.ts' 1 z (fun W hT=>fa T.f105_1 z z z) hT z (.ts' 2 z (fun W hT=>ld T.t3 hT z z z z z) hT z (.tp' 3 z z hT (.ts' 5 z (fun W hT=>fa T.f105_4 z z z) hT z (.ts' 6 z (fun W hT=>ld T.t3 hT z z z z z) hT z ?_)))))
   have ⟨y8,hy8,h⟩:=bnd h
   refine .by1 4 z (.cO hS Tryz.func111 (ia hy8) z z ?_)
   intro W hS
   have hT:=hS.to [0,2]
   refine ⟨fun _=>hT,?_⟩
   have ⟨y9,hy9,h⟩:=bnd h
   refine .by1 7 z (.cO hS Tryz.func111 (ia hy9) z z ?_)
   intro W hS
   have hT:=hS.to [0,2]
   refine ⟨fun _=>hT,.tp' 8 z z hT ?_⟩
   have ⟨y10,hy10,h⟩:=bnd h
   refine .by1 9 z (.cO hS Tryz.func127 (mB hy10) z z ?_)
   intro W hS
   have hT:=hS.to [0,2]
   refine ⟨fun _=>hT,?_⟩
   have ⟨y11,hy11,h⟩:=bnd h
   have hS:=hS.p1
   have hS:=hS.p2
   refine .by1 10 z (.cS (L0:=[ae (sv aI) 3 1 (D.int .i64) a0.Regs,.box g_0 28 [(sv aI),vi a0.Pc,(sv bb)]]) hS Tryz.func126 (fun S h1 h2 h3=>(cE hy11 (h3.rdv (k:=1) z) h2 (zz h1))) z z ?_)
   rintro v3 W hS
   have hT:=hS.to [2,2]
   refine ⟨fun _=>hT,.done ?_⟩
   cases h
   exact ⟨z,v3,sb z,hS.to [2,0,1,0]⟩
  have h:=aG hb h
  have ⟨y12,hy12,h⟩:=bnd h
  refine .seq (CW.via (R':=fun x E' W'=>x = .normal ∧ aD E' [(0,pt g_0),(4,pt g1),(6,vi x2),(7,vi x3),(8,vi y4),(51,vi y3.1.Op),(90,.bool y12)] ∧ Sep S w W' [.box g1 105 [vi y3.1.Op,vi y3.1.Rd,vi y3.1.Rs,vi y3.1.Rt,vi y3.1.Imm],.box g_0 28 [(sv aI),vi a0.Pc,(sv bb)],ae (sv aI) 3 1 (D.int .i64) a0.Regs,ae (sv bb) 3 1 (D.int .i64) a0.Mem]) ?_ ?_)
  ·have h:=hy12
   refine .g (.q z (.q z (.nil ?_)))
   refine .cs z h ?_ ?_ <;> intro h
   ·refine .skip ?_
    cases h
    exact ⟨z,sb z,hS.to [0,0,0,0]⟩
   refine .region (.q z (.q z (.nil ?_)))
   cases h
   exact ⟨z,sb z,hS.to [0,0,0,0]⟩
  intro x E W hJ
  obtain ⟨rfl,hE,hS⟩:=hJ
  refine ⟨_,hE.sub,?_⟩
  refine .cond z (fun hb=>?_) (fun hb=>?_)
  ·have h:=aF hb h
   refine .g (.q z (.q z (.s (fa T.f105_4 z z z) z (.s (ld T.t3 hS z z z z z) z (.q z ?_)))))
   have ⟨y13,hy13,h⟩:=bnd h
   refine .c (.cO hS Tryz.func63 (cl hy13) z z ?_)
   intro W hS
   have ⟨y14,hy14,h⟩:=bnd h
   have hS:=hS.p1
   refine .c (.cS (L0:=[.box g_0 28 [(sv aI),vi a0.Pc,(sv bb)]]) hS Tryz.func124 (fun S h1 h2 h3=>(kX hy14 (h3.rdv (k:=1) z) (h3.rdv (k:=2) z) h2 (zz h1))) z z ?_)
   rintro ⟨⟩ W hS
   refine .qn z (.seq (.g (.q z (.s (CR T.u153 z z) z (.nil ?_)))))
   refine .cs z h ?_ ?_ <;> intro h
   ·refine .g (.qn z (.ret ?_))
    cases h
    exact ⟨z,ab (vs:=[_]) (aI,bb) (rt z rn) z (hS.to [0,1,1])⟩
   refine .skip (.g (.s (fa T.f105_0 z z z) z (.s (ld T.t3 hS.p1 z z z z z) z (.qn z (.cond z (fun hb=>?_) (fun hb=>?_))))))
   ·have h:=aF hb h
    refine .region (.q z (.q z ?_))
    have ⟨x4,hx4,h⟩:=bnd h
    refine .eqv 105 z (uL hx4) (.s (pr z) z ?_)
    have ⟨r1,hr1,h⟩:=bnd h
    refine .c (.sev hr1 hx4 hS.p3 T.t3 z z z z z z ?_)
    intro W hS
    refine .nil ?_
    cases h
    exact ⟨z,aI,sb z,hS.to [2,1,0,0]⟩
   have h:=aG hb h
   have ⟨x5,hx5,h⟩:=bnd h
   refine .eqv 9 z (uL hx5) (.rk 7 hS [1,2] T.mix ?_)
   intro W hS
   have hT:=hS.to [1,2]
   refine .tp' 0 z z hT (.ts' 1 z (fun W hT=>fa T.f105_1 z z z) hT z (.ts' 2 z (fun W hT=>ld T.t3 hT z z z z z) hT z (.tp' 3 z z hT (.tp' 4 z z hT (.ts' 5 z (fun W hT=>lde (RV.flat hT.p1.lv hx5 z) T.t3 z z z z z) hT z ?_)))))
   have ⟨y15,hy15,h⟩:=bnd h
   have hS:=hS.p2
   refine .by1 6 z (.cS (L0:=[ae (sv aI) 3 1 (D.int .i64) a0.Regs,.box g_0 28 [(sv aI),vi a0.Pc,(sv bb)]]) hS Tryz.func126 (fun S h1 h2 h3=>(cE hy15 (h3.rdv (k:=1) z) h2 (zz h1))) z z ?_)
   rintro v4 W hS
   have hT:=hS.to [2,2]
   refine ⟨fun _=>hT,.done ?_⟩
   cases h
   exact ⟨z,v4,sb z,hS.to [2,0,1,0]⟩
  have h:=aG hb h
  refine .g (.q z (.qn z (.cond z (fun hb=>?_) (fun hb=>?_))))
  ·have h:=aF hb h
   refine .g (.q z (.s (fa T.f105_1 z z z) z (.s (ld T.t3 hS z z z z z) z (.q z ?_))))
   have ⟨y16,hy16,h⟩:=bnd h
   have hS:=hS.p1
   have hS:=hS.p2
   refine .c (.cS (L0:=[ae (sv aI) 3 1 (D.int .i64) a0.Regs,.box g_0 28 [(sv aI),vi a0.Pc,(sv bb)]]) hS Tryz.func126 (fun S h1 h2 h3=>(cE hy16 (h3.rdv (k:=1) z) h2 (zz h1))) z z ?_)
   rintro v5 W hS
   refine .nil (.region (.q z (.s (fa T.f105_4 z z z) z (.s (ld T.t3 hS.p2 z z z z z) z (.q z ?_)))))
   have ⟨y17,hy17,h⟩:=bnd h
   refine .c (.cO hS Tryz.func63 (cl hy17) z z ?_)
   intro W hS
   refine .q z (.q z (.nil ?_))
   cases h
   exact ⟨z,v5,sb z,hS.to [2,0,1,0]⟩
  have h:=aG hb h
  have ⟨y18,hy18,h⟩:=bnd h
  refine .seq (CW.via (R':=fun x E' W'=>x = .normal ∧ aD E' [(0,pt g_0),(4,pt g1),(6,vi x2),(7,vi x3),(8,vi y4),(51,vi y3.1.Op),(128,.bool y18)] ∧ Sep S w W' [.box g1 105 [vi y3.1.Op,vi y3.1.Rd,vi y3.1.Rs,vi y3.1.Rt,vi y3.1.Imm],.box g_0 28 [(sv aI),vi a0.Pc,(sv bb)],ae (sv aI) 3 1 (D.int .i64) a0.Regs,ae (sv bb) 3 1 (D.int .i64) a0.Mem]) ?_ ?_)
  ·have h:=hy18
   refine .g (.q z (.q z (.nil ?_)))
   refine .cs z h ?_ ?_ <;> intro h
   ·refine .skip ?_
    cases h
    exact ⟨z,sb z,hS.to [0,0,0,0]⟩
   refine .region (.q z (.q z (.nil ?_)))
   cases h
   exact ⟨z,sb z,hS.to [0,0,0,0]⟩
  intro x E W hJ
  obtain ⟨rfl,hE,hS⟩:=hJ
  refine ⟨_,hE.sub,?_⟩
  refine .cs z h ?_ ?_ <;> intro h
  ·refine .g (.q z (.q z (.q z (.s (fa T.f105_0 z z z) z (.s (ld T.t3 hS z z z z z) z (.q z (.s (eqb T.u4 z z z) z (.nil ?_))))))))
   refine .cs z h ?_ ?_ <;> intro h
   ·refine .rk 9 hS [0,0,0,0] T.mix ?_
    intro W hS
    have hT:=hS.to [0,0,0,0]
    refine .tp' 0 z z hT (.tp' 1 z z hT (.ts' 2 z (fun W hT=>fa T.f28_1 z z z) hT z (.ts' 3 z (fun W hT=>ld T.t3 hT.p1 z z z z z) hT z (.ts' 4 z (fun W hT=>fa T.f105_4 z z z) hT z (.ts' 5 z (fun W hT=>ld T.t3 hT z z z z z) hT z (.tp' 6 z z hT ?_))))))
    have ⟨y19,hy19,h⟩:=bnd h
    refine .by1 7 z (.cO hS Tryz.func63 (cl hy19) z z ?_)
    intro W hS
    have hT:=hS.to [0,0,0,0]
    refine ⟨fun _=>hT,.tp' 8 z z hT (.done ?_)⟩
    cases h
    exact ⟨z,aI,sb z,hS.to [0,0,1,0]⟩
   refine .skip ?_
   cases h
   exact ⟨z,aI,sb z,hS.to [0,0,1,0]⟩
  refine .g (.q z (.qn z (.cond z (fun hb=>?_) (fun hb=>?_))))
  ·have h:=aF hb h
   refine .rk 8 hS [0,2] T.mix ?_
   intro W hS
   have hT:=hS.to [0,2]
   refine .tp' 0 z z hT (.ts' 1 z (fun W hT=>fa T.f105_1 z z z) hT z (.ts' 2 z (fun W hT=>ld T.t3 hT z z z z z) hT z (.ts' 3 z (fun W hT=>fa T.f105_4 z z z) hT z (.ts' 4 z (fun W hT=>ld T.t3 hT z z z z z) hT z (.tp' 5 z z hT ?_)))))
   have ⟨y20,hy20,h⟩:=bnd h
   refine .by1 6 z (.cO hS Tryz.func63 (cl hy20) z z ?_)
   intro W hS
   have hT:=hS.to [0,2]
   refine ⟨fun _=>hT,?_⟩
   have ⟨y21,hy21,h⟩:=bnd h
   have hS:=hS.p1
   have hS:=hS.p2
   refine .by1 7 z (.cS (L0:=[ae (sv aI) 3 1 (D.int .i64) a0.Regs,.box g_0 28 [(sv aI),vi a0.Pc,(sv bb)]]) hS Tryz.func126 (fun S h1 h2 h3=>(cE hy21 (h3.rdv (k:=1) z) h2 (zz h1))) z z ?_)
   rintro v6 W hS
   have hT:=hS.to [2,2]
   refine ⟨fun _=>hT,.done ?_⟩
   cases h
   exact ⟨z,v6,sb z,hS.to [2,0,1,0]⟩
  have h:=aG hb h
  refine .g (.q z (.qn z (.cond z (fun hb=>?_) (fun hb=>?_))))
  ·have h:=aF hb h
   refine .g (.q z (.s (fa T.f105_1 z z z) z (.s (ld T.t3 hS z z z z z) z (.q z ?_))))
   have ⟨y22,hy22,h⟩:=bnd h
   have hS:=hS.p1
   have hS:=hS.p2
   refine .c (.cS (L0:=[ae (sv aI) 3 1 (D.int .i64) a0.Regs,.box g_0 28 [(sv aI),vi a0.Pc,(sv bb)]]) hS Tryz.func126 (fun S h1 h2 h3=>(cE hy22 (h3.rdv (k:=1) z) h2 (zz h1))) z z ?_)
   rintro v7 W hS
   refine .nil (.rk 9 hS [0,0,0,0] T.mix ?_)
   intro W hS
   have hT:=hS.to [0,0,0,0]
   refine .tp' 0 z z hT (.tp' 1 z z hT (.ts' 2 z (fun W hT=>fa T.f28_1 z z z) hT z (.ts' 3 z (fun W hT=>ld T.t3 hT z z z z z) hT z (.ts' 4 z (fun W hT=>fa T.f105_4 z z z) hT z (.ts' 5 z (fun W hT=>ld T.t3 hT.p2 z z z z z) hT z (.tp' 6 z z hT ?_))))))
   have ⟨y23,hy23,h⟩:=bnd h
   refine .by1 7 z (.cO hS Tryz.func63 (cl hy23) z z ?_)
   intro W hS
   have hT:=hS.to [0,0,0,0]
   refine ⟨fun _=>hT,.tp' 8 z z hT (.done ?_)⟩
   cases h
   exact ⟨z,v7,sb z,hS.to [2,0,1,0]⟩
  have h:=aG hb h
  refine .rk 12 hS [0,2] T.mix ?_
  intro W hS
  have hT:=hS.to [0,2]
  refine .tp' 0 z z hT (.ts' 1 z (fun W hT=>fa T.f105_1 z z z) hT z (.ts' 2 z (fun W hT=>ld T.t3 hT z z z z z) hT z (.ts' 3 z (fun W hT=>fa T.f105_0 z z z) hT z (.ts' 4 z (fun W hT=>ld T.t3 hT z z z z z) hT z (.tp' 5 z z hT ?_)))))
  have ⟨x6,hx6,h⟩:=bnd h
  refine .ts' 6 z (fun W hT=>ixt hx6 z T.u159 T.t3 z z z) hT z (.ts' 7 z (fun W hT=>ldt (hG.at hT hM).2.2.1 hx6 T.t3 z z z z z) hT z (.tp' 8 z z hT (.tp' 9 z z hT ?_)))
  have ⟨y24,hy24,h⟩:=bnd h
  refine .by1 10 z (.cO hS Tryz.func128 (uj hy24) z z ?_)
  intro W hS
  have hT:=hS.to [0,2]
  refine ⟨fun _=>hT,?_⟩
  have ⟨y25,hy25,h⟩:=bnd h
  have hS:=hS.p1
  have hS:=hS.p2
  refine .by1 11 z (.cS (L0:=[ae (sv aI) 3 1 (D.int .i64) a0.Regs,.box g_0 28 [(sv aI),vi a0.Pc,(sv bb)]]) hS Tryz.func126 (fun S h1 h2 h3=>(cE hy25 (h3.rdv (k:=1) z) h2 (zz h1))) z z ?_)
  rintro v8 W hS
  have hT:=hS.to [2,2]
  refine ⟨fun _=>hT,.done ?_⟩
  cases h
  exact ⟨z,v8,sb z,hS.to [2,0,1,0]⟩
 intro x E W hJ
 rcases y5 with o3 | o4
 ·obtain ⟨rfl,v9,hE,hS⟩:=hJ
  refine ⟨_,hE.sub,?_⟩
  refine .g (.q z (.q z (.q z (.s (fa T.f28_1 z z z) z (.c (.st T.t3 hS.p1 z z z ?_))))))
  intro W hS
  cases h
  exact .nil (.g (.qn z (.ret (ab (vs:=[_]) (v9,bb) (rt z rn) z (hS.to [0,2,1])))))
 obtain ⟨rfl,hF⟩:=hJ
 refine ⟨_,fun _ _ h=>h,?_⟩
 cases h
 exact hF
def sG (w : World) (r : ai × (List Int) × Int) : Env → World → Prop:=Fin Tryz.prog Tryz.f37 No w (fun s : Hd × Hd × Hd=>.tuple #[.agg #[(sv s.1),vi r.1.Pc,(sv s.2.1)],(sv s.2.2),vi r.2.2]) (fun s=>[ae (sv s.1) 3 1 (D.int .i64) r.1.Regs,ae (sv s.2.1) 3 1 (D.int .i64) r.1.Mem,ae (sv s.2.2) 3 1 (D.int .i64) r.2.1]) .ret
theorem rF {a0 : ai} {a1 : Int} {aI : Hd} {bb : Hd} {w : World} {r : ai × (List Int) × Int} (h : fW a0 a1 = some r) (fP : RO w aI 3 1 (D.int .i64) a0.Regs) (ib : RO w bb 3 1 (D.int .i64) a0.Mem) (hG : Gl w) : Cl 37 #[.agg #[(sv aI),vi a0.Pc,(sv bb)],vi a1] w (Ret No w (fun s : Hd × Hd × Hd=>.tuple #[.agg #[(sv s.1),vi r.1.Pc,(sv s.2.1)],(sv s.2.2),vi r.2.2]) (fun s=>[ae (sv s.1) 3 1 (D.int .i64) r.1.Regs,ae (sv s.2.1) 3 1 (D.int .i64) r.1.Mem,ae (sv s.2.2) 3 1 (D.int .i64) r.2.1])):=by
 unfold fW at h
 refine ar Tryz.func37 z z ?_
 have hS:=Sep.start w
 refine .g (.c (.box hS z z ?_))
 intro g1 W hS
 refine .c (.alloc T.t28 hS ?_)
 intro g2 W hS
 refine .q z (.qn z (.seq (.g (.s (ld T.t28 hS.p1 z z z z z) z ?_))))
 have ⟨y1,hy1,h⟩:=bnd h
 refine .c (.cO hS Tryz.func56 (oz hy1 (hS.keep fP) (hS.keep ib)) z z ?_)
 intro W hS
 refine .q z (.q z (.cu 3 16 ((!y1) || (decide (a1 < 0))) hS ?_ ?_))
 ·refine .both (!y1) (fun hb=>?_) (fun hb=>?_)
  ·exact .xx hb z (.xx hb z (.s (pkt hb z z z) z (.nil (ck 3 hS z (kL hb)))))
  have hg1:=hb
  exact .g hg1 (.q z (.g hg1 (.q z (.s (pkf hg1 z z z) z (.nil (ck 3 hS z (kM hg1)))))))
 intro W hS
 refine .q z (.cu 3 20 (((!y1) || (decide (a1 < 0))) || (decide (a1 > 1000000))) hS ?_ ?_)
 ·refine .both ((!y1) || (decide (a1 < 0))) (fun hb=>?_) (fun hb=>?_)
  ·exact .xx hb z (.xx hb z (.s (pkt hb z z z) z (.nil (ck 3 hS z (kL hb)))))
  have hg2:=hb
  exact .g hg2 (.q z (.g hg2 (.q z (.s (pkf hg2 z z z) z (.nil (ck 3 hS z (kM hg2)))))))
 intro W hS
 refine .nil ?_
 refine .cs z h ?_ ?_ <;> intro h
 ·refine .g (.s (bs T.s28 z z) z (.c (.st T.t28 hS z z z ?_)))
  intro W hS
  refine .q z (.qn z (.ret ?_))
  have hS:=hS.nilv 3 1 (D.int .i64)
  have hS:=hS.nilv 3 1 (D.int .i64)
  have hS:=hS.nilv 3 1 (D.int .i64)
  cases h
  exact ab (vs:=[_,_,_]) (aP,aP,aP) (rc hS.p3 T.t28 z (rt z (rt z rn)) z z) z (hS.to [2,1,0])
 refine .skip (.g (.s (ld T.t28 hS.p1 z z z z z) z ?_))
 have ⟨y2,hy2,h⟩:=bnd h
 refine .c (.call hS Tryz.func80 (oX hy2 (hS.keep fP) (hS.keep ib)) z z ?_)
 rintro ⟨v1,v2⟩ W hS
 refine .c (.alloc T.t28 hS ?_)
 intro g3 W hS
 refine .c (.st T.t28 hS z z z ?_)
 intro W hS
 refine .nil (.g (.qn z (.seq (.g (.q z (.qn z (.block ?_)))))))
 have hS:=hS.nilv 3 1 (D.int .i64)
 have ⟨y3,hy3,h⟩:=bnd h
 refine .via (.iter (fun s1 E' W'=>∃ (v9 : Hd) (v10 : Hd) (v11 : Hd),aD E' [(4,pt g2),(7,pt g3),(8,(sv v9)),(24,vi a1),(25,vi s1.2.1)] ∧ Sep No w W' [.box g3 28 [(sv v10),vi s1.2.2.2.1,(sv v11)],.box g2 28 [(sv aP),vi 0,(sv aP)],.box g1 28 [(sv aI),vi a0.Pc,(sv bb)],ae (sv v9) 3 1 (D.int .i64) s1.1,ae (sv v10) 3 1 (D.int .i64) s1.2.2.1,ae (sv v11) 3 1 (D.int .i64) s1.2.2.2.2]) (fun y4 x E' W'=>(match y4 with | .inl o1=>x = .ret ∧ sG w o1 E' W' | .inr o2=>x = .exit 0 ∧ ∃ (v12 : Hd) (v13 : Hd) (v14 : Hd),aD E' [(4,pt g2),(7,pt g3),(8,(sv v12))] ∧ Sep No w W' [.box g3 28 [(sv v13),vi o2.2.2.1,(sv v14)],.box g2 28 [(sv aP),vi 0,(sv aP)],.box g1 28 [(sv aI),vi a0.Pc,(sv bb)],ae (sv v12) 3 1 (D.int .i64) o2.1,ae (sv v13) 3 1 (D.int .i64) o2.2.1,ae (sv v14) 3 1 (D.int .i64) o2.2.2.2])) hy3 ⟨aP,v1,v2,sb rfl,hS.to [1,3,3,0,0,0] rfl⟩ ?_) ?_
 ·intro s1 y5 E W h hI
  obtain ⟨v6,v7,v8,hE,hS⟩:=hI
  refine CW.sub hE ?_
  unfold eb at h
  refine .g (.qn z (.seq (.cond z (fun hb=>?_) (fun hb=>?_))))
  ·have h:=aF hb h
   refine .skip (.seq (.block (.seq (.region ?_))))
   have ⟨y6,hy6,h⟩:=bnd h
   have hS:=hS.p5
   have hS:=hS.p5
   refine .c (.cS (L0:=[ae (sv v7) 3 1 (D.int .i64) s1.2.2.1,ae (sv v8) 3 1 (D.int .i64) s1.2.2.2.2,.box g3 28 [(sv v7),vi s1.2.2.2.1,(sv v8)]]) hS Tryz.func81 (fun S h1 h2 h3=>(oA hy6 h2 (zz h1) (hG.at hS (fun _ _ h=>h)) (hG.noS (fun _ _ h=>h) h1))) z z ?_)
   rintro ⟨v15,v16⟩ W hS
   refine .q z (.nil ?_)
   have ⟨y7,hy7,h⟩:=bnd h
   refine .seq (CW.via (R':=fun x E' W'=>x = .normal ∧ ∃ (v17 : Hd),aD E' [(4,pt g2),(7,pt g3),(8,(sv v17)),(9,vi y7.2.1),(24,vi a1),(25,vi s1.2.1)] ∧ Sep No w W' [.box g3 28 [(sv v15),vi y7.2.2,(sv v16)],ae (sv v15) 3 1 (D.int .i64) y6.2.1,ae (sv v16) 3 1 (D.int .i64) y6.2.2.2,.box g2 28 [(sv aP),vi 0,(sv aP)],.box g1 28 [(sv aI),vi a0.Pc,(sv bb)],ae (sv v17) 3 1 (D.int .i64) y7.1]) ?_ ?_)
   ·have h:=hy7
    refine .g (.q z (.q z (.q z ?_)))
    have ⟨b1,hb1,h⟩:=bnd h
    refine .cu 6 36 (b1) hS ?_ ?_
    ·refine .both (y6.1 == 2) (fun hb=>?_) (fun hb=>?_)
     ·have hg3:=hb
      have h:=aF hb hb1
      refine .g hg3 (.s (fa T.f28_0 z z z) z (.g hg3 (.s (ld T.t23 hS z z z z z) z ?_)))
      have ⟨x1,hx1,h⟩:=bnd h
      refine .g hg3 (.s (ixv hS.p1.lv hx1 T.u23 T.t3 z z z) z (.g hg3 (.s (lde (RV.flat hS.p1.lv hx1 z) T.t3 z z z z z) z (.g hg3 (.q z (.s (pkt hg3 z z z) z ?_))))))
      cases h
      exact .nil (ck 6 hS)
     refine .xx hb z (.xx hb z (.xx hb z (.xx hb z (.xx hb z ?_))))
     cases aG hb hb1
     exact .s (pkf hb z z z) z (.nil (ck 6 hS))
    intro W hS
    refine .nil ?_
    refine .cs z h ?_ ?_ <;> intro h
    ·refine .g (.q z (.s (fa T.f28_0 z z z) z (.s (ld T.t23 hS z z z z z) z ?_)))
     have ⟨x2,hx2,h⟩:=bnd h
     refine .s (ixv hS.p1.lv hx2 T.u23 T.t3 z z z) z (.s (lde (RV.flat hS.p1.lv hx2 z) T.t3 z z z z z) z (.c (.liv [x2] (D.int .i64) T.u23 T.t3 hS z z z z ?_ z (fun _=>z))))
     intro v18 W hS
     have ⟨r1,hr1,h⟩:=bnd h
     have hT0:=hS.p6
     refine .c (.av hr1 hT0 hT0.p1.lv (fun _=>z) T.u23 T.t3 z z z ?_)
     intro v19 W hS
     refine .qn z (.g (.s (fa T.f28_1 z z z) z (.s (ld T.t3 hS.p2 z z z z z) z (.q z ?_))))
     have ⟨y8,hy8,h⟩:=bnd h
     refine .c (.cO hS Tryz.func63 (cl hy8) z z ?_)
     intro W hS
     refine .s (fa T.f28_1 z z z) z (.c (.st T.t3 hS.p2 z z z ?_))
     intro W hS
     refine .nil (.region (.q z (.nil ?_)))
     cases h
     exact ⟨z,v19,sb z,hS.to [0,2,2,2,2,0]⟩
    refine .skip ?_
    cases h
    exact ⟨z,v6,sb z,hS.to [0,0,0,0,0,0]⟩
   intro x E W hJ
   obtain ⟨rfl,v20,hE,hS⟩:=hJ
   refine ⟨_,hE.sub,?_⟩
   refine .g (.q z (.q z (.nil ?_)))
   refine .cs z h ?_ ?_ <;> intro h
   ·refine .g (.s (ld T.t28 hS z z z z z) z (.q z (.q z (.c (.st T.t28 hS.p3 z z z ?_)))))
    intro W hS
    refine .q z (.qn z (.ret ?_))
    cases h
    exact ⟨by simp,z,ab (vs:=[_,_,_]) (v15,v16,v20) (rc hS T.t28 z (rt z (rt z rn)) z z) z (hS.to [2,2,3])⟩
   refine .skip (.region (.q z (.q z (.nil ?_))))
   cases h
   exact ⟨z,v20,v15,v16,sb z,hS.to [0,2,2,2,0,0]⟩
  have h:=aG hb h
  refine .exit ?_
  cases h
  exact ⟨by simp,z,v6,v7,v8,sb z,hS.to [0,0,0,0,0,0]⟩
 intro x E W hJ
 rcases y3 with o3 | o4
 ·obtain ⟨rfl,hF⟩:=hJ
  refine ⟨_,fun _ _ h=>h,?_⟩
  cases h
  exact hF
 obtain ⟨rfl,v21,v22,v23,hE,hS⟩:=hJ
 refine ⟨_,hE.sub,?_⟩
 refine .g (.s (ld T.t28 hS z z z z z) z (.q z (.c (.st T.t28 hS.p1 z z z ?_))))
 intro W hS
 cases h
 exact .q z (.qn z (.ret (ab (vs:=[_,_,_]) (v22,v23,v21) (rc hS T.t28 z (rt z (rt z rn)) z z) z (hS.to [4,4,3]))))
end

end Go.Proofs.YtgcmopfhafoabaaGreatDoor.N
