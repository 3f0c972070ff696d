/- Printed by a program of mine: that the program's functions compute it. -/
import Derived.Test.YtcljimkjmklkmaaGreatDoorK6
set_option linter.unusedVariables false
set_option linter.unusedSimpArgs false
set_option maxRecDepth 100000
set_option maxHeartbeats 40000000
namespace Go.Proofs.YtcljimkjmklkmaaGreatDoor.N
open Go.Proofs.YtcljimkjmklkmaaGreatDoor.X
noncomputable section
theorem nC {a0 : aj} {a1 : Int} {a2 : Int} {w : World} {r : (List Instr)} (h : hY a0 a1 a2 = some r) : Cl 71 #[.agg #[vi a0.Op,vi a0.Dst,vi a0.A,vi a0.B,vi a0.N],vi a1,vi a2] w (Ret No w (fun s : Hd=>(sv s)) (fun s=>[ae (sv s) 51 5 aG r])):=by
 unfold hY at h
 refine au Tryz.func71 z z ?_
 have hS:=Sep.start w
 refine .g (.c (.box hS z z ?_))
 intro g1 W hS
 refine .qn z (.g (.s (fa T.f107_1 z z z) z (.s (ld T.t3 hS z z z z z) z (.q z ?_))))
 have ⟨y1,hy1,h⟩:=bnd h
 refine .c (.cO hS Tryz.func93 (ek hy1) z z ?_)
 intro W hS
 refine .qn z (.seq (.g (.s (fa T.f107_0 z z z) z (.s (ld T.t3 hS z z z z z) z (.nil (.block (.g (.q z (.qn z (.cond z (fun hb=>?_) (fun hb=>?_)))))))))))
 ·have h:=aI hb h
  refine .seq (.rk 9 hS [0] T.mix ?_)
  intro W hS
  have hT:=hS.to [0]
  refine .tp' 0 z z hT (.ts' 1 z (fun W hT=>fa T.f107_4 z z z) hT z (.ts' 2 z (fun W hT=>ld T.t3 hT z z z z z) hT z (.ts' 4 z (fun W hT=>fa T.f107_1 z z z) hT z (.ts' 5 z (fun W hT=>ld T.t3 hT z z z z z) hT z (.tp' 6 z z hT ?_)))))
  have ⟨y2,hy2,h⟩:=bnd h
  refine .by1 3 z (.cV hS Tryz.func95 (qV hy2) z z ?_)
  intro v1 W hS
  have hT:=hS.to [1]
  refine ⟨fun _=>hT,?_⟩
  have ⟨y3,hy3,h⟩:=bnd h
  refine .by1 7 z (.cS (L0:=[ae (sv v1) 51 5 aG y2]) hS Tryz.func94 (fun S h1 h2 h3=>(io hy3 h2 (zz h1))) z z ?_)
  rintro v2 W hS
  have hT:=hS.to [1]
  refine ⟨fun _=>hT,?_⟩
  obtain rfl:=o9 h
  exact .tp' 8 z z hT (.done (.ret (ac (vs:=[_]) v2 (rt z rn) z (hS.to [0]))))
 have h:=aJ hb h
 refine .g (.q z (.qn z (.cond z (fun hb=>?_) (fun hb=>?_))))
 ·have h:=aI hb h
  refine .seq (.rk 17 hS [0] T.mix ?_)
  intro W hS
  have hT:=hS.to [0]
  refine .ts' 0 z (fun W hT=>fa T.f107_2 z z z) hT z (.ts' 1 z (fun W hT=>ld T.t3 hT z z z z z) hT z (.tp' 2 z z hT (.tp' 4 z z hT (.ts' 5 z (fun W hT=>fa T.f107_2 z z z) hT z (.ts' 6 z (fun W hT=>ld T.t3 hT z z z z z) hT z (.tp' 7 z z hT (.ts' 12 z (fun W hT=>fa T.f107_1 z z z) hT z (.ts' 13 z (fun W hT=>ld T.t3 hT z z z z z) hT z (.tp' 14 z z hT ?_)))))))))
  have ⟨y4,hy4,h⟩:=bnd h
  refine .by1 3 z (.cV hS Tryz.func96 (fU hy4) z z ?_)
  intro v3 W hS
  have hT:=hS.to [1]
  refine ⟨fun _=>hT,?_⟩
  have ⟨y5,hy5,h⟩:=bnd h
  refine .by1 8 z (.cO hS Tryz.func93 (ek hy5) z z ?_)
  intro W hS
  have hT:=hS.to [1]
  refine ⟨fun _=>hT,?_⟩
  have ⟨y6,hy6,h⟩:=bnd h
  refine .by1 9 z (.cO hS Tryz.func97 (lz hy6) z z ?_)
  intro W hS
  have hT:=hS.to [1]
  refine ⟨fun _=>hT,.by1 10 z (.liv [y6] aG T.u35 T.t51 hS z z z z ?_ z (fun _=>z))⟩
  intro v4 W hS
  have hT:=hS.to [2]
  refine ⟨fun _=>hT,?_⟩
  have ⟨r1,hr1,h⟩:=bnd h
  have hT0:=hS.p1
  refine .by1 11 z (.av hr1 hT0 hT0.p1.lv (fun _=>z) T.u35 T.t51 z z z ?_)
  intro v5 W hS
  have hT:=hS.to [2]
  refine ⟨fun _=>hT,?_⟩
  have ⟨y7,hy7,h⟩:=bnd h
  refine .by1 15 z (.cS (L0:=[ae (sv v5) 51 5 aG r1]) hS Tryz.func94 (fun S h1 h2 h3=>(io hy7 h2 (zz h1))) z z ?_)
  rintro v6 W hS
  have hT:=hS.to [2]
  refine ⟨fun _=>hT,?_⟩
  obtain rfl:=o9 h
  exact .tp' 16 z z hT (.done (.ret (ac (vs:=[_]) v6 (rt z rn) z (hS.to [0]))))
 have h:=aJ hb h
 refine .g (.q z (.q z (.nil ?_)))
 refine .cs z h ?_ ?_ <;> intro h
 ·refine .g (.s (ld T.t107 hS z z z z z) z (.q z ?_))
  have ⟨y8,hy8,h⟩:=bnd h
  refine .c (.cV hS Tryz.func98 (tG hy8) z z ?_)
  intro v7 W hS
  obtain rfl:=o9 h
  exact .qn z (.ret (ac (vs:=[_]) v7 (rt z rn) z (hS.to [0])))
 refine .g (.q z (.q z (.nil ?_)))
 refine .cs z h ?_ ?_ <;> intro h
 ·refine .g (.q z (.s (bs T.s51 z z) z (.c (.liv [(Instr.mk 20 0 0 0 a2)] aG T.u35 T.t51 hS z z z z ?_ z (fun _=>z)))))
  intro v8 W hS
  cases h
  exact .qn z (.ret (ac (vs:=[_]) v8 (rt z rn) z (hS.to [0])))
 refine .g (.q z (.q z (.nil ?_)))
 refine .cs z h ?_ ?_ <;> intro h
 ·refine .g (.s (ld T.t107 hS z z z z z) z (.q z (.q z ?_)))
  have ⟨y9,hy9,h⟩:=bnd h
  refine .c (.cV hS Tryz.func99 (rU hy9) z z ?_)
  intro v9 W hS
  obtain rfl:=o9 h
  exact .qn z (.ret (ac (vs:=[_]) v9 (rt z rn) z (hS.to [0])))
 refine .g (.q z (.qn z (.cond z (fun hb=>?_) (fun hb=>?_))))
 ·have h:=aI hb h
  refine .seq (.rk 11 hS [0] T.mix ?_)
  intro W hS
  have hT:=hS.to [0]
  refine .ts' 0 z (fun W hT=>fa T.f107_2 z z z) hT z (.ts' 1 z (fun W hT=>ld T.t3 hT z z z z z) hT z (.tp' 2 z z hT (.ts' 4 z (fun W hT=>fa T.f107_4 z z z) hT z (.ts' 5 z (fun W hT=>ld T.t3 hT z z z z z) hT z ?_))))
  have ⟨y10,hy10,h⟩:=bnd h
  refine .by1 3 z (.cV hS Tryz.func101 (nB hy10) z z ?_)
  intro v10 W hS
  have hT:=hS.to [1]
  refine ⟨fun _=>hT,?_⟩
  have ⟨y11,hy11,h⟩:=bnd h
  refine .by1 6 z (.cO hS Tryz.func102 (nX hy11) z z ?_)
  intro W hS
  have hT:=hS.to [1]
  refine ⟨fun _=>hT,.by1 7 z (.liv [y11] aG T.u35 T.t51 hS z z z z ?_ z (fun _=>z))⟩
  intro v11 W hS
  have hT:=hS.to [2]
  refine ⟨fun _=>hT,?_⟩
  have ⟨r2,hr2,h⟩:=bnd h
  have hT0:=hS.p1
  refine .by1 8 z (.av hr2 hT0 hT0.p1.lv (fun _=>z) T.u35 T.t51 z z z ?_)
  intro v12 W hS
  have hT:=hS.to [2]
  refine ⟨fun _=>hT,?_⟩
  have ⟨y12,hy12,h⟩:=bnd h
  refine .by1 9 z (.cS (L0:=[ae (sv v12) 51 5 aG r2]) hS Tryz.func100 (fun S h1 h2 h3=>(fV hy12 h2 (zz h1))) z z ?_)
  rintro v13 W hS
  have hT:=hS.to [2]
  refine ⟨fun _=>hT,?_⟩
  obtain rfl:=o9 h
  exact .tp' 10 z z hT (.done (.ret (ac (vs:=[_]) v13 (rt z rn) z (hS.to [0]))))
 have h:=aJ hb h
 refine .g (.q z (.qn z (.cond z (fun hb=>?_) (fun hb=>?_))))
 ·have h:=aI hb h
  refine .g (.s (fa T.f107_4 z z z) z (.s (ld T.t3 hS z z z z z) z ?_))
  have ⟨y13,hy13,h⟩:=bnd h
  refine .c (.cO hS Tryz.func102 (nX hy13) z z ?_)
  intro W hS
  refine .c (.liv [y13] aG T.u35 T.t51 hS z z z z ?_ z (fun _=>z))
  intro v14 W hS
  have ⟨y14,hy14,h⟩:=bnd h
  refine .c (.cS (L0:=[ae (sv v14) 51 5 aG [y13]]) hS Tryz.func100 (fun S h1 h2 h3=>(fV hy14 h2 (zz h1))) z z ?_)
  rintro v15 W hS
  refine .qn z (.seq (.rk 10 hS [1] T.mix ?_))
  intro W hS
  have hT:=hS.to [1]
  refine .tp' 0 z z hT (.tp' 1 z z hT (.ts' 5 z (fun W hT=>fa T.f107_1 z z z) hT z (.ts' 6 z (fun W hT=>ld T.t3 hT z z z z z) hT z (.tp' 7 z z hT ?_))))
  have ⟨y15,hy15,h⟩:=bnd h
  refine .by1 2 z (.cO hS Tryz.func97 (lz hy15) z z ?_)
  intro W hS
  have hT:=hS.to [1]
  refine ⟨fun _=>hT,.by1 3 z (.liv [y15] aG T.u35 T.t51 hS z z z z ?_ z (fun _=>z))⟩
  intro v16 W hS
  have hT:=hS.to [2]
  refine ⟨fun _=>hT,?_⟩
  have ⟨r3,hr3,h⟩:=bnd h
  have hT0:=hS.p1
  refine .by1 4 z (.av hr3 hT0 hT0.p1.lv (fun _=>z) T.u35 T.t51 z z z ?_)
  intro v17 W hS
  have hT:=hS.to [2]
  refine ⟨fun _=>hT,?_⟩
  have ⟨y16,hy16,h⟩:=bnd h
  refine .by1 8 z (.cS (L0:=[ae (sv v17) 51 5 aG r3]) hS Tryz.func94 (fun S h1 h2 h3=>(io hy16 h2 (zz h1))) z z ?_)
  rintro v18 W hS
  have hT:=hS.to [2]
  refine ⟨fun _=>hT,?_⟩
  obtain rfl:=o9 h
  exact .tp' 9 z z hT (.done (.ret (ac (vs:=[_]) v18 (rt z rn) z (hS.to [0]))))
 have h:=aJ hb h
 refine .g (.q z (.qn z (.cond z (fun hb=>?_) (fun hb=>?_))))
 ·have h:=aI hb h
  refine .g (.c (.liv [] aG T.u35 T.t51 hS z z z z ?_ z (fun _=>z)))
  intro v19 W hS
  have ⟨y17,hy17,h⟩:=bnd h
  refine .c (.cS (L0:=[ae (sv v19) 51 5 aG []]) hS Tryz.func100 (fun S h1 h2 h3=>(fV hy17 h2 (zz h1))) z z ?_)
  rintro v20 W hS
  obtain rfl:=o9 h
  exact .qn z (.ret (ac (vs:=[_]) v20 (rt z rn) z (hS.to [0])))
 have h:=aJ hb h
 refine .g (.q z (.qn z (.cond z (fun hb=>?_) (fun hb=>?_))))
 ·have h:=aI hb h
  refine .g (.s (fa T.f107_2 z z z) z (.s (ld T.t3 hS z z z z z) z (.q z ?_)))
  have ⟨y18,hy18,h⟩:=bnd h
  refine .c (.cV hS Tryz.func101 (nB hy18) z z ?_)
  intro v21 W hS
  have ⟨y19,hy19,h⟩:=bnd h
  refine .c (.cS (L0:=[ae (sv v21) 51 5 aG y18]) hS Tryz.func100 (fun S h1 h2 h3=>(fV hy19 h2 (zz h1))) z z ?_)
  rintro v22 W hS
  obtain rfl:=o9 h
  exact .qn z (.ret (ac (vs:=[_]) v22 (rt z rn) z (hS.to [0])))
 have h:=aJ hb h
 refine .skip (.g (.c (.liv [] aG T.u35 T.t51 hS z z z z ?_ z (fun _=>z))))
 intro v23 W hS
 have ⟨y20,hy20,h⟩:=bnd h
 refine .c (.cS (L0:=[ae (sv v23) 51 5 aG []]) hS Tryz.func100 (fun S h1 h2 h3=>(fV hy20 h2 (zz h1))) z z ?_)
 rintro v24 W hS
 obtain rfl:=o9 h
 exact .qn z (.ret (ac (vs:=[_]) v24 (rt z rn) z (hS.to [0])))
theorem pR {a0 : List aj} {a1 : Int} {v_0 : Hd} {w : World} {r : (List Int)} (h : gI a0 a1 = some r) (q_0 : RO w v_0 107 5 aO a0) : Cl 70 #[(sv v_0),vi a1] w (Ret No w (fun s : Hd=>(sv s)) (fun s=>[ae (sv s) 3 1 (D.int .i64) r])):=by
 unfold gI at h
 refine au Tryz.func70 z z ?_
 have hS:=Sep.start w
 refine .g (.qn z (.g (.c (.liv [] (D.int .i64) T.u23 T.t3 hS z z z z ?_ z (fun _=>z)))))
 intro v1 W hS
 refine .qn z (.g (.qn z (.seq (.g (.qn z (.block ?_))))))
 have ⟨y1,hy1,h⟩:=bnd h
 refine .via (.iter (fun s1 E' W'=>∃ (v4 : Hd),aD E' [(0,(sv v_0)),(1,vi a1),(5,(sv v4)),(6,vi s1.2.1),(7,vi s1.2.2)] ∧ Sep No w W' [ae (sv v4) 3 1 (D.int .i64) s1.1]) (fun y2 x E' W'=>x = .exit 0 ∧ ∃ (v5 : Hd),aD E' [(5,(sv v5))] ∧ Sep No w W' [ae (sv v5) 3 1 (D.int .i64) y2]) hy1 ⟨v1,sb z,hS.to [0]⟩ ?_) ?_
 ·intro s1 y3 E W h hI
  obtain ⟨v3,hE,hS⟩:=hI
  refine CW.sub hE ?_
  unfold jU at h
  refine .seq (.g (.q z (.q z (.s (bw (hS.keep q_0) T.u78 z z) z (.q z (.nil ?_))))))
  refine .cs z h ?_ ?_ <;> intro h
  ·refine .skip (.seq (.block (.g (.q z (.q z (.c (.liv [s1.2.1] (D.int .i64) T.u23 T.t3 hS z z z z ?_ z (fun _=>z))))))))
   intro v6 W hS
   have ⟨r1,hr1,h⟩:=bnd h
   have hT0:=hS.p1
   refine .c (.av hr1 hT0 hT0.p1.lv (fun _=>z) T.u23 T.t3 z z z ?_)
   intro v7 W hS
   refine .qn z (.region (.q z (.q z (.q z ?_))))
   have ⟨x1,hx1,h⟩:=bnd h
   refine .s (ixv (hS.keep q_0) hx1 T.u78 T.t107 z z z) z (.s (lde (RV.flat (hS.keep q_0) hx1 z) T.t107 z z z z z) z (.q z ?_))
   have ⟨y4,hy4,h⟩:=bnd h
   refine .c (.cV hS Tryz.func71 (nC hy4) z z ?_)
   intro v8 W hS
   refine .s (bw hS.lv T.u35 z z) z (.q z (.qn z (.region (.q z (.q z (.q z (.nil ?_)))))))
   cases h
   exact ⟨z,v7,sb z,hS.to [1]⟩
  refine .exit ?_
  cases h
  exact ⟨by simp,z,v3,sb z,hS.to [0]⟩
 intro x E W hJ
 obtain ⟨rfl,v9,hE,hS⟩:=hJ
 refine ⟨_,hE.sub,?_⟩
 obtain rfl:=o9 h
 exact .g (.q z (.qn z (.ret (ac (vs:=[_]) v9 (rt z rn) z (hS.to [0])))))
theorem rV {a0 : List aj} {a1 : Int} {v_0 : Hd} {w : World} {r : (List Instr)} (h : jV a0 a1 = some r) (q_0 : RO w v_0 107 5 aO a0) : Cl 41 #[(sv v_0),vi a1] w (Ret No w (fun s : Hd=>(sv s)) (fun s=>[ae (sv s) 51 5 aG r])):=by
 unfold jV at h
 refine au Tryz.func41 z z ?_
 have hS:=Sep.start w
 refine .g (.qn z (.g (.q z (.q z ?_))))
 have ⟨y1,hy1,h⟩:=bnd h
 refine .c (.cV hS Tryz.func70 (pR hy1 (hS.keep q_0)) z z ?_)
 intro v1 W hS
 refine .qn z (.g (.c (.liv [] aG T.u35 T.t51 hS z z z z ?_ z (fun _=>z))))
 intro v2 W hS
 refine .qn z (.seq (.g (.qn z (.block ?_))))
 have ⟨y2,hy2,h⟩:=bnd h
 refine .via (.iter (fun s1 E' W'=>∃ (v5 : Hd),aD E' [(0,(sv v_0)),(1,vi a1),(5,(sv v1)),(6,(sv v5)),(7,vi s1.2)] ∧ Sep No w W' [ae (sv v1) 3 1 (D.int .i64) y1,ae (sv v5) 51 5 aG s1.1]) (fun y3 x E' W'=>x = .exit 0 ∧ ∃ (v6 : Hd),aD E' [(6,(sv v6))] ∧ Sep No w W' [ae (sv v1) 3 1 (D.int .i64) y1,ae (sv v6) 51 5 aG y3]) hy2 ⟨v2,sb z,hS.to [1,0]⟩ ?_) ?_
 ·intro s1 y4 E W h hI
  obtain ⟨v4,hE,hS⟩:=hI
  refine CW.sub hE ?_
  unfold lu at h
  refine .seq (.g (.q z (.q z (.s (bw (hS.keep q_0) T.u78 z z) z (.q z (.nil ?_))))))
  refine .cs z h ?_ ?_ <;> intro h
  ·refine .skip (.seq (.block (.g (.q z (.nil ?_)))))
   have ⟨y5,hy5,h⟩:=bnd h
   refine .seq (CW.via (R':=fun x E' W'=>x = .normal ∧ aD E' [(0,(sv v_0)),(1,vi a1),(5,(sv v1)),(6,(sv v4)),(7,vi s1.2),(8,vi y5)] ∧ Sep No w W' [ae (sv v1) 3 1 (D.int .i64) y1,ae (sv v4) 51 5 aG s1.1]) ?_ ?_)
   ·have h:=hy5
    refine .g (.q z (.q z ?_))
    have ⟨x1,hx1,h⟩:=bnd h
    refine .s (ixv (hS.keep q_0) hx1 T.u78 T.t107 z z z) z (.s (fe T.f107_0 z z z) z (.s (lde (RV.flat (hS.keep q_0) hx1 z) T.t3 z z z z z) z (.q z (.q z ?_))))
    have ⟨b1,hb1,h⟩:=bnd h
    refine .cu 7 32 (b1) hS ?_ ?_
    ·refine .both (x1.Op == 4) (fun hb=>?_) (fun hb=>?_)
     ·refine .xx hb z (.xx hb z (.xx hb z (.xx hb z (.xx hb z (.xx hb z ?_)))))
      cases aI hb hb1
      exact .s (pkt hb z z z) z (.nil (ck 7 hS))
     have hg1:=hb
     have h:=aJ hb hb1
     refine .g hg1 (.q z (.g hg1 (.q z ?_)))
     have ⟨x2,hx2,h⟩:=bnd h
     refine .g hg1 (.s (ixv (hS.keep q_0) hx2 T.u78 T.t107 z z z) z (.g hg1 (.s (fe T.f107_0 z z z) z (.g hg1 (.s (lde (RV.flat (hS.keep q_0) hx2 z) T.t3 z z z z z) z (.g hg1 (.q z (.s (pkf hg1 z z z) z ?_))))))))
     cases h
     exact .nil (ck 7 hS)
    intro W hS
    refine .nil ?_
    refine .cs z h ?_ ?_ <;> intro h
    ·refine .rk 15 hS [0,0] T.mix ?_
     intro W hS
     have hT:=hS.to [0,0]
     refine .tp' 0 z z hT (.tp' 1 z z hT (.tp' 2 z z hT ?_))
     have ⟨x3,hx3,h⟩:=bnd h
     refine .ts' 3 z (fun W hT=>ixv (hS.keep q_0) hx3 T.u78 T.t107 z z z) hT z (.ts' 4 z (fun W hT=>fe T.f107_4 z z z) hT z (.ts' 5 z (fun W hT=>lde (RV.flat (hT.keep q_0) hx3 z) T.t3 z z z z z) hT z ?_))
     have ⟨x4,hx4,h⟩:=bnd h
     refine .ts' 6 z (fun W hT=>ixv hS.lv hx4 T.u23 T.t3 z z z) hT z (.ts' 7 z (fun W hT=>lde (RV.flat hT.lv hx4 z) T.t3 z z z z z) hT z (.tp' 8 z z hT (.tp' 9 z z hT ?_)))
     have ⟨x5,hx5,h⟩:=bnd h
     refine .ts' 10 z (fun W hT=>ixv hS.lv hx5 T.u23 T.t3 z z z) hT z (.ts' 11 z (fun W hT=>lde (RV.flat hT.lv hx5 z) T.t3 z z z z z) hT z (.tp' 12 z z hT (.tp' 13 z z hT (.tp' 14 z z hT (.done ?_)))))
     cases h
     exact ⟨z,sb z,hS.to [0,0]⟩
    refine .skip ?_
    cases h
    exact ⟨z,sb z,hS.to [0,0]⟩
   intro x E W hJ
   obtain ⟨rfl,hE,hS⟩:=hJ
   refine ⟨_,hE.sub,?_⟩
   refine .region (.q z (.q z (.q z ?_)))
   have ⟨x6,hx6,h⟩:=bnd h
   refine .s (ixv (hS.keep q_0) hx6 T.u78 T.t107 z z z) z (.s (lde (RV.flat (hS.keep q_0) hx6 z) T.t107 z z z z z) z (.q z (.q z ?_)))
   have ⟨y6,hy6,h⟩:=bnd h
   refine .c (.cV hS Tryz.func71 (nC hy6) z z ?_)
   intro v7 W hS
   have ⟨r1,hr1,h⟩:=bnd h
   have hT0:=hS.p2
   refine .c (.av hr1 hT0 hT0.p1.lv (fun _=>z) T.u35 T.t51 z z z ?_)
   intro v8 W hS
   refine .qn z (.region (.q z (.q z (.q z (.nil ?_)))))
   cases h
   exact ⟨z,v8,sb z,hS.to [2,0]⟩
  refine .exit ?_
  cases h
  exact ⟨by simp,z,v4,sb z,hS.to [0,0]⟩
 intro x E W hJ
 obtain ⟨rfl,v9,hE,hS⟩:=hJ
 refine ⟨_,hE.sub,?_⟩
 obtain rfl:=o9 h
 exact .g (.q z (.qn z (.ret (ac (vs:=[_]) v9 (rt z rn) z (hS.to [1])))))
theorem qW {k : Nat} {a0 : aL} {ar : Hd} {g_0 : Nat} {S : Nat → Prop} {w : World} {r : (List (List Instr)) × Int} (h : i3 k a0 = some r) (aH : RV w (Old S w) (sv ar) 5 1 (D.int .u8) a0.b) (hO : bJ w [.box g_0 74 [(sv ar),vi a0.p]] S) (hlt : ∀ b,S b → b < w.heap.size) : Cl 17 #[pt g_0] w (Ret S w (fun s : Hd=>(sv s)) (fun s=>[.box g_0 74 [(sv ar),vi r.2],ae (sv s) 35 1 (fun (l : List Instr)=>D.row 51 5 (l.map aG)) r.1])):=by
 unfold i3 at h
 refine au Tryz.func17 z z ?_
 have hS:=Sep.sm hO hlt
 refine .g (.qn z (.g (.q z ?_)))
 have ⟨y1,hy1,h⟩:=bnd h
 refine .c (.cS (L0:=[.box g_0 74 [(sv ar),vi a0.p]]) hS Tryz.func40 (fun S h1 h2 h3=>(qU hy1 (hS.ks aH h1) h2 (zz h1))) z z ?_)
 rintro v1 W hS
 refine .qn z (.g (.q z ?_))
 have ⟨y2,hy2,h⟩:=bnd h
 refine .c (.cS (L0:=[.box g_0 74 [(sv ar),vi y1.2]]) hS Tryz.func18 (fun S h1 h2 h3=>(ak hy2 (hS.ks aH h1) h2 (zz h1))) z z ?_)
 rintro ⟨⟩ W hS
 refine .q z (.qn z (.g (.c (.lg (L1:=[]) [] (fun (l : List Instr)=>D.row 51 5 (l.map aG)) T.u24 T.t35 (hS.to [0,0]) z z z (.nil) ?_ z (fun _=>z)))))
 intro v2 W hS
 refine .qn z (.seq (.g (.qn z (.block ?_))))
 have ⟨y3,hy3,h⟩:=bnd h
 refine .via (.iter (fun s1 E' W'=>∃ (v5 : Hd),aD E' [(3,(sv v1)),(4,vi (w64 (1 + y2.1))),(5,(sv v5)),(6,vi s1.2)] ∧ Sep S w W' [.box g_0 74 [(sv ar),vi y2.2],ae (sv v1) 78 1 (fun (l : List aj)=>D.row 107 5 (l.map aO)) y1.1,ae (sv v5) 35 1 (fun (l : List Instr)=>D.row 51 5 (l.map aG)) s1.1]) (fun y4 x E' W'=>x = .exit 0 ∧ ∃ (v6 : Hd),aD E' [(5,(sv v6))] ∧ Sep S w W' [.box g_0 74 [(sv ar),vi y2.2],ae (sv v1) 78 1 (fun (l : List aj)=>D.row 107 5 (l.map aO)) y1.1,ae (sv v6) 35 1 (fun (l : List Instr)=>D.row 51 5 (l.map aG)) y4]) hy3 ⟨v2,sb z,hS.to [1,1,0]⟩ ?_) ?_
 ·intro s1 y5 E W h hI
  obtain ⟨v4,hE,hS⟩:=hI
  refine CW.sub hE ?_
  unfold kH at h
  refine .seq (.g (.q z (.q z (.s (bw hS.p1.lv T.u75 z z) z (.q z (.nil ?_))))))
  refine .cs z h ?_ ?_ <;> intro h
  ·refine .skip (.seq (.block (.region (.q z (.q z (.q z ?_))))))
   have ⟨x1,hx1,h⟩:=bnd h
   refine .s (ixv hS.p1.lv hx1 T.u75 T.t78 z z z) z ?_
   obtain ⟨k1,hS⟩:=Sep.ov hS.p1 hx1
   obtain ⟨v7,k1,rfl,hS⟩:=hS.ow
   obtain ⟨rfl,hS⟩:=hS.oN
   refine .s (lde (hS.p1.hcellsv) T.t78 z z z z z) z (.q z ?_)
   have ⟨y6,hy6,h⟩:=bnd h
   refine .c (.cV hS Tryz.func41 (rV hy6 hS.lv) z z ?_)
   intro v8 W hS
   refine .c (.lg (L1:=[ae (sv v8) 51 5 aG y6]) [y6] (fun (l : List Instr)=>D.row 51 5 (l.map aG)) T.u24 T.t35 (hS.to [0,0,0,0,0]) z z z (.row (.nil)) ?_ z (fun _=>z))
   intro v9 W hS
   have ⟨r1,hr1,h⟩:=bnd h
   refine .c (.appv hr1 (hS.to [4,0,0,0,0]) T.u24 T.t35 z z z ?_)
   intro v10 W hS
   refine .qn z (.region (.q z (.q z (.q z (.nil ?_)))))
   have hS:=Sep.gat (ds:=[.row 107 5 (x1.map aO)]) (cs:=[(sv v7)]) (L1:=[ae (sv v7) 107 5 aO x1]) (.row (.nil)) (hS.to [1,1,0,0])
   have hS : Sep _ _ _ [ae (sv v1) 78 1 (fun (l : List aj)=>D.row 107 5 (l.map aO)) y1.1,ae (sv v10) 35 1 (fun (l : List Instr)=>D.row 51 5 (l.map aG)) r1,.box g_0 74 [(sv ar),vi y2.2]]:=Sep.back0v hx1 hS
   cases h
   exact ⟨z,v10,sb z,hS.to [2,0,0]⟩
  refine .exit ?_
  cases h
  exact ⟨by simp,z,v4,sb z,hS.to [0,0,0]⟩
 intro x E W hJ
 obtain ⟨rfl,v11,hE,hS⟩:=hJ
 refine ⟨_,hE.sub,?_⟩
 cases h
 exact .g (.q z (.qn z (.ret (ac (vs:=[_]) v11 (rt z rn) z (hS.to [0,1])))))
theorem nY {k : Nat} {a0 : List Int} {v_0 : Hd} {w : World} {r : (List Int) × (List (List Instr))} (h : eK k a0 = some r) (q_0 : RO w v_0 5 1 (D.int .u8) a0) : Cl 6 #[(sv v_0)] w (Ret No w (fun s : Hd × Hd=>.tuple #[(sv s.1),(sv s.2)]) (fun s=>[ae (sv s.1) 3 1 (D.int .i64) r.1,iy [((sv s.2),35,1,List.map (fun (l : List Instr)=>D.row 51 5 (l.map aG)) r.2)] []])):=by
 unfold eK at h
 refine au Tryz.func6 z z ?_
 have hS:=Sep.start w
 have Q_0:=q_0
 refine .g (.q z (.qn z (.g (.q z ?_))))
 have ⟨y1,hy1,h⟩:=bnd h
 have hQ1:=hS
 refine .c (.call hS Tryz.func16 (tm hy1 (hS.keep q_0)) z z ?_)
 rintro ⟨g1,⟨v1,q1⟩⟩ W hS
 refine .qn z (.g (.q z ?_))
 have ⟨y2,hy2,h⟩:=bnd h
 refine .c (.cS (L0:=[.box g1 74 [(sv v1),vi y1.p]]) hS Tryz.func17 (fun S h1 h2 h3=>(qW hy2 (hS.ks (hQ1.wasA (q1 _ (hQ1.keepA q_0 Q_0))) h1) h2 (zz h1))) z z ?_)
 rintro v2 W hS
 refine .qn z (.g (.q z ?_))
 have ⟨y3,hy3,h⟩:=bnd h
 refine .c (.cS (L0:=[.box g1 74 [(sv v1),vi y2.2]]) hS Tryz.func18 (fun S h1 h2 h3=>(ak hy3 (hS.ks (hQ1.wasA (q1 _ (hQ1.keepA q_0 Q_0))) h1) h2 (zz h1))) z z ?_)
 rintro ⟨⟩ W hS
 refine .q z (.q z ?_)
 have ⟨y4,hy4,h⟩:=bnd h
 refine .c (.cS (L0:=[.box g1 74 [(sv v1),vi y3.2]]) hS Tryz.func18 (fun S h1 h2 h3=>(ak hy4 (hS.ks (hQ1.wasA (q1 _ (hQ1.keepA q_0 Q_0))) h1) h2 (zz h1))) z z ?_)
 rintro ⟨⟩ W hS
 refine .q z (.c (.liv [w64 (1 + y3.1),w64 (1 + y4.1)] (D.int .i64) T.u23 T.t3 hS z z z z ?_ z (fun _=>z)))
 intro v3 W hS
 refine .q z (.nil ?_)
 have ⟨y5,hy5,h⟩:=bnd h
 refine .seq (CW.via (R':=fun x E' W'=>x = .normal ∧ ∃ (v4 : Hd),aD E' [(5,(sv v4)),(6,(sv v3))] ∧ Sep No w W' [ae (sv v3) 3 1 (D.int .i64) y5.2.2,.box g1 74 [(sv v1),vi y5.2.1],iy [((sv v4),35,1,List.map (fun (l : List Instr)=>D.row 51 5 (l.map aG)) y5.1)] []]) ?_ ?_)
 ·have h:=hy5
  refine .g (.q z ?_)
  have ⟨y6,hy6,h⟩:=bnd h
  have hS:=hS.p1
  refine .c (.cS (L0:=[.box g1 74 [(sv v1),vi y4.2]]) hS Tryz.func18 (fun S h1 h2 h3=>(ak hy6 (hS.ks (hQ1.wasA (q1 _ (hQ1.keepA q_0 Q_0))) h1) h2 (zz h1))) z z ?_)
  rintro ⟨⟩ W hS
  refine .nil (.block (.g (.q z (.q z (.nil ?_)))))
  refine .cs z h ?_ ?_ <;> intro h
  ·refine .region (.q z ?_)
   have ⟨x1,hx1,h⟩:=bnd h
   refine .s (ixv hS.p1.lv hx1 T.u23 T.t3 z z z) z ?_
   have ⟨r1,hr1,h⟩:=bnd h
   refine .c (.sev hr1 hx1 hS.p1 T.t3 z z z z z z ?_)
   intro W hS
   refine .nil ?_
   have hS : Sep _ _ _ [iy [((sv v2),35,1,List.map (fun (l : List Instr)=>D.row 51 5 (l.map aG)) y2.1)] [],ae (sv v3) 3 1 (D.int .i64) r1,.box g1 74 [(sv v1),vi y6.2]]:=Sep.frz hS.p2
   cases h
   exact ⟨z,v2,sb z,hS.to [1,1,0]⟩
  refine .g (.q z (.q z (.nil ?_)))
  refine .cs z h ?_ ?_ <;> intro h
  ·have ⟨x2,hx2,h⟩:=bnd h
   obtain ⟨k1,hS⟩:=Sep.ov hS.p2 hx2
   obtain ⟨v5,k1,rfl,hS⟩:=hS.ow
   obtain ⟨rfl,hS⟩:=hS.oN
   have ⟨r2,hr2,h⟩:=bnd h
   have hS : Sep _ _ _ [zO (sv v2) 35 1 (List.map (fun (l : List Instr)=>D.row 51 5 (l.map aG)) y2.1) (Int.toNat 0) [(sv v5)] (.row 51 5 (x2.map aG)),.box g1 74 [(sv v1),vi y6.2],ae (sv v3) 3 1 (D.int .i64) [w64 (1 + y3.1),w64 (1 + y4.1)]]:=(Sep.gat (ds:=[.row 51 5 (x2.map aG)]) (cs:=[(sv v5)]) (L1:=[ae (sv v5) 51 5 aG x2]) (.row (.nil)) (hS.to [0,0,0,0])).mul
   refine .rm 11 (fun W=>Sep No w W [iy [((sv v2),35,1,List.map (fun (l : List Instr)=>D.row 51 5 (l.map aG)) y2.1),((sv v5),51,5,List.map aG x2)] [((sv v2),Int.toNat 0 * 1,(sv v5))]]) hS T.mix ?_
   intro W hS
   have hT : Sep _ _ W [iy [((sv v2),35,1,List.map (fun (l : List Instr)=>D.row 51 5 (l.map aG)) y2.1),((sv v5),51,5,List.map aG x2)] [((sv v2),Int.toNat 0 * 1,(sv v5))]]:=Sep.mulz hx2 z (hS.to [0])
   refine .tp 0 z (fun W=>pr z) hT (.tp 1 z (fun W=>pr z) hT (.tp 4 z (fun W=>pr z) hT (.tp 7 z (fun W=>pr z) hT (.tp 2 z (fun W=>ixv (hT.lendz 0 z) hx2 T.u24 T.t35 z z z) hT (.tp 5 z (fun W=>ixv (hT.lendz 0 z) hx2 T.u24 T.t35 z z z) hT (.tp 8 z (fun W=>ixv (hT.lendz 0 z) hx2 T.u24 T.t35 z z z) hT (.t1 3 10 z (fun W hT=>lde (hT.cellz 0 z) T.t35 z z z z z) hT (.t1 6 10 z (fun W hT=>lde (hT.cellz 0 z) T.t35 z z z z z) hT (.t1 9 10 z (fun W hT=>lde (hT.cellz 0 z) T.t35 z z z z z) hT (.by1 10 z (.lir (k:=3) hS T.u24 T.t35 z z z z ?_)) (by kernel_rfl) z z) (by kernel_rfl) z z) (by kernel_rfl) z z) (by kernel_rfl) z z) (by kernel_rfl) z z) (by kernel_rfl) z z) (by kernel_rfl) z z) (by kernel_rfl) z z) (by kernel_rfl) z z) (by kernel_rfl) z z
   intro v6 W hS
   refine ⟨fun _=>Sep.mulz hx2 z (hS.to [1]),?_⟩
   refine .byd 11 z (.apm hr2 hx2 hS T.u24 T.t35 z z z ?_)
   intro v7 W hS
   refine .byd 12 z (.runs (pr z) z z (.done ?_))
   cases h
   exact ⟨z,v7,sb z,hS.to [2,1,0]⟩
  refine .g (.q z (.q z (.nil ?_)))
  refine .cs z h ?_ ?_ <;> intro h
  ·refine .region (.q z (.q z ?_))
   have ⟨x3,hx3,h⟩:=bnd h
   refine .s (ixv hS.p2.lv hx3 T.u24 T.t35 z z z) z ?_
   obtain ⟨k2,hS⟩:=Sep.ov hS.p2 hx3
   obtain ⟨v8,k2,rfl,hS⟩:=hS.ow
   obtain ⟨rfl,hS⟩:=hS.oN
   refine .s (lde (hS.p1.hcellsv) T.t35 z z z z z) z (.s (bs T.s51 z z) z (.c (.liv [(Instr.mk 0 0 0 0 0)] aG T.u35 T.t51 hS z z z z ?_ z (fun _=>z))))
   intro v9 W hS
   have ⟨r3,hr3,h⟩:=bnd h
   have hT0:=hS.p1
   refine .c (.av hr3 hT0 hT0.p1.lv (fun _=>z) T.u35 T.t51 z z z ?_)
   intro v10 W hS
   refine .s (ixh hS.p2 hx3 T.u24 T.t35 z z z) z (.c (.sthv hS.p2 T.t35 z z z ?_))
   intro W hS
   refine .nil ?_
   have hS:=Sep.gat (ds:=[.row 51 5 (r3.map aG)]) (cs:=[(sv v10)]) (L1:=[ae (sv v10) 51 5 aG r3]) (.row (.nil)) (hS.to [1,0,0,0,0])
   have hS : Sep _ _ _ [ae (sv v2) 35 1 (fun (l : List Instr)=>D.row 51 5 (l.map aG)) (y2.1.set (Int.toNat 0) r3),ae (sv v9) 51 5 aG [(Instr.mk 0 0 0 0 0)],.box g1 74 [(sv v1),vi y6.2],ae (sv v3) 3 1 (D.int .i64) [w64 (1 + y3.1),w64 (1 + y4.1)]]:=hS.bv
   have hS : Sep _ _ _ [iy [((sv v2),35,1,List.map (fun (l : List Instr)=>D.row 51 5 (l.map aG)) (y2.1.set (Int.toNat 0) r3))] [],ae (sv v9) 51 5 aG [(Instr.mk 0 0 0 0 0)],.box g1 74 [(sv v1),vi y6.2],ae (sv v3) 3 1 (D.int .i64) [w64 (1 + y3.1),w64 (1 + y4.1)]]:=Sep.frz hS
   cases h
   exact ⟨z,v2,sb z,hS.to [3,2,0]⟩
  refine .skip ?_
  have hS : Sep _ _ _ [iy [((sv v2),35,1,List.map (fun (l : List Instr)=>D.row 51 5 (l.map aG)) y2.1)] [],.box g1 74 [(sv v1),vi y6.2],ae (sv v3) 3 1 (D.int .i64) [w64 (1 + y3.1),w64 (1 + y4.1)]]:=Sep.frz hS.p2
  cases h
  exact ⟨z,v2,sb z,hS.to [2,1,0]⟩
 intro x E W hJ
 obtain ⟨rfl,v11,hE,hS⟩:=hJ
 refine ⟨_,hE.sub,?_⟩
 cases h
 exact .g (.q z (.q z (.q z (.qn z (.ret (ac (vs:=[_,_]) (v3,v11) (rt z (rt z rn)) z (hS.to [0,1])))))))
def pS (w : World) (r : Bool) : Env → World → Prop:=Fin Tryz.prog Tryz.f19 No w (fun s : Unit=>.bool r) (fun s=>[]) .ret
theorem pg {a0 : List Int} {v_0 : Hd} {w : World} {r : Bool} (h : fR a0 = some r) (q_0 : RO w v_0 3 1 (D.int .i64) a0) : Cl 19 #[(sv v_0)] w (RU w (.bool r)):=by
 unfold fR at h
 refine au Tryz.func19 z z ?_
 have hS:=Sep.start w
 refine .g (.qn z (.seq (.g (.q z (.s (bw (hS.keep q_0) T.u23 z z) z (.qn z (.block ?_)))))))
 have ⟨y1,hy1,h⟩:=bnd h
 refine .via (.iter (fun s1 E' W'=>aD E' [(0,(sv v_0)),(5,(sv v_0)),(6,vi (a0.length : Int)),(7,vi s1)] ∧ Sep No w W' []) (fun y2 x E' W'=>(match y2 with | .inl o1=>x = .ret ∧ pS w o1 E' W' | .inr o2=>x = .exit 0 ∧ aD E' [(0,(sv v_0))] ∧ Sep No w W' [])) hy1 ⟨sb rfl,hS.to [] rfl⟩ ?_) ?_
 ·intro s1 y3 E W h hI
  obtain ⟨hE,hS⟩:=hI
  refine CW.sub hE ?_
  unfold dk at h
  refine .g (.qn z (.seq ?_))
  refine .cs z h ?_ ?_ <;> intro h
  ·refine .skip (.seq (.block (.seq (.region ?_))))
   have ⟨x1,hx1,h⟩:=bnd h
   refine .s (ixv (hS.keep q_0) hx1 T.u23 T.t3 z z z) z (.s (lde (RV.flat (hS.keep q_0) hx1 z) T.t3 z z z z z) z (.qn z (.g (.q z (.q z (.q z (.cu 3 16 ((decide (x1 < 1)) || (decide (x1 > 4))) hS ?_ ?_)))))))
   ·refine .both (decide (x1 < 1)) (fun hb=>?_) (fun hb=>?_)
    ·exact .xx hb z (.xx hb z (.s (pkt hb z z z) z (.nil (ck 3 hS z (gn hb)))))
    have hg1:=hb
    exact .g hg1 (.q z (.g hg1 (.q z (.s (pkf hg1 z z z) z (.nil (ck 3 hS z (go hg1)))))))
   intro W hS
   refine .nil ?_
   refine .cs z h ?_ ?_ <;> intro h
   ·refine .g (.qn z (.ret ?_))
    cases h
    exact ⟨by simp,z,ac (vs:=[_]) () (rt z rn) z (hS.to [])⟩
   refine .skip (.region (.q z (.q z (.nil ?_))))
   cases h
   exact ⟨z,sb z,hS.to []⟩
  refine .exit ?_
  cases h
  exact ⟨by simp,z,sb z,hS.to []⟩
 intro x E W hJ
 rcases y1 with o3 | o4
 ·obtain ⟨rfl,hF⟩:=hJ
  refine ⟨_,fun _ _ h=>h,?_⟩
  cases h
  exact hF
 obtain ⟨rfl,hE,hS⟩:=hJ
 refine ⟨_,hE.sub,?_⟩
 cases h
 exact .g (.q z (.s (bw (hS.keep q_0) T.u23 z z) z (.q z (.qn z (.ret (ac (vs:=[_]) () (rt z rn) z (hS.to [])))))))
theorem qX {a0 : List Int} {v_0 : Hd} {w : World} {r : (List Box)} (h : i4 a0 = some r) (q_0 : RO w v_0 3 1 (D.int .i64) a0) : Cl 20 #[(sv v_0)] w (Ret No w (fun s : Hd=>(sv s)) (fun s=>[ae (sv s) 44 2 bi r])):=by
 unfold i4 at h
 refine au Tryz.func20 z z ?_
 have hS:=Sep.start w
 refine .g (.qn z (.g (.qn z (.seq (.g (.q z (.s (bw (hS.keep q_0) T.u23 z z) z (.qn z (.block ?_)))))))))
 have hS:=hS.nilv 44 2 bi
 have ⟨y1,hy1,h⟩:=bnd h
 refine .via (.iter (fun s1 E' W'=>∃ (v3 : Hd),aD E' [(3,(sv v3)),(6,(sv v_0)),(7,vi (a0.length : Int)),(8,vi s1.2)] ∧ Sep No w W' [ae (sv v3) 44 2 bi s1.1]) (fun y2 x E' W'=>x = .exit 0 ∧ ∃ (v4 : Hd),aD E' [(3,(sv v4))] ∧ Sep No w W' [ae (sv v4) 44 2 bi y2]) hy1 ⟨aN,sb z,hS.to [0]⟩ ?_) ?_
 ·intro s1 y3 E W h hI
  obtain ⟨v2,hE,hS⟩:=hI
  refine CW.sub hE ?_
  unfold hZ at h
  refine .g (.qn z (.seq ?_))
  refine .cs z h ?_ ?_ <;> intro h
  ·refine .skip (.seq (.block (.seq (.region ?_))))
   have ⟨x1,hx1,h⟩:=bnd h
   refine .s (ixv (hS.keep q_0) hx1 T.u23 T.t3 z z z) z (.s (lde (RV.flat (hS.keep q_0) hx1 z) T.t3 z z z z z) z (.qn z (.region (.q z (.q z (.s (bs T.s44 z z) z ?_))))))
   have hS:=hS.nilv 3 1 (D.int .i64)
   refine .c (.lg (L1:=[ae (sv aN) 3 1 (D.int .i64) []]) [(Box.mk x1 [])] bi T.u28 T.t44 (hS.to [0,0]) z z z (.agg (.flat (c1:=[vi x1]) z (.row .nil))) ?_ z (fun _=>z))
   intro v5 W hS
   have ⟨r1,hr1,h⟩:=bnd h
   refine .c (.appv hr1 (hS.to [1,0]) T.u28 T.t44 z z z ?_)
   intro v6 W hS
   refine .qn z (.region (.q z (.q z (.nil ?_))))
   cases h
   exact ⟨z,v6,sb z,hS.to [0]⟩
  refine .exit ?_
  cases h
  exact ⟨by simp,z,v2,sb z,hS.to [0]⟩
 intro x E W hJ
 obtain ⟨rfl,v7,hE,hS⟩:=hJ
 refine ⟨_,hE.sub,?_⟩
 obtain rfl:=o9 h
 exact .g (.q z (.qn z (.ret (ac (vs:=[_]) v7 (rt z rn) z (hS.to [0])))))
theorem cH {a0 : Int} {w : World} {r : Int} (h : bR a0 = some r) : Cl 56 #[vi a0] w (RU w (.int .i64 r)):=by
 unfold bR at h
 refine au Tryz.func56 z z ?_
 have hS:=Sep.start w
 cases h
 exact .g (.qn z (.g (.q z (.s (cv T.u3 T.u21 z z) z (.s (cv T.u21 T.u3 z z) z (.qn z (.ret (ac (vs:=[_]) () (rt z rn) z (hS.to [])))))))))
theorem kd {a0 : Int} {w : World} {r : Bool} (h : cR a0 = some r) : Cl 78 #[vi a0] w (RU w (.bool r)):=by
 unfold cR at h
 refine au Tryz.func78 z z ?_
 have hS:=Sep.start w
 refine .g (.qn z (.g (.q z (.q z (.q z (.cu 3 8 ((decide (a0 ≥ (-2147483648))) && (decide (a0 ≤ 2147483647))) hS ?_ ?_))))))
 ·refine .both (decide (a0 ≥ (-2147483648))) (fun hb=>?_) (fun hb=>?_)
  ·have hg1:=hb
   exact .g hg1 (.q z (.g hg1 (.q z (.s (pkt hg1 z z z) z (.nil (ck 3 hS z (bM hg1)))))))
  exact .xx hb z (.xx hb z (.s (pkf hb z z z) z (.nil (ck 3 hS z (bN hb)))))
 intro W hS
 cases h
 exact .qn z (.ret (ac (vs:=[_]) () (rt z rn) z (hS.to [])))
theorem ip {a0 : Int} {w : World} {r : Int} (h : bW a0 = some r) : Cl 55 #[vi a0] w (RU w (.int .i64 r)):=by
 unfold bW at h
 refine au Tryz.func55 z z ?_
 have hS:=Sep.start w
 refine .g (.qn z (.seq (.g (.q z ?_))))
 have ⟨y1,hy1,h⟩:=bnd h
 refine .c (.cO hS Tryz.func78 (kd hy1) z z ?_)
 intro W hS
 refine .q z (.nil ?_)
 refine .cs z h ?_ ?_ <;> intro h
 ·cases h
  exact .g (.qn z (.ret (ac (vs:=[_]) () (rt z rn) z (hS.to []))))
 cases h
 exact .skip (.g (.q z (.s (cv T.u3 T.u118 z z) z (.s (cv T.u118 T.u3 z z) z (.qn z (.ret (ac (vs:=[_]) () (rt z rn) z (hS.to []))))))))
theorem iq {a0 : Int} {w : World} {r : Int} (h : bC a0 = some r) : Cl 106 #[vi a0] w (RU w (.int .u8 r)):=by
 unfold bC at h
 refine au Tryz.func106 z z ?_
 have hS:=Sep.start w
 refine .g (.qn z (.seq (.block (.g (.q z (.q z (.q z (.cu 3 9 ((decide (a0 ≥ 1)) && (decide (a0 ≤ 11))) hS ?_ ?_))))))))
 ·refine .both (decide (a0 ≥ 1)) (fun hb=>?_) (fun hb=>?_)
  ·have hg1:=hb
   exact .g hg1 (.q z (.g hg1 (.q z (.s (pkt hg1 z z z) z (.nil (ck 3 hS z (bM hg1)))))))
  exact .xx hb z (.xx hb z (.s (pkf hb z z z) z (.nil (ck 3 hS z (bN hb)))))
 intro W hS
 refine .q z (.nil ?_)
 refine .cs z h ?_ ?_ <;> intro h
 ·cases h
  exact .g (.qn z (.ret (ac (vs:=[_]) () (rt z rn) z (hS.to []))))
 refine .g (.q z (.q z (.q z (.cu 3 16 ((decide (a0 ≥ 12)) && (decide (a0 ≤ 15))) hS ?_ ?_))))
 ·refine .both (decide (a0 ≥ 12)) (fun hb=>?_) (fun hb=>?_)
  ·have hg2:=hb
   exact .g hg2 (.q z (.g hg2 (.q z (.s (pkt hg2 z z z) z (.nil (ck 3 hS z (bM hg2)))))))
  exact .xx hb z (.xx hb z (.s (pkf hb z z z) z (.nil (ck 3 hS z (bN hb)))))
 intro W hS
 refine .q z (.nil ?_)
 refine .cs z h ?_ ?_ <;> intro h
 ·cases h
  exact .g (.qn z (.ret (ac (vs:=[_]) () (rt z rn) z (hS.to []))))
 refine .g (.q z (.q z (.q z (.nil ?_))))
 refine .cs z h ?_ ?_ <;> intro h
 ·cases h
  exact .g (.qn z (.ret (ac (vs:=[_]) () (rt z rn) z (hS.to []))))
 refine .g (.q z (.q z (.q z (.cu 3 26 ((a0 == 17) || (a0 == 18)) hS ?_ ?_))))
 ·refine .both (a0 == 17) (fun hb=>?_) (fun hb=>?_)
  ·exact .xx hb z (.xx hb z (.s (pkt hb z z z) z (.nil (ck 3 hS z (gn hb)))))
  have hg3:=hb
  exact .g hg3 (.q z (.g hg3 (.q z (.s (pkf hg3 z z z) z (.nil (ck 3 hS z (go hg3)))))))
 intro W hS
 refine .q z (.nil ?_)
 refine .cs z h ?_ ?_ <;> intro h
 ·cases h
  exact .g (.qn z (.ret (ac (vs:=[_]) () (rt z rn) z (hS.to []))))
 refine .g (.q z (.q z (.q z (.nil ?_))))
 refine .cs z h ?_ ?_ <;> intro h
 ·cases h
  exact .g (.qn z (.ret (ac (vs:=[_]) () (rt z rn) z (hS.to []))))
 refine .g (.q z (.q z (.q z (.nil ?_))))
 refine .cs z h ?_ ?_ <;> intro h
 ·cases h
  exact .g (.qn z (.ret (ac (vs:=[_]) () (rt z rn) z (hS.to []))))
 refine .g (.q z (.q z (.q z (.nil ?_))))
 refine .cs z h ?_ ?_ <;> intro h
 ·cases h
  exact .g (.qn z (.ret (ac (vs:=[_]) () (rt z rn) z (hS.to []))))
 cases h
 exact .skip (.g (.qn z (.ret (ac (vs:=[_]) () (rt z rn) z (hS.to [])))))
theorem gP {a0 : Int} {w : World} {r : Bool} (h : cr a0 = some r) : Cl 129 #[vi a0] w (RU w (.bool r)):=by
 unfold cr at h
 refine au Tryz.func129 z z ?_
 have hS:=Sep.start w
 refine .g (.qn z (.g (.q z (.q z (.q z (.cu 3 8 ((decide (a0 ≥ 0)) && (decide (a0 < 32))) hS ?_ ?_))))))
 ·refine .both (decide (a0 ≥ 0)) (fun hb=>?_) (fun hb=>?_)
  ·have hg1:=hb
   exact .g hg1 (.q z (.g hg1 (.q z (.s (pkt hg1 z z z) z (.nil (ck 3 hS z (bM hg1)))))))
  exact .xx hb z (.xx hb z (.s (pkf hb z z z) z (.nil (ck 3 hS z (bN hb)))))
 intro W hS
 cases h
 exact .qn z (.ret (ac (vs:=[_]) () (rt z rn) z (hS.to [])))
theorem ph {a0 : Instr} {w : World} {r : Bool} (h : bh a0 = some r) : Cl 103 #[.agg #[vi a0.Op,vi a0.Rd,vi a0.Rs,vi a0.Rt,vi a0.Imm]] w (RU w (.bool r)):=by
 unfold bh at h
 refine au Tryz.func103 z z ?_
 have hS:=Sep.start w
 refine .g (.c (.box hS z z ?_))
 intro g1 W hS
 refine .qn z (.seq (.rk 12 hS [0] T.mix ?_))
 intro W hS
 have hT:=hS.to [0]
 refine .ts' 0 z (fun W hT=>fa T.f51_1 z z z) hT z (.ts' 1 z (fun W hT=>ld T.t3 hT z z z z z) hT z (.ts' 3 z (fun W hT=>fa T.f51_2 z z z) hT z (.ts' 4 z (fun W hT=>ld T.t3 hT z z z z z) hT z (.ts' 6 z (fun W hT=>fa T.f51_3 z z z) hT z (.ts' 7 z (fun W hT=>ld T.t3 hT z z z z z) hT z ?_)))))
 have ⟨y1,hy1,h⟩:=bnd h
 refine .by1 2 z (.cO hS Tryz.func129 (gP hy1) z z ?_)
 intro W hS
 have hT:=hS.to [0]
 refine ⟨fun _=>hT,?_⟩
 have ⟨y2,hy2,h⟩:=bnd h
 refine .by1 5 z (.cO hS Tryz.func129 (gP hy2) z z ?_)
 intro W hS
 have hT:=hS.to [0]
 refine ⟨fun _=>hT,?_⟩
 have ⟨y3,hy3,h⟩:=bnd h
 refine .by1 8 z (.cO hS Tryz.func129 (gP hy3) z z ?_)
 intro W hS
 have hT:=hS.to [0]
 refine ⟨fun _=>hT,.tp' 9 z z hT (.tp' 10 z z hT (.tp' 11 z z hT (.done (.g (.s (fa T.f51_4 z z z) z (.s (ld T.t3 hS z z z z z) z (.q z (.q z (.cu 4 23 ((decide (a0.Imm ≥ (-2048))) && (decide (a0.Imm ≤ 2047))) hS ?_ ?_)))))))))⟩
 ·refine .both (decide (a0.Imm ≥ (-2048))) (fun hb=>?_) (fun hb=>?_)
  ·have hg1:=hb
   exact .g hg1 (.s (fa T.f51_4 z z z) z (.g hg1 (.s (ld T.t3 hS z z z z z) z (.g hg1 (.q z (.s (pkt hg1 z z z) z (.nil (ck 4 hS z (bM hg1)))))))))
  exact .xx hb z (.xx hb z (.xx hb z (.s (pkf hb z z z) z (.nil (ck 4 hS z (bN hb))))))
 intro W hS
 refine .qn z (.seq (.g (.s (fa T.f51_0 z z z) z (.s (ld T.t3 hS z z z z z) z ?_))))
 have ⟨y4,hy4,h⟩:=bnd h
 refine .c (.cO hS Tryz.func106 (iq hy4) z z ?_)
 intro W hS
 refine .nil (.block (.g (.q z (.q z (.nil ?_)))))
 refine .cs z h ?_ ?_ <;> intro h
 ·refine .g (.q z (.q z (.cu 2 32 (y1 && y2) hS ?_ ?_)))
  ·refine .both (y1) (fun hb=>?_) (fun hb=>?_)
   ·have hg2:=hb
    exact .g hg2 (.q z (.s (pkt hg2 z z z) z (.nil (ck 2 hS z (bM hg2)))))
   exact .xx hb z (.s (pkf hb z z z) z (.nil (ck 2 hS z (bN hb))))
  intro W hS
  refine .q z (.cu 2 35 ((y1 && y2) && y3) hS ?_ ?_)
  ·refine .both (y1 && y2) (fun hb=>?_) (fun hb=>?_)
   ·have hg3:=hb
    exact .g hg3 (.q z (.s (pkt hg3 z z z) z (.nil (ck 2 hS z (bM hg3)))))
   exact .xx hb z (.s (pkf hb z z z) z (.nil (ck 2 hS z (bN hb))))
  intro W hS
  refine .q z (.cu 4 40 (((y1 && y2) && y3) && (a0.Imm == 0)) hS ?_ ?_)
  ·refine .both ((y1 && y2) && y3) (fun hb=>?_) (fun hb=>?_)
   ·have hg4:=hb
    exact .g hg4 (.s (fa T.f51_4 z z z) z (.g hg4 (.s (ld T.t3 hS z z z z z) z (.g hg4 (.q z (.s (pkt hg4 z z z) z (.nil (ck 4 hS z (bM hg4)))))))))
   exact .xx hb z (.xx hb z (.xx hb z (.s (pkf hb z z z) z (.nil (ck 4 hS z (bN hb))))))
  intro W hS
  cases h
  exact .qn z (.ret (ac (vs:=[_]) () (rt z rn) z (hS.to [])))
 refine .g (.q z (.q z (.nil ?_)))
 refine .cs z h ?_ ?_ <;> intro h
 ·refine .g (.q z (.q z (.cu 2 46 (y1 && y2) hS ?_ ?_)))
  ·refine .both (y1) (fun hb=>?_) (fun hb=>?_)
   ·have hg5:=hb
    exact .g hg5 (.q z (.s (pkt hg5 z z z) z (.nil (ck 2 hS z (bM hg5)))))
   exact .xx hb z (.s (pkf hb z z z) z (.nil (ck 2 hS z (bN hb))))
  intro W hS
  refine .q z (.cu 4 51 ((y1 && y2) && (a0.Rt == 0)) hS ?_ ?_)
  ·refine .both (y1 && y2) (fun hb=>?_) (fun hb=>?_)
   ·have hg6:=hb
    exact .g hg6 (.s (fa T.f51_3 z z z) z (.g hg6 (.s (ld T.t3 hS z z z z z) z (.g hg6 (.q z (.s (pkt hg6 z z z) z (.nil (ck 4 hS z (bM hg6)))))))))
   exact .xx hb z (.xx hb z (.xx hb z (.s (pkf hb z z z) z (.nil (ck 4 hS z (bN hb))))))
  intro W hS
  refine .q z (.cu 2 54 (((y1 && y2) && (a0.Rt == 0)) && ((decide (a0.Imm ≥ (-2048))) && (decide (a0.Imm ≤ 2047)))) hS ?_ ?_)
  ·refine .both ((y1 && y2) && (a0.Rt == 0)) (fun hb=>?_) (fun hb=>?_)
   ·have hg7:=hb
    exact .g hg7 (.q z (.s (pkt hg7 z z z) z (.nil (ck 2 hS z (bM hg7)))))
   exact .xx hb z (.s (pkf hb z z z) z (.nil (ck 2 hS z (bN hb))))
  intro W hS
  cases h
  exact .qn z (.ret (ac (vs:=[_]) () (rt z rn) z (hS.to [])))
 refine .g (.q z (.q z (.nil ?_)))
 refine .cs z h ?_ ?_ <;> intro h
 ·refine .g (.s (fa T.f51_1 z z z) z (.s (ld T.t3 hS z z z z z) z (.q z (.q z (.cu 2 62 ((a0.Rd == 0) && y2) hS ?_ ?_)))))
  ·refine .both (a0.Rd == 0) (fun hb=>?_) (fun hb=>?_)
   ·have hg8:=hb
    exact .g hg8 (.q z (.s (pkt hg8 z z z) z (.nil (ck 2 hS z (bM hg8)))))
   exact .xx hb z (.s (pkf hb z z z) z (.nil (ck 2 hS z (bN hb))))
  intro W hS
  refine .q z (.cu 2 65 (((a0.Rd == 0) && y2) && y3) hS ?_ ?_)
  ·refine .both ((a0.Rd == 0) && y2) (fun hb=>?_) (fun hb=>?_)
   ·have hg9:=hb
    exact .g hg9 (.q z (.s (pkt hg9 z z z) z (.nil (ck 2 hS z (bM hg9)))))
   exact .xx hb z (.s (pkf hb z z z) z (.nil (ck 2 hS z (bN hb))))
  intro W hS
  refine .q z (.cu 2 68 ((((a0.Rd == 0) && y2) && y3) && ((decide (a0.Imm ≥ (-2048))) && (decide (a0.Imm ≤ 2047)))) hS ?_ ?_)
  ·refine .both (((a0.Rd == 0) && y2) && y3) (fun hb=>?_) (fun hb=>?_)
   ·have hg10:=hb
    exact .g hg10 (.q z (.s (pkt hg10 z z z) z (.nil (ck 2 hS z (bM hg10)))))
   exact .xx hb z (.s (pkf hb z z z) z (.nil (ck 2 hS z (bN hb))))
  intro W hS
  cases h
  exact .qn z (.ret (ac (vs:=[_]) () (rt z rn) z (hS.to [])))
 refine .g (.q z (.q z (.nil ?_)))
 refine .cs z h ?_ ?_ <;> intro h
 ·refine .g (.s (fa T.f51_1 z z z) z (.s (ld T.t3 hS z z z z z) z (.q z (.q z (.cu 2 76 ((a0.Rd == 0) && y2) hS ?_ ?_)))))
  ·refine .both (a0.Rd == 0) (fun hb=>?_) (fun hb=>?_)
   ·have hg11:=hb
    exact .g hg11 (.q z (.s (pkt hg11 z z z) z (.nil (ck 2 hS z (bM hg11)))))
   exact .xx hb z (.s (pkf hb z z z) z (.nil (ck 2 hS z (bN hb))))
  intro W hS
  refine .q z (.cu 2 79 (((a0.Rd == 0) && y2) && y3) hS ?_ ?_)
  ·refine .both ((a0.Rd == 0) && y2) (fun hb=>?_) (fun hb=>?_)
   ·have hg12:=hb
    exact .g hg12 (.q z (.s (pkt hg12 z z z) z (.nil (ck 2 hS z (bM hg12)))))
   exact .xx hb z (.s (pkf hb z z z) z (.nil (ck 2 hS z (bN hb))))
  intro W hS
  refine .q z (.cu 4 84 ((((a0.Rd == 0) && y2) && y3) && (decide (a0.Imm ≥ (-4096)))) hS ?_ ?_)
  ·refine .both (((a0.Rd == 0) && y2) && y3) (fun hb=>?_) (fun hb=>?_)
   ·have hg13:=hb
    exact .g hg13 (.s (fa T.f51_4 z z z) z (.g hg13 (.s (ld T.t3 hS z z z z z) z (.g hg13 (.q z (.s (pkt hg13 z z z) z (.nil (ck 4 hS z (bM hg13)))))))))
   exact .xx hb z (.xx hb z (.xx hb z (.s (pkf hb z z z) z (.nil (ck 4 hS z (bN hb))))))
  intro W hS
  refine .q z (.cu 4 89 (((((a0.Rd == 0) && y2) && y3) && (decide (a0.Imm ≥ (-4096)))) && (decide (a0.Imm ≤ 4094))) hS ?_ ?_)
  ·refine .both ((((a0.Rd == 0) && y2) && y3) && (decide (a0.Imm ≥ (-4096)))) (fun hb=>?_) (fun hb=>?_)
   ·have hg14:=hb
    exact .g hg14 (.s (fa T.f51_4 z z z) z (.g hg14 (.s (ld T.t3 hS z z z z z) z (.g hg14 (.q z (.s (pkt hg14 z z z) z (.nil (ck 4 hS z (bM hg14)))))))))
   exact .xx hb z (.xx hb z (.xx hb z (.s (pkf hb z z z) z (.nil (ck 4 hS z (bN hb))))))
  intro W hS
  refine .q z (.cu 5 95 ((((((a0.Rd == 0) && y2) && y3) && (decide (a0.Imm ≥ (-4096)))) && (decide (a0.Imm ≤ 4094))) && ((Int.tmod a0.Imm 2) == 0)) hS ?_ ?_)
  ·refine .both (((((a0.Rd == 0) && y2) && y3) && (decide (a0.Imm ≥ (-4096)))) && (decide (a0.Imm ≤ 4094))) (fun hb=>?_) (fun hb=>?_)
   ·have hg15:=hb
    exact .g hg15 (.s (fa T.f51_4 z z z) z (.g hg15 (.s (ld T.t3 hS z z z z z) z (.g hg15 (.q z (.g hg15 (.q z (.s (pkt hg15 z z z) z (.nil (ck 5 hS z (bM hg15)))))))))))
   exact .xx hb z (.xx hb z (.xx hb z (.xx hb z (.s (pkf hb z z z) z (.nil (ck 5 hS z (bN hb)))))))
  intro W hS
  cases h
  exact .qn z (.ret (ac (vs:=[_]) () (rt z rn) z (hS.to [])))
 refine .g (.q z (.q z (.nil ?_)))
 refine .cs z h ?_ ?_ <;> intro h
 ·refine .g (.q z (.q z (.cu 4 103 (y1 && (a0.Rs == 0)) hS ?_ ?_)))
  ·refine .both (y1) (fun hb=>?_) (fun hb=>?_)
   ·have hg16:=hb
    exact .g hg16 (.s (fa T.f51_2 z z z) z (.g hg16 (.s (ld T.t3 hS z z z z z) z (.g hg16 (.q z (.s (pkt hg16 z z z) z (.nil (ck 4 hS z (bM hg16)))))))))
   exact .xx hb z (.xx hb z (.xx hb z (.s (pkf hb z z z) z (.nil (ck 4 hS z (bN hb))))))
  intro W hS
  refine .q z (.cu 4 108 ((y1 && (a0.Rs == 0)) && (a0.Rt == 0)) hS ?_ ?_)
  ·refine .both (y1 && (a0.Rs == 0)) (fun hb=>?_) (fun hb=>?_)
   ·have hg17:=hb
    exact .g hg17 (.s (fa T.f51_3 z z z) z (.g hg17 (.s (ld T.t3 hS z z z z z) z (.g hg17 (.q z (.s (pkt hg17 z z z) z (.nil (ck 4 hS z (bM hg17)))))))))
   exact .xx hb z (.xx hb z (.xx hb z (.s (pkf hb z z z) z (.nil (ck 4 hS z (bN hb))))))
  intro W hS
  refine .q z (.cu 4 113 (((y1 && (a0.Rs == 0)) && (a0.Rt == 0)) && (decide (a0.Imm ≥ 0))) hS ?_ ?_)
  ·refine .both ((y1 && (a0.Rs == 0)) && (a0.Rt == 0)) (fun hb=>?_) (fun hb=>?_)
   ·have hg18:=hb
    exact .g hg18 (.s (fa T.f51_4 z z z) z (.g hg18 (.s (ld T.t3 hS z z z z z) z (.g hg18 (.q z (.s (pkt hg18 z z z) z (.nil (ck 4 hS z (bM hg18)))))))))
   exact .xx hb z (.xx hb z (.xx hb z (.s (pkf hb z z z) z (.nil (ck 4 hS z (bN hb))))))
  intro W hS
  refine .q z (.cu 4 118 ((((y1 && (a0.Rs == 0)) && (a0.Rt == 0)) && (decide (a0.Imm ≥ 0))) && (decide (a0.Imm ≤ 1048575))) hS ?_ ?_)
  ·refine .both (((y1 && (a0.Rs == 0)) && (a0.Rt == 0)) && (decide (a0.Imm ≥ 0))) (fun hb=>?_) (fun hb=>?_)
   ·have hg19:=hb
    exact .g hg19 (.s (fa T.f51_4 z z z) z (.g hg19 (.s (ld T.t3 hS z z z z z) z (.g hg19 (.q z (.s (pkt hg19 z z z) z (.nil (ck 4 hS z (bM hg19)))))))))
   exact .xx hb z (.xx hb z (.xx hb z (.s (pkf hb z z z) z (.nil (ck 4 hS z (bN hb))))))
  intro W hS
  cases h
  exact .qn z (.ret (ac (vs:=[_]) () (rt z rn) z (hS.to [])))
 refine .g (.q z (.q z (.nil ?_)))
 refine .cs z h ?_ ?_ <;> intro h
 ·refine .g (.q z (.q z (.cu 4 126 (y1 && (a0.Rs == 0)) hS ?_ ?_)))
  ·refine .both (y1) (fun hb=>?_) (fun hb=>?_)
   ·have hg20:=hb
    exact .g hg20 (.s (fa T.f51_2 z z z) z (.g hg20 (.s (ld T.t3 hS z z z z z) z (.g hg20 (.q z (.s (pkt hg20 z z z) z (.nil (ck 4 hS z (bM hg20)))))))))
   exact .xx hb z (.xx hb z (.xx hb z (.s (pkf hb z z z) z (.nil (ck 4 hS z (bN hb))))))
  intro W hS
  refine .q z (.cu 4 131 ((y1 && (a0.Rs == 0)) && (a0.Rt == 0)) hS ?_ ?_)
  ·refine .both (y1 && (a0.Rs == 0)) (fun hb=>?_) (fun hb=>?_)
   ·have hg21:=hb
    exact .g hg21 (.s (fa T.f51_3 z z z) z (.g hg21 (.s (ld T.t3 hS z z z z z) z (.g hg21 (.q z (.s (pkt hg21 z z z) z (.nil (ck 4 hS z (bM hg21)))))))))
   exact .xx hb z (.xx hb z (.xx hb z (.s (pkf hb z z z) z (.nil (ck 4 hS z (bN hb))))))
  intro W hS
  refine .q z (.cu 4 136 (((y1 && (a0.Rs == 0)) && (a0.Rt == 0)) && (decide (a0.Imm ≥ (-1048576)))) hS ?_ ?_)
  ·refine .both ((y1 && (a0.Rs == 0)) && (a0.Rt == 0)) (fun hb=>?_) (fun hb=>?_)
   ·have hg22:=hb
    exact .g hg22 (.s (fa T.f51_4 z z z) z (.g hg22 (.s (ld T.t3 hS z z z z z) z (.g hg22 (.q z (.s (pkt hg22 z z z) z (.nil (ck 4 hS z (bM hg22)))))))))
   exact .xx hb z (.xx hb z (.xx hb z (.s (pkf hb z z z) z (.nil (ck 4 hS z (bN hb))))))
  intro W hS
  refine .q z (.cu 4 141 ((((y1 && (a0.Rs == 0)) && (a0.Rt == 0)) && (decide (a0.Imm ≥ (-1048576)))) && (decide (a0.Imm ≤ 1048574))) hS ?_ ?_)
  ·refine .both (((y1 && (a0.Rs == 0)) && (a0.Rt == 0)) && (decide (a0.Imm ≥ (-1048576)))) (fun hb=>?_) (fun hb=>?_)
   ·have hg23:=hb
    exact .g hg23 (.s (fa T.f51_4 z z z) z (.g hg23 (.s (ld T.t3 hS z z z z z) z (.g hg23 (.q z (.s (pkt hg23 z z z) z (.nil (ck 4 hS z (bM hg23)))))))))
   exact .xx hb z (.xx hb z (.xx hb z (.s (pkf hb z z z) z (.nil (ck 4 hS z (bN hb))))))
  intro W hS
  refine .q z (.cu 5 147 (((((y1 && (a0.Rs == 0)) && (a0.Rt == 0)) && (decide (a0.Imm ≥ (-1048576)))) && (decide (a0.Imm ≤ 1048574))) && ((Int.tmod a0.Imm 2) == 0)) hS ?_ ?_)
  ·refine .both ((((y1 && (a0.Rs == 0)) && (a0.Rt == 0)) && (decide (a0.Imm ≥ (-1048576)))) && (decide (a0.Imm ≤ 1048574))) (fun hb=>?_) (fun hb=>?_)
   ·have hg24:=hb
    exact .g hg24 (.s (fa T.f51_4 z z z) z (.g hg24 (.s (ld T.t3 hS z z z z z) z (.g hg24 (.q z (.g hg24 (.q z (.s (pkt hg24 z z z) z (.nil (ck 5 hS z (bM hg24)))))))))))
   exact .xx hb z (.xx hb z (.xx hb z (.xx hb z (.s (pkf hb z z z) z (.nil (ck 5 hS z (bN hb)))))))
  intro W hS
  cases h
  exact .qn z (.ret (ac (vs:=[_]) () (rt z rn) z (hS.to [])))
 refine .g (.q z (.q z (.nil ?_)))
 refine .cs z h ?_ ?_ <;> intro h
 ·cases h
  exact .g (.s (ld T.t51 hS z z z z z) z (.s (bs T.s51 z z) z (.s (eqs T.e51 z z z z) z (.qn z (.ret (ac (vs:=[_]) () (rt z rn) z (hS.to [])))))))
 obtain rfl:=o9 h
 exact .skip (.g (.qn z (.ret (ac (vs:=[_]) () (rt z rn) z (hS.to [])))))
theorem mc {a0 : Int} {w : World} {r : Bool} (h : dK a0 = some r) : Cl 79 #[vi a0] w (RU w (.bool r)):=by
 unfold dK at h
 refine au Tryz.func79 z z ?_
 have hS:=Sep.start w
 refine .g (.qn z (.g (.q z (.q z (.q z (.cu 3 8 ((decide (a0 ≥ 0)) && (decide (a0 < 4294967296))) hS ?_ ?_))))))
 ·refine .both (decide (a0 ≥ 0)) (fun hb=>?_) (fun hb=>?_)
  ·have hg1:=hb
   exact .g hg1 (.q z (.g hg1 (.q z (.s (pkt hg1 z z z) z (.nil (ck 3 hS z (bM hg1)))))))
  exact .xx hb z (.xx hb z (.s (pkf hb z z z) z (.nil (ck 3 hS z (bN hb)))))
 intro W hS
 cases h
 exact .qn z (.ret (ac (vs:=[_]) () (rt z rn) z (hS.to [])))
theorem bQ {a0 : Int} {a1 : Int} {a2 : Int} {w : World} {r : Int} (h : bz a0 a1 a2 = some r) : Cl 105 #[vi a0,vi a1,vi a2] w (RU w (.int .i64 r)):=by
 unfold bz at h
 refine au Tryz.func105 z z ?_
 have hS:=Sep.start w
 refine .g (.qn z (.seq (.g (.q z ?_))))
 have ⟨y1,hy1,h⟩:=bnd h
 refine .c (.cO hS Tryz.func79 (mc hy1) z z ?_)
 intro W hS
 refine .q z (.q z (.cu 3 13 ((!y1) || (decide (a1 < 0))) hS ?_ ?_))
 ·refine .both (!y1) (fun hb=>?_) (fun hb=>?_)
  ·exact .xx hb z (.xx hb z (.s (pkt hb z z z) z (.nil (ck 3 hS z (gn hb)))))
  have hg1:=hb
  exact .g hg1 (.q z (.g hg1 (.q z (.s (pkf hg1 z z z) z (.nil (ck 3 hS z (go hg1)))))))
 intro W hS
 refine .q z (.cu 3 17 (((!y1) || (decide (a1 < 0))) || (decide (a1 > 31))) hS ?_ ?_)
 ·refine .both ((!y1) || (decide (a1 < 0))) (fun hb=>?_) (fun hb=>?_)
  ·exact .xx hb z (.xx hb z (.s (pkt hb z z z) z (.nil (ck 3 hS z (gn hb)))))
  have hg2:=hb
  exact .g hg2 (.q z (.g hg2 (.q z (.s (pkf hg2 z z z) z (.nil (ck 3 hS z (go hg2)))))))
 intro W hS
 refine .q z (.cu 3 21 ((((!y1) || (decide (a1 < 0))) || (decide (a1 > 31))) || (decide (a2 < 1))) hS ?_ ?_)
 ·refine .both (((!y1) || (decide (a1 < 0))) || (decide (a1 > 31))) (fun hb=>?_) (fun hb=>?_)
  ·exact .xx hb z (.xx hb z (.s (pkt hb z z z) z (.nil (ck 3 hS z (gn hb)))))
  have hg3:=hb
  exact .g hg3 (.q z (.g hg3 (.q z (.s (pkf hg3 z z z) z (.nil (ck 3 hS z (go hg3)))))))
 intro W hS
 refine .q z (.cu 5 27 (((((!y1) || (decide (a1 < 0))) || (decide (a1 > 31))) || (decide (a2 < 1))) || (decide (a2 > (w64 (32 - a1))))) hS ?_ ?_)
 ·refine .both ((((!y1) || (decide (a1 < 0))) || (decide (a1 > 31))) || (decide (a2 < 1))) (fun hb=>?_) (fun hb=>?_)
  ·exact .xx hb z (.xx hb z (.xx hb z (.xx hb z (.s (pkt hb z z z) z (.nil (ck 5 hS z (gn hb)))))))
  have hg4:=hb
  exact .g hg4 (.q z (.g hg4 (.q z (.g hg4 (.q z (.g hg4 (.q z (.s (pkf hg4 z z z) z (.nil (ck 5 hS z (go hg4)))))))))))
 intro W hS
 refine .nil ?_
 refine .cs z h ?_ ?_ <;> intro h
 ·cases h
  exact .g (.qn z (.ret (ac (vs:=[_]) () (rt z rn) z (hS.to []))))
 refine .skip (.seq (.rk 8 hS [] T.mix ?_))
 intro W hS
 have hT:=hS.to []
 refine .tp' 0 z z hT (.tp' 1 z z hT ?_)
 have ⟨d1,hd1,h⟩:=bnd h
 refine .ts' 2 z (fun W hT=>kR hd1 z z z) hT z (.tp' 3 z z hT ?_)
 have ⟨d2,hd2,h⟩:=bnd h
 cases h
 exact .ts' 4 z (fun W hT=>kR hd2 z z z) hT z (.tp' 5 z z hT (.tp' 6 z z hT (.tp' 7 z z hT (.done (.ret (ac (vs:=[_]) () (rt z rn) z (hS.to [])))))))
theorem bb {a0 : Int} {a1 : Int} {a2 : Int} {a3 : Int} {g_3 : Nat} {w : World} {r : Int} (h : ay a0 a1 a2 a3 = some r) (b_3 : BR w (Old No w) g_3 3 [vi a3]) : Cl 104 #[vi a0,vi a1,vi a2,pt g_3] w (RU w (.int .i64 r)):=by
 unfold ay at h
 refine au Tryz.func104 z z ?_
 have hS:=Sep.start w
 refine .g (.qn z (.g (.s (ldb T.t3 (hS.keepB b_3) z z z z z) z (.q z (.q z ?_)))))
 have ⟨y1,hy1,h⟩:=bnd h
 refine .c (.cO hS Tryz.func105 (bQ hy1) z z ?_)
 intro W hS
 refine .q z ?_
 have ⟨d1,hd1,h⟩:=bnd h
 obtain rfl:=o9 h
 exact .s (kR hd1 z z z) z (.qn z (.ret (ac (vs:=[_]) () (rt z rn) z (hS.to []))))
theorem lA {a0 : Instr} {w : World} {r : Int × Bool} (h : bL a0 = some r) (hG : Gl w) : Cl 72 #[.agg #[vi a0.Op,vi a0.Rd,vi a0.Rs,vi a0.Rt,vi a0.Imm]] w (RU w (.tuple #[vi r.1,.bool r.2])):=by
 unfold bL at h
 refine au Tryz.func72 z z ?_
 have hS:=Sep.start w
 refine .g (.c (.box hS z z ?_))
 intro g1 W hS
 refine .q z (.qn z (.seq (.g (.s (ld T.t51 hS z z z z z) z ?_))))
 have ⟨y1,hy1,h⟩:=bnd h
 refine .c (.cO hS Tryz.func103 (ph hy1) z z ?_)
 intro W hS
 refine .q z (.nil ?_)
 refine .cs z h ?_ ?_ <;> intro h
 ·cases h
  exact .g (.q z (.qn z (.ret (ac (vs:=[_,_]) () (rt z (rt z rn)) z (hS.to [])))))
 refine .skip (.g (.s (fa T.f51_0 z z z) z (.s (ld T.t3 hS z z z z z) z (.q z ?_))))
 have ⟨x1,hx1,h⟩:=bnd h
 refine .s (ixt hx1 z T.u115 T.t114 z z z) z (.s (ldt (hG.at hS (fun _ _ h=>h)).2 hx1 T.t114 z z z z z) z (.c (.alloc T.t114 hS ?_)))
 intro g2 W hS
 refine .c (.st T.t114 hS z z z ?_)
 intro W hS
 refine .nil (.g (.s (fa T.f51_4 z z z) z (.s (ld T.t3 hS.p1 z z z z z) z ?_)))
 have ⟨y2,hy2,h⟩:=bnd h
 refine .c (.cO hS Tryz.func55 (ip hy2) z z ?_)
 intro W hS
 refine .c (.alloc T.t3 hS ?_)
 intro g3 W hS
 refine .c (.st T.t3 hS z z z ?_)
 intro W hS
 refine .nil (.g (.s (mf z z) z (.qn z (.g (.s (fa T.f51_3 z z z) z (.s (ld T.t3 hS.p2 z z z z z) z (.q z (.s (fa T.f51_2 z z z) z (.s (ld T.t3 hS.p2 z z z z z) z (.q z (.q z (.s (fa T.f114_2 z z z) z (.s (ld T.t3 hS.p1 z z z z z) z (.q z (.q z (.s (fa T.f114_1 z z z) z (.s (ld T.t3 hS.p1 z z z z z) z (.q z (.qn z (.seq (.g (.s (fa T.f51_0 z z z) z (.s (ld T.t3 hS.p2 z z z z z) z ?_)))))))))))))))))))))))
 have ⟨y3,hy3,h⟩:=bnd h
 refine .c (.cO hS Tryz.func106 (iq hy3) z z ?_)
 intro W hS
 refine .nil (.block (.g (.q z (.q z (.nil ?_)))))
 refine .cs z h ?_ ?_ <;> intro h
 ·cases h
  exact .g (.s (fa T.f114_3 z z z) z (.s (ld T.t3 hS.p1 z z z z z) z (.q z (.q z (.q z (.s (fa T.f51_1 z z z) z (.s (ld T.t3 hS.p2 z z z z z) z (.q z (.q z (.q z (.qn z (.ret (ac (vs:=[_,_]) () (rt z (rt z rn)) z (hS.to []))))))))))))))
 refine .g (.q z (.q z (.nil ?_)))
 refine .cs z h ?_ ?_ <;> intro h
 ·refine .seq (.rk 10 hS [0,0,0] T.mix ?_)
  intro W hS
  have hT:=hS.to [0,0,0]
  refine .tp' 0 z z hT (.tp' 2 z z hT (.ts' 4 z (fun W hT=>fa T.f51_1 z z z) hT z (.ts' 5 z (fun W hT=>ld T.t3 hT.p2 z z z z z) hT z (.tp' 6 z z hT ?_))))
  have ⟨y4,hy4,h⟩:=bnd h
  refine .by1 1 z (.callv (vs:=[vi 0,vi 12,vi 20]) (cap:=#[pt g3]) hS ⟨_,Tryz.func104,z,by kernel_rfl⟩ (bb hy4 hS.boxB) z z z ?_)
  rintro ⟨⟩ W hS
  have hT:=hS.to [0,0,0]
  refine ⟨fun _=>hT,?_⟩
  cases h
  exact .tp' 3 z z hT (.tp' 7 z z hT (.tp' 8 z z hT (.tp' 9 z z hT (.done (.ret (ac (vs:=[_,_]) () (rt z (rt z rn)) z (hS.to [])))))))
 refine .g (.q z (.q z (.nil ?_)))
 refine .cs z h ?_ ?_ <;> intro h
 ·refine .g (.q z ?_)
  have ⟨y5,hy5,h⟩:=bnd h
  refine .c (.callv (vs:=[vi 5,vi 7,vi 25]) (cap:=#[pt g3]) hS ⟨_,Tryz.func104,z,by kernel_rfl⟩ (bb hy5 hS.boxB) z z z ?_)
  rintro ⟨⟩ W hS
  refine .q z (.q z (.q z ?_))
  have ⟨y6,hy6,h⟩:=bnd h
  refine .c (.callv (vs:=[vi 0,vi 5,vi 7]) (cap:=#[pt g3]) hS ⟨_,Tryz.func104,z,by kernel_rfl⟩ (bb hy6 hS.boxB) z z z ?_)
  rintro ⟨⟩ W hS
  cases h
  exact .q z (.q z (.qn z (.ret (ac (vs:=[_,_]) () (rt z (rt z rn)) z (hS.to [])))))
 refine .g (.q z (.q z (.nil ?_)))
 refine .cs z h ?_ ?_ <;> intro h
 ·refine .g (.q z ?_)
  have ⟨y7,hy7,h⟩:=bnd h
  refine .c (.callv (vs:=[vi 12,vi 1,vi 31]) (cap:=#[pt g3]) hS ⟨_,Tryz.func104,z,by kernel_rfl⟩ (bb hy7 hS.boxB) z z z ?_)
  rintro ⟨⟩ W hS
  refine .q z ?_
  have ⟨y8,hy8,h⟩:=bnd h
  refine .c (.callv (vs:=[vi 5,vi 6,vi 25]) (cap:=#[pt g3]) hS ⟨_,Tryz.func104,z,by kernel_rfl⟩ (bb hy8 hS.boxB) z z z ?_)
  rintro ⟨⟩ W hS
  refine .q z (.q z (.q z (.q z ?_)))
  have ⟨y9,hy9,h⟩:=bnd h
  refine .c (.callv (vs:=[vi 1,vi 4,vi 8]) (cap:=#[pt g3]) hS ⟨_,Tryz.func104,z,by kernel_rfl⟩ (bb hy9 hS.boxB) z z z ?_)
  rintro ⟨⟩ W hS
  refine .q z (.q z ?_)
  have ⟨y10,hy10,h⟩:=bnd h
  refine .c (.callv (vs:=[vi 11,vi 1,vi 7]) (cap:=#[pt g3]) hS ⟨_,Tryz.func104,z,by kernel_rfl⟩ (bb hy10 hS.boxB) z z z ?_)
  rintro ⟨⟩ W hS
  cases h
  exact .q z (.q z (.qn z (.ret (ac (vs:=[_,_]) () (rt z (rt z rn)) z (hS.to [])))))
 refine .g (.q z (.q z (.nil ?_)))
 refine .cs z h ?_ ?_ <;> intro h
 ·refine .seq (.rk 11 hS [0,0,0] T.mix ?_)
  intro W hS
  have hT:=hS.to [0,0,0]
  refine .tp' 0 z z hT (.ts' 2 z (fun W hT=>fa T.f51_1 z z z) hT z (.ts' 3 z (fun W hT=>ld T.t3 hT.p2 z z z z z) hT z (.tp' 4 z z hT (.ts' 6 z (fun W hT=>fa T.f114_1 z z z) hT z (.ts' 7 z (fun W hT=>ld T.t3 hT.p1 z z z z z) hT z ?_)))))
  have ⟨y11,hy11,h⟩:=bnd h
  refine .by1 1 z (.callv (vs:=[vi 0,vi 20,vi 12]) (cap:=#[pt g3]) hS ⟨_,Tryz.func104,z,by kernel_rfl⟩ (bb hy11 hS.boxB) z z z ?_)
  rintro ⟨⟩ W hS
  have hT:=hS.to [0,0,0]
  refine ⟨fun _=>hT,?_⟩
  cases h
  exact .tp' 5 z z hT (.tp' 8 z z hT (.tp' 9 z z hT (.tp' 10 z z hT (.done (.ret (ac (vs:=[_,_]) () (rt z (rt z rn)) z (hS.to [])))))))
 refine .g (.q z (.q z (.nil ?_)))
 refine .cs z h ?_ ?_ <;> intro h
 ·refine .seq (.rk 20 hS [0,0,0] T.mix ?_)
  intro W hS
  have hT:=hS.to [0,0,0]
  refine .tp' 0 z z hT (.tp' 2 z z hT (.tp' 5 z z hT (.tp' 8 z z hT (.ts' 11 z (fun W hT=>fa T.f51_1 z z z) hT z (.ts' 12 z (fun W hT=>ld T.t3 hT.p2 z z z z z) hT z (.tp' 13 z z hT (.ts' 15 z (fun W hT=>fa T.f114_1 z z z) hT z (.ts' 16 z (fun W hT=>ld T.t3 hT.p1 z z z z z) hT z ?_))))))))
  have ⟨y12,hy12,h⟩:=bnd h
  refine .by1 1 z (.callv (vs:=[vi 20,vi 1,vi 31]) (cap:=#[pt g3]) hS ⟨_,Tryz.func104,z,by kernel_rfl⟩ (bb hy12 hS.boxB) z z z ?_)
  rintro ⟨⟩ W hS
  have hT:=hS.to [0,0,0]
  refine ⟨fun _=>hT,?_⟩
  have ⟨y13,hy13,h⟩:=bnd h
  refine .by1 3 z (.callv (vs:=[vi 1,vi 10,vi 21]) (cap:=#[pt g3]) hS ⟨_,Tryz.func104,z,by kernel_rfl⟩ (bb hy13 hS.boxB) z z z ?_)
  rintro ⟨⟩ W hS
  have hT:=hS.to [0,0,0]
  refine ⟨fun _=>hT,.tp' 4 z z hT ?_⟩
  have ⟨y14,hy14,h⟩:=bnd h
  refine .by1 6 z (.callv (vs:=[vi 11,vi 1,vi 20]) (cap:=#[pt g3]) hS ⟨_,Tryz.func104,z,by kernel_rfl⟩ (bb hy14 hS.boxB) z z z ?_)
  rintro ⟨⟩ W hS
  have hT:=hS.to [0,0,0]
  refine ⟨fun _=>hT,.tp' 7 z z hT ?_⟩
  have ⟨y15,hy15,h⟩:=bnd h
  refine .by1 9 z (.callv (vs:=[vi 12,vi 8,vi 12]) (cap:=#[pt g3]) hS ⟨_,Tryz.func104,z,by kernel_rfl⟩ (bb hy15 hS.boxB) z z z ?_)
  rintro ⟨⟩ W hS
  have hT:=hS.to [0,0,0]
  refine ⟨fun _=>hT,?_⟩
  cases h
  exact .tp' 10 z z hT (.tp' 14 z z hT (.tp' 17 z z hT (.tp' 18 z z hT (.tp' 19 z z hT (.done (.ret (ac (vs:=[_,_]) () (rt z (rt z rn)) z (hS.to []))))))))
 cases h
 exact .skip (.g (.s (fa T.f114_1 z z z) z (.s (ld T.t3 hS.p1 z z z z z) z (.q z (.qn z (.ret (ac (vs:=[_,_]) () (rt z (rt z rn)) z (hS.to []))))))))
def tH (w : World) (r : (List Int) × Bool) : Env → World → Prop:=Fin Tryz.prog Tryz.f42 No w (fun s : Hd=>.tuple #[(sv s),.bool r.2]) (fun s=>[ae (sv s) 3 1 (D.int .i64) r.1]) .ret
theorem rX {a0 : List Instr} {v_0 : Hd} {w : World} {r : (List Int) × Bool} (h : jW a0 = some r) (q_0 : RO w v_0 51 5 aG a0) (hG : Gl w) : Cl 42 #[(sv v_0)] w (Ret No w (fun s : Hd=>.tuple #[(sv s),.bool r.2]) (fun s=>[ae (sv s) 3 1 (D.int .i64) r.1])):=by
 unfold jW at h
 refine au Tryz.func42 z z ?_
 have hS:=Sep.start w
 refine .g (.q z (.qn z (.g (.qn z (.seq (.g (.q z (.s (bw (hS.keep q_0) T.u35 z z) z (.qn z (.block ?_))))))))))
 have hS:=hS.nilv 3 1 (D.int .i64)
 have ⟨y1,hy1,h⟩:=bnd h
 refine .via (.iter (fun s1 E' W'=>∃ (v3 : Hd),aD E' [(4,(sv v3)),(9,(sv v_0)),(10,vi (a0.length : Int)),(11,vi s1.2)] ∧ Sep No w W' [ae (sv v3) 3 1 (D.int .i64) s1.1]) (fun y2 x E' W'=>(match y2 with | .inl o1=>x = .ret ∧ tH w o1 E' W' | .inr o2=>x = .exit 0 ∧ ∃ (v4 : Hd),aD E' [(4,(sv v4))] ∧ Sep No w W' [ae (sv v4) 3 1 (D.int .i64) o2])) hy1 ⟨aN,sb rfl,hS.to [0] rfl⟩ ?_) ?_
 ·intro s1 y3 E W h hI
  obtain ⟨v2,hE,hS⟩:=hI
  refine CW.sub hE ?_
  unfold eu at h
  refine .g (.qn z (.seq ?_))
  refine .cs z h ?_ ?_ <;> intro h
  ·refine .skip (.seq (.block (.seq (.region ?_))))
   have ⟨x1,hx1,h⟩:=bnd h
   refine .s (ixv (hS.keep q_0) hx1 T.u35 T.t51 z z z) z (.s (lde (RV.flat (hS.keep q_0) hx1 z) T.t51 z z z z z) z (.c (.alloc T.t51 hS ?_)))
   intro g1 W hS
   refine .c (.st T.t51 hS z z z ?_)
   intro W hS
   refine .nil (.g (.s (ld T.t51 hS z z z z z) z ?_))
   have ⟨y4,hy4,h⟩:=bnd h
   refine .c (.cO hS Tryz.func72 (lA hy4 (hG.at hS (fun _ _ h=>h))) z z ?_)
   intro W hS
   refine .q z (.q z (.q z (.q z (.qn z (.seq (.g (.q z (.q z (.nil ?_)))))))))
   refine .cs z h ?_ ?_ <;> intro h
   ·refine .g (.q z (.qn z (.ret ?_)))
    have hS:=hS.nilv 3 1 (D.int .i64)
    cases h
    exact ⟨by simp,z,ac (vs:=[_,_]) aN (rt z (rt z rn)) z (hS.to [0])⟩
   refine .skip (.region (.q z (.q z ?_)))
   have ⟨y5,hy5,h⟩:=bnd h
   refine .c (.cO hS Tryz.func56 (cH hy5) z z ?_)
   intro W hS
   refine .c (.liv [y5] (D.int .i64) T.u23 T.t3 hS z z z z ?_ z (fun _=>z))
   intro v5 W hS
   have ⟨r1,hr1,h⟩:=bnd h
   have hT0:=hS.p2
   refine .c (.av hr1 hT0 hT0.p1.lv (fun _=>z) T.u23 T.t3 z z z ?_)
   intro v6 W hS
   refine .qn z (.region (.q z (.q z (.nil ?_))))
   cases h
   exact ⟨z,v6,sb z,hS.to [0]⟩
  refine .exit ?_
  cases h
  exact ⟨by simp,z,v2,sb z,hS.to [0]⟩
 intro x E W hJ
 rcases y1 with o3 | o4
 ·obtain ⟨rfl,hF⟩:=hJ
  refine ⟨_,fun _ _ h=>h,?_⟩
  cases h
  exact hF
 obtain ⟨rfl,v7,hE,hS⟩:=hJ
 refine ⟨_,hE.sub,?_⟩
 cases h
 exact .g (.q z (.q z (.qn z (.ret (ac (vs:=[_,_]) v7 (rt z (rt z rn)) z (hS.to [0]))))))
theorem rY {a0 : List Instr} {v_0 : Hd} {w : World} {r : ah × Bool} (h : eL a0 = some r) (q_0 : RO w v_0 51 5 aG a0) (hG : Gl w) : Cl 21 #[(sv v_0)] w (Ret No w (fun s : Hd × Hd=>.tuple #[.agg #[(sv s.1),vi r.1.Pc,(sv s.2)],.bool r.2]) (fun s=>[ae (sv s.1) 3 1 (D.int .i64) r.1.Regs,ae (sv s.2) 3 1 (D.int .i64) r.1.Mem])):=by
 unfold eL at h
 refine au Tryz.func21 z z ?_
 have hS:=Sep.start w
 refine .g (.c (.alloc T.t38 hS ?_))
 intro g1 W hS
 refine .qn z (.g (.q z ?_))
 have ⟨y1,hy1,h⟩:=bnd h
 refine .c (.cV hS Tryz.func42 (rX hy1 (hS.keep q_0) (hG.at hS (fun _ _ h=>h))) z z ?_)
 intro v1 W hS
 refine .q z (.q z (.q z (.q z (.qn z (.seq (.g (.q z (.q z (.q z (.cu 6 20 ((!y1.2) || (decide ((w64 ((w64 ((y1.1.length : Int) + 1)) + 12)) > 10000))) hS ?_ ?_))))))))))
 ·refine .both (!y1.2) (fun hb=>?_) (fun hb=>?_)
  ·exact .xx hb z (.xx hb z (.xx hb z (.xx hb z (.xx hb z (.s (pkt hb z z z) z (.nil (ck 6 hS z (gn hb))))))))
  have hg1:=hb
  exact .g hg1 (.q z (.g hg1 (.s (bw hS.lv T.u23 z z) z (.g hg1 (.q z (.g hg1 (.q z (.g hg1 (.q z (.s (pkf hg1 z z z) z (.nil (ck 6 hS z (go hg1)))))))))))))
 intro W hS
 refine .nil ?_
 refine .cs z h ?_ ?_ <;> intro h
 ·refine .g (.s (bs T.s38 z z) z (.c (.st T.t38 hS.p1 z z z ?_)))
  intro W hS
  refine .qn z (.ret ?_)
  have hS:=hS.nilv 3 1 (D.int .i64)
  have hS:=hS.nilv 3 1 (D.int .i64)
  cases h
  exact ac (vs:=[_,_]) (aN,aN) (rc hS.p2 T.t38 z (rt z rn) z z) z (hS.to [1,0])
 refine .skip (.seq ?_)
 have ⟨r1,hr1,h⟩:=bnd h
 have ⟨r2,hr2,h⟩:=bnd h
 refine .via (R':=fun x E' W'=>x = .normal ∧ ∃ (g2 : Nat) (v2 : Hd) (v3 : Hd),aD E' [(2,pt g1),(6,pt g2)] ∧ Sep No w W' [ae (sv v1) 3 1 (D.int .i64) y1.1,.box g1 38 [(sv aN),vi 0,(sv aN)],.box g2 38 [(sv v2),vi 4,(sv v3)],ae (sv v2) 3 1 (D.int .i64) r1,ae (sv v3) 3 1 (D.int .i64) r2]) ?_ ?_
 ·refine .rk 6 hS [0,0] T.mix ?_
  intro W hS
  have hT:=hS.to [0,0]
  refine .memo (fun E' W'=>∃ (v6 : Hd) (v7 : Hd),aD E' [(2,pt g1),(22,(sv v6)),(25,(sv v7))] ∧ Sep No w W' [ae (sv v1) 3 1 (D.int .i64) y1.1,.box g1 38 [(sv aN),vi 0,(sv aN)],ae (sv v6) 3 1 (D.int .i64) r1,ae (sv v7) 3 1 (D.int .i64) r2]) 3 (mn 7 [0,1,2,3]) ?_ ?_
  ·intro E W hJ
   obtain ⟨v8,v9,hE,hS⟩:=hJ
   refine .sub hE ?_
   have hT:=hS.to [0,0]
   refine .ts' 4 z (fun W hT=>bs T.s38 z z) hT z (.by1 5 z (.alloc T.t38 hS ?_))
   intro g3 W hS
   have hT:=hS.to [1,1]
   refine ⟨fun _=>hT,.by1 6 z (.st T.t38 hS z z z ?_)⟩
   intro W hS
   refine ⟨fun h=>absurd z h,?_⟩
   exact .done (⟨z,g3,v8,v9,sb z,hS.to [1,1,0,0,0]⟩)
  intro J1
  refine .memo (fun E' W'=>∃ (g5 : Nat) (v12 : Hd) (v13 : Hd),aD E' [(2,pt g1),(6,pt g5),(22,(sv v12)),(23,(sv v13)),(24,(sv v1))] ∧ Sep No w W' [ae (sv v1) 3 1 (D.int .i64) y1.1,.box g1 38 [(sv aN),vi 0,(sv aN)],.box g5 38 [(sv aN),vi 0,(sv aN)],ae (sv v12) 3 1 (D.int .i64) r1,ae (sv v13) 3 1 (D.int .i64) [0]]) 3 (mn 7 [0,1,2,5]) ?_ ?_
  ·intro E W hJ
   obtain ⟨g6,v14,v15,hE,hS⟩:=hJ
   refine .sub hE ?_
   have hT:=hS.to [0,0]
   have hT0:=hS.p4
   refine .by1 3 z (.av hr2 hT0 hT0.p1.lv (fun _=>z) T.u23 T.t3 z z z ?_)
   intro v16 W hS
   have hT:=hS.to [1,1]
   refine ⟨fun _=>hT,.ts' 4 z (fun W hT=>bs T.s38 z z) hT z (.by1 6 z (.st T.t38 hS.p3 z z z ?_))⟩
   intro W hS
   refine ⟨fun h=>absurd z h,?_⟩
   exact .done (⟨z,g6,v14,v16,sb z,hS.to [2,2,0,1,0]⟩)
  intro J2
  refine .memo (fun E' W'=>∃ (g8 : Nat) (v18 : Hd),aD E' [(2,pt g1),(6,pt g8),(25,(sv v18))] ∧ Sep No w W' [ae (sv v1) 3 1 (D.int .i64) y1.1,.box g1 38 [(sv aN),vi 0,(sv aN)],.box g8 38 [(sv aN),vi 0,(sv aN)],ae (sv v18) 3 1 (D.int .i64) r2]) 3 (mn 7 [1,2,3,5]) ?_ ?_
  ·intro E W hJ
   obtain ⟨g9,v19,hE,hS⟩:=hJ
   refine .sub hE ?_
   have hT:=hS.to [0,0]
   refine .by1 0 z (.mkv 0 (D.int .i64) hr1 T.u23 T.t3 hS z z z z z (fun _=>z) ?_)
   intro v20 W hS
   have hT:=hS.to [1,1]
   refine ⟨fun _=>hT,.ts' 4 z (fun W hT=>bs T.s38 z z) hT z (.by1 6 z (.st T.t38 hS.p3 z z z ?_))⟩
   intro W hS
   refine ⟨fun h=>absurd z h,?_⟩
   exact .done (⟨z,g9,v20,v19,sb z,hS.to [2,2,0,0,0]⟩)
  intro J3
  refine .memo (fun E' W'=>∃ (v23 : Hd) (v24 : Hd),aD E' [(2,pt g1),(22,(sv v23)),(23,(sv v24)),(24,(sv v1))] ∧ Sep No w W' [ae (sv v1) 3 1 (D.int .i64) y1.1,.box g1 38 [(sv aN),vi 0,(sv aN)],ae (sv v23) 3 1 (D.int .i64) r1,ae (sv v24) 3 1 (D.int .i64) [0]]) 4 (mn 7 [0,1,2]) ?_ ?_
  ·intro E W hJ
   obtain ⟨v25,v26,hE,hS⟩:=hJ
   refine .sub hE ?_
   have hT:=hS.to [0,0]
   refine .by [3,5] ⟨⟨_,z,?_⟩,⟨_,z,?_⟩,trivial⟩
   ·have hT0:=hS.p3
    refine (.av hr2 hT0 hT0.p1.lv (fun _=>z) T.u23 T.t3 z z z ?_)
    intro v27 W hS
    have hT:=hS.to [1,1]
    refine ⟨fun _=>hT,?_⟩
    exact .atl (J1 _ _ ⟨v25,v27,sb z,hS.to [1,1,1,0]⟩) (by kernel_rfl)
   refine (.alloc T.t38 hS ?_)
   intro g10 W hS
   have hT:=hS.to [1,1]
   refine ⟨fun _=>hT,?_⟩
   exact .atl (J2 _ _ ⟨g10,v25,v26,sb z,hS.to [1,1,0,0,0]⟩) (by kernel_rfl)
  intro J4
  refine .memo (fun E' W'=>∃ (g12 : Nat) (v29 : Hd),aD E' [(2,pt g1),(6,pt g12),(23,(sv v29)),(24,(sv v1))] ∧ Sep No w W' [ae (sv v1) 3 1 (D.int .i64) y1.1,.box g1 38 [(sv aN),vi 0,(sv aN)],.box g12 38 [(sv aN),vi 0,(sv aN)],ae (sv v29) 3 1 (D.int .i64) [0]]) 4 (mn 7 [1,2,5]) ?_ ?_
  ·intro E W hJ
   obtain ⟨g13,v30,hE,hS⟩:=hJ
   refine .sub hE ?_
   have hT:=hS.to [0,0]
   refine .by [0,3] ⟨⟨_,z,?_⟩,⟨_,z,?_⟩,trivial⟩
   ·refine (.mkv 0 (D.int .i64) hr1 T.u23 T.t3 hS z z z z z (fun _=>z) ?_)
    intro v31 W hS
    have hT:=hS.to [1,1]
    refine ⟨fun _=>hT,?_⟩
    exact .atl (J2 _ _ ⟨g13,v31,v30,sb z,hS.to [1,1,1,0,0]⟩) (by kernel_rfl)
   have hT0:=hS.p3
   refine (.av hr2 hT0 hT0.p1.lv (fun _=>z) T.u23 T.t3 z z z ?_)
   intro v32 W hS
   have hT:=hS.to [1,1]
   refine ⟨fun _=>hT,?_⟩
   exact .atl (J3 _ _ ⟨g13,v32,sb z,hS.to [1,1,1,0]⟩) (by kernel_rfl)
  intro J5
  refine .tp' 2 z z hT (.by [0,1,5] ⟨⟨_,z,?_⟩,⟨_,z,?_⟩,⟨_,z,?_⟩,trivial⟩)
  ·refine (.mkv 0 (D.int .i64) hr1 T.u23 T.t3 hS z z z z z (fun _=>z) ?_)
   intro v33 W hS
   have hT:=hS.to [1,1]
   refine ⟨fun _=>hT,.by [1,5] ⟨⟨_,z,?_⟩,⟨_,z,?_⟩,trivial⟩⟩
   ·refine (.liv [0] (D.int .i64) T.u23 T.t3 hS z z z z ?_ z (fun _=>z))
    intro v34 W hS
    have hT:=hS.to [2,2]
    refine ⟨fun _=>hT,?_⟩
    exact .atl (J4 _ _ ⟨v33,v34,sb z,hS.to [2,2,1,0]⟩) (by kernel_rfl)
   refine (.alloc T.t38 hS ?_)
   intro g14 W hS
   have hT:=hS.to [2,2]
   refine ⟨fun _=>hT,.by1 1 z (.liv [0] (D.int .i64) T.u23 T.t3 hS z z z z ?_ z (fun _=>z))⟩
   intro v35 W hS
   have hT:=hS.to [3,3]
   refine ⟨fun _=>hT,?_⟩
   have hT0:=hS
   refine .by1 3 z (.av hr2 hT0 hT0.p3.lv (fun _=>z) T.u23 T.t3 z z z ?_)
   intro v36 W hS
   have hT:=hS.to [3,3]
   refine ⟨fun _=>hT,.ts' 4 z (fun W hT=>bs T.s38 z z) hT z (.by1 6 z (.st T.t38 hS.p1 z z z ?_))⟩
   intro W hS
   refine ⟨fun h=>absurd z h,?_⟩
   exact .done (⟨z,g14,v33,v36,sb z,hS.to [3,3,0,1,0]⟩)
  ·refine (.liv [0] (D.int .i64) T.u23 T.t3 hS z z z z ?_ z (fun _=>z))
   intro v37 W hS
   have hT:=hS.to [1,1]
   refine ⟨fun _=>hT,.by [0,3,5] ⟨⟨_,z,?_⟩,⟨_,z,?_⟩,⟨_,z,?_⟩,trivial⟩⟩
   ·refine (.mkv 0 (D.int .i64) hr1 T.u23 T.t3 hS z z z z z (fun _=>z) ?_)
    intro v38 W hS
    have hT:=hS.to [2,2]
    refine ⟨fun _=>hT,?_⟩
    exact .atl (J4 _ _ ⟨v38,v37,sb z,hS.to [2,2,0,0]⟩) (by kernel_rfl)
   ·have hT0:=hS
    refine (.av hr2 hT0 hT0.p1.lv (fun _=>z) T.u23 T.t3 z z z ?_)
    intro v39 W hS
    have hT:=hS.to [1,1]
    refine ⟨fun _=>hT,.by [0,5] ⟨⟨_,z,?_⟩,⟨_,z,?_⟩,trivial⟩⟩
    ·refine (.mkv 0 (D.int .i64) hr1 T.u23 T.t3 hS z z z z z (fun _=>z) ?_)
     intro v40 W hS
     have hT:=hS.to [2,2]
     refine ⟨fun _=>hT,?_⟩
     exact .atl (J1 _ _ ⟨v40,v39,sb z,hS.to [2,2,0,0]⟩) (by kernel_rfl)
    refine (.alloc T.t38 hS ?_)
    intro g15 W hS
    have hT:=hS.to [2,2]
    refine ⟨fun _=>hT,?_⟩
    exact .atl (J3 _ _ ⟨g15,v39,sb z,hS.to [2,2,0,0]⟩) (by kernel_rfl)
   refine (.alloc T.t38 hS ?_)
   intro g16 W hS
   have hT:=hS.to [2,2]
   refine ⟨fun _=>hT,?_⟩
   exact .atl (J5 _ _ ⟨g16,v37,sb z,hS.to [2,2,0,0]⟩) (by kernel_rfl)
  refine (.alloc T.t38 hS ?_)
  intro g17 W hS
  have hT:=hS.to [1,1]
  refine ⟨fun _=>hT,.by [0,1] ⟨⟨_,z,?_⟩,⟨_,z,?_⟩,trivial⟩⟩
  ·refine (.mkv 0 (D.int .i64) hr1 T.u23 T.t3 hS z z z z z (fun _=>z) ?_)
   intro v41 W hS
   have hT:=hS.to [2,2]
   refine ⟨fun _=>hT,.by1 1 z (.liv [0] (D.int .i64) T.u23 T.t3 hS z z z z ?_ z (fun _=>z))⟩
   intro v42 W hS
   have hT:=hS.to [3,3]
   refine ⟨fun _=>hT,?_⟩
   have hT0:=hS
   refine .by1 3 z (.av hr2 hT0 hT0.p3.lv (fun _=>z) T.u23 T.t3 z z z ?_)
   intro v43 W hS
   have hT:=hS.to [3,3]
   refine ⟨fun _=>hT,.ts' 4 z (fun W hT=>bs T.s38 z z) hT z (.by1 6 z (.st T.t38 hS.p2 z z z ?_))⟩
   intro W hS
   refine ⟨fun h=>absurd z h,?_⟩
   exact .done (⟨z,g17,v41,v43,sb z,hS.to [3,3,0,1,0]⟩)
  refine (.liv [0] (D.int .i64) T.u23 T.t3 hS z z z z ?_ z (fun _=>z))
  intro v44 W hS
  have hT:=hS.to [2,2]
  refine ⟨fun _=>hT,?_⟩
  exact .atl (J5 _ _ ⟨g17,v44,sb z,hS.to [2,2,1,0]⟩) (by kernel_rfl)
 intro x E W hJ
 obtain ⟨rfl,g18,v45,v46,hE,hS⟩:=hJ
 refine ⟨_,hE.sub,?_⟩
 refine .g (.s (fa T.f38_0 z z z) z (.s (ld T.t23 hS.p2 z z z z z) z (.s (fa T.f38_2 z z z) z (.s (ld T.t23 hS.p2 z z z z z) z (.s (bw hS.p4.lv T.u23 z z) z (.q z ?_))))))
 have ⟨x1,hx1,h⟩:=bnd h
 refine .s (ixv hS.p3.lv hx1 T.u23 T.t3 z z z) z ?_
 have ⟨r3,hr3,h⟩:=bnd h
 refine .c (.sev hr3 hx1 hS.p3 T.t3 z z z z z z ?_)
 intro W hS
 refine .nil (.g (.s (fa T.f38_2 z z z) z (.s (ld T.t23 hS.p3 z z z z z) z ?_)))
 have ⟨r4,hr4,h⟩:=bnd h
 refine .c (.appz 0 hr4 hS.p4 T.u23 T.u3 T.t3 z z z z ?_ (fun _=>z))
 intro v47 W hS
 refine .s (fa T.f38_2 z z z) z (.c (.st T.t23 hS.p4 z z z ?_))
 intro W hS
 refine .nil (.g (.s (ld T.t38 hS z z z z z) z (.c (.st T.t38 hS.p4 z z z ?_))))
 intro W hS
 cases h
 exact .qn z (.ret (ac (vs:=[_,_]) (v45,v47) (rc hS T.t38 z (rt z rn) z z) z (hS.to [3,2])))
def rZ (w : World) (r : aE × Bool) : Env → World → Prop:=Fin Tryz.prog Tryz.f7 No w (fun s : Hd × Hd × Hd=>.tuple #[.agg #[(sv s.1),(sv s.2.1),vi r.1.Turn,vi r.1.Idle,(sv s.2.2)],.bool r.2]) (fun s=>[ae (sv s.1) 38 3 ao r.1.Harts,ae (sv s.2.1) 44 2 bi r.1.Boxes,ae (sv s.2.2) 3 1 (D.int .i64) r.1.Out]) .ret
end
noncomputable section
theorem mY {a0 : List Int} {a1 : List (List Instr)} {v_0 : Hd} {v_1 : Hd} {w : World} {r : aE × Bool} (h : f0 a0 a1 = some r) (q_0 : RO w v_0 3 1 (D.int .i64) a0) (q_1 : RO w v_1 35 1 (fun (l : List Instr)=>D.row 51 5 (l.map aG)) a1) (hG : Gl w) : Cl 7 #[(sv v_0),(sv v_1)] w (Ret No w (fun s : Hd × Hd × Hd=>.tuple #[.agg #[(sv s.1),(sv s.2.1),vi r.1.Turn,vi r.1.Idle,(sv s.2.2)],.bool r.2]) (fun s=>[ae (sv s.1) 38 3 ao r.1.Harts,ae (sv s.2.1) 44 2 bi r.1.Boxes,ae (sv s.2.2) 3 1 (D.int .i64) r.1.Out])):=by
 unfold f0 at h
 refine au Tryz.func7 z z ?_
 have hS:=Sep.start w
 refine .g (.c (.alloc T.t30 hS ?_))
 intro g1 W hS
 refine .qn z (.seq (.g (.q z ?_)))
 have ⟨y1,hy1,h⟩:=bnd h
 refine .c (.cO hS Tryz.func19 (pg hy1 (hS.keep q_0)) z z ?_)
 intro W hS
 refine .q z (.q z (.cu 4 18 ((!y1) || (decide ((a1.length : Int) < 1))) hS ?_ ?_))
 ·refine .both (!y1) (fun hb=>?_) (fun hb=>?_)
  ·exact .xx hb z (.xx hb z (.xx hb z (.s (pkt hb z z z) z (.nil (ck 4 hS z (gn hb))))))
  have hg1:=hb
  exact .g hg1 (.q z (.g hg1 (.s (bw (hS.keep q_1) T.u24 z z) z (.g hg1 (.q z (.s (pkf hg1 z z z) z (.nil (ck 4 hS z (go hg1)))))))))
 intro W hS
 refine .q z (.cu 4 23 (((!y1) || (decide ((a1.length : Int) < 1))) || (decide ((a1.length : Int) > 3))) hS ?_ ?_)
 ·refine .both ((!y1) || (decide ((a1.length : Int) < 1))) (fun hb=>?_) (fun hb=>?_)
  ·exact .xx hb z (.xx hb z (.xx hb z (.s (pkt hb z z z) z (.nil (ck 4 hS z (gn hb))))))
  have hg2:=hb
  exact .g hg2 (.q z (.g hg2 (.s (bw (hS.keep q_1) T.u24 z z) z (.g hg2 (.q z (.s (pkf hg2 z z z) z (.nil (ck 4 hS z (go hg2)))))))))
 intro W hS
 refine .nil ?_
 refine .cs z h ?_ ?_ <;> intro h
 ·refine .g (.s (bs T.s30 z z) z (.c (.st T.t30 hS z z z ?_)))
  intro W hS
  refine .qn z (.ret ?_)
  have hS:=hS.nilv 38 3 ao
  have hS:=hS.nilv 44 2 bi
  have hS:=hS.nilv 3 1 (D.int .i64)
  cases h
  exact ac (vs:=[_,_]) (aN,aN,aN) (rc hS.p3 T.t30 z (rt z rn) z z) z (hS.to [2,1,0])
 refine .skip (.g (.q z ?_))
 have ⟨y2,hy2,h⟩:=bnd h
 refine .c (.cV hS Tryz.func20 (qX hy2 (hS.keep q_0)) z z ?_)
 intro v1 W hS
 refine .s (bs T.s30 z z) z (.c (.alloc T.t30 hS ?_))
 intro g2 W hS
 refine .c (.st T.t30 hS z z z ?_)
 intro W hS
 refine .nil (.seq (.g (.q z (.s (bw (hS.keep q_1) T.u24 z z) z (.qn z (.block ?_))))))
 have hS:=hS.nilv 38 3 ao
 have ⟨y3,hy3,h⟩:=bnd h
 refine .via (.iter (fun s1 E' W'=>∃ (v4 : Hd),aD E' [(4,pt g1),(6,pt g2),(28,(sv v_1)),(29,vi (a1.length : Int)),(30,vi s1.1)] ∧ Sep No w W' [.box g2 30 [(sv v4),(sv v1),vi 0,vi 0,(sv aN)],ae (sv v1) 44 2 bi y2,.box g1 30 [(sv aN),(sv aN),vi 0,vi 0,(sv aN)],ae (sv v4) 38 3 ao s1.2]) (fun y4 x E' W'=>(match y4 with | .inl o1=>x = .ret ∧ rZ w o1 E' W' | .inr o2=>x = .exit 0 ∧ ∃ (v5 : Hd),aD E' [(4,pt g1),(6,pt g2)] ∧ Sep No w W' [.box g2 30 [(sv v5),(sv v1),vi 0,vi 0,(sv aN)],ae (sv v1) 44 2 bi y2,.box g1 30 [(sv aN),(sv aN),vi 0,vi 0,(sv aN)],ae (sv v5) 38 3 ao o2])) hy3 ⟨aN,sb rfl,hS.to [1,1,1,0] rfl⟩ ?_) ?_
 ·intro s1 y5 E W h hI
  obtain ⟨v3,hE,hS⟩:=hI
  refine CW.sub hE ?_
  unfold fp at h
  refine .g (.qn z (.seq ?_))
  refine .cs z h ?_ ?_ <;> intro h
  ·refine .skip (.seq (.block (.seq (.region ?_))))
   have ⟨x1,hx1,h⟩:=bnd h
   obtain ⟨k1,hd,hck1⟩:=RV.el2 q_1 hx1
   obtain ⟨v6,k1,rfl,q5,hd1⟩:=ef q_1 hd
   obtain rfl:=m8 q_1 hd1
   refine .s (ixv (hS.keep q_1) hx1 T.u24 T.t35 z z z) z (.s (lde (hck1 _ hS.agree) T.t35 z z z z z) z (.qn z (.g (.q z ?_))))
   have ⟨y6,hy6,h⟩:=bnd h
   refine .c (.call hS Tryz.func21 (rY hy6 (hS.keep (q5 _ q_1)) (hG.at hS (fun _ _ h=>h))) z z ?_)
   rintro ⟨v7,v8⟩ W hS
   refine .q z (.q z (.q z (.c (.alloc T.t38 hS ?_))))
   intro g3 W hS
   refine .c (.st T.t38 hS z z z ?_)
   intro W hS
   refine .qn z (.seq (.g (.q z (.q z (.nil ?_)))))
   refine .cs z h ?_ ?_ <;> intro h
   ·refine .g (.s (bs T.s30 z z) z (.c (.st T.t30 hS.p5 z z z ?_)))
    intro W hS
    refine .qn z (.ret ?_)
    have hS:=hS.nilv 38 3 ao
    have hS:=hS.nilv 44 2 bi
    have hS:=hS.nilv 3 1 (D.int .i64)
    cases h
    exact ⟨by simp,z,ac (vs:=[_,_]) (aN,aN,aN) (rc hS.p3 T.t30 z (rt z rn) z z) z (hS.to [2,1,0])⟩
   refine .skip (.region (.s (fa T.f30_0 z z z) z (.s (ld T.t27 hS.p3 z z z z z) z (.s (ld T.t38 hS z z z z z) z (.c (.lg (L1:=[ae (sv v7) 3 1 (D.int .i64) y6.1.Regs,ae (sv v8) 3 1 (D.int .i64) y6.1.Mem]) [(ah.mk y6.1.Regs y6.1.Pc y6.1.Mem)] ao T.u27 T.t38 (hS.to [1,1,0,0,0,0,0]) z z z (.agg (.row (.flat (c1:=[vi y6.1.Pc]) z (.row .nil)))) ?_ z (fun _=>z)))))))
   intro v9 W hS
   have ⟨r1,hr1,h⟩:=bnd h
   refine .c (.appv hr1 (hS.to [5,0,0,0,0,0]) T.u27 T.t38 z z z ?_)
   intro v10 W hS
   refine .s (fa T.f30_0 z z z) z (.c (.st T.t27 hS.p2 z z z ?_))
   intro W hS
   refine .nil (.region (.q z (.q z (.nil ?_))))
   cases h
   exact ⟨z,v10,sb z,hS.to [0,2,2,0]⟩
  refine .exit ?_
  cases h
  exact ⟨by simp,z,v3,sb z,hS.to [0,0,0,0]⟩
 intro x E W hJ
 rcases y3 with o3 | o4
 ·obtain ⟨rfl,hF⟩:=hJ
  refine ⟨_,fun _ _ h=>h,?_⟩
  cases h
  exact hF
 obtain ⟨rfl,v11,hE,hS⟩:=hJ
 refine ⟨_,hE.sub,?_⟩
 refine .g (.s (ld T.t30 hS z z z z z) z (.c (.st T.t30 hS.p2 z z z ?_)))
 intro W hS
 refine .qn z (.ret ?_)
 have hS:=hS.nilv 3 1 (D.int .i64)
 cases h
 exact ac (vs:=[_,_]) (v11,v1,aN) (rc hS.p1 T.t30 z (rt z rn) z z) z (hS.to [4,3,0])
def r7 (w : World) (r : Bool) : Env → World → Prop:=Fin Tryz.prog Tryz.f22 No w (fun s : Unit=>.bool r) (fun s=>[]) .ret
theorem qY {a0 : List Int} {v_0 : Hd} {w : World} {r : Bool} (h : d8 a0 = some r) (q_0 : RO w v_0 3 1 (D.int .i64) a0) : Cl 22 #[(sv v_0)] w (RU w (.bool r)):=by
 unfold d8 at h
 refine au Tryz.func22 z z ?_
 have hS:=Sep.start w
 refine .g (.qn z (.seq (.g (.qn z (.block ?_)))))
 have ⟨y1,hy1,h⟩:=bnd h
 refine .via (.iter (fun s1 E' W'=>aD E' [(0,(sv v_0)),(3,vi s1)] ∧ Sep No w W' []) (fun y2 x E' W'=>(match y2 with | .inl o1=>x = .ret ∧ r7 w o1 E' W' | .inr o2=>x = .exit 0 ∧ aD E' [(0,(sv v_0))] ∧ Sep No w W' [])) hy1 ⟨sb rfl,hS.to [] rfl⟩ ?_) ?_
 ·intro s1 y3 E W h hI
  obtain ⟨hE,hS⟩:=hI
  refine CW.sub hE ?_
  unfold bU at h
  refine .seq (.g (.q z (.q z (.s (bw (hS.keep q_0) T.u23 z z) z (.q z (.nil ?_))))))
  refine .cs z h ?_ ?_ <;> intro h
  ·refine .skip (.seq (.block (.g (.q z (.q z ?_)))))
   have ⟨x1,hx1,h⟩:=bnd h
   refine .s (ixv (hS.keep q_0) hx1 T.u23 T.t3 z z z) z (.s (lde (RV.flat (hS.keep q_0) hx1 z) T.t3 z z z z z) z ?_)
   have ⟨y4,hy4,h⟩:=bnd h
   refine .c (.cO hS Tryz.func23 (aW hy4) z z ?_)
   intro W hS
   refine .q z (.nil ?_)
   refine .cs z h ?_ ?_ <;> intro h
   ·refine .g (.qn z (.ret ?_))
    cases h
    exact ⟨by simp,z,ac (vs:=[_]) () (rt z rn) z (hS.to [])⟩
   refine .skip (.region (.q z (.q z (.q z (.nil ?_)))))
   cases h
   exact ⟨z,sb z,hS.to []⟩
  refine .exit ?_
  cases h
  exact ⟨by simp,z,sb z,hS.to []⟩
 intro x E W hJ
 rcases y1 with o3 | o4
 ·obtain ⟨rfl,hF⟩:=hJ
  refine ⟨_,fun _ _ h=>h,?_⟩
  cases h
  exact hF
 obtain ⟨rfl,hE,hS⟩:=hJ
 refine ⟨_,hE.sub,?_⟩
 cases h
 exact .g (.q z (.s (bw (hS.keep q_0) T.u23 z z) z (.q z (.qn z (.ret (ac (vs:=[_]) () (rt z rn) z (hS.to [])))))))
theorem qZ {a0 : List Int} {v_0 : Hd} {w : World} {r : (List Box)} (h : i5 a0 = some r) (q_0 : RO w v_0 3 1 (D.int .i64) a0) : Cl 24 #[(sv v_0)] w (Ret No w (fun s : Hd=>(sv s)) (fun s=>[ae (sv s) 44 2 bi r])):=by
 unfold i5 at h
 refine au Tryz.func24 z z ?_
 have hS:=Sep.start w
 refine .g (.qn z (.g (.c (.lg (L1:=[]) [] bi T.u28 T.t44 (hS.to []) z z z (.nil) ?_ z (fun _=>z)))))
 intro v1 W hS
 refine .qn z (.seq (.g (.qn z (.block ?_))))
 have ⟨y1,hy1,h⟩:=bnd h
 refine .via (.iter (fun s1 E' W'=>∃ (v4 : Hd),aD E' [(0,(sv v_0)),(3,(sv v4)),(4,vi s1.2)] ∧ Sep No w W' [ae (sv v4) 44 2 bi s1.1]) (fun y2 x E' W'=>x = .exit 0 ∧ ∃ (v5 : Hd),aD E' [(3,(sv v5))] ∧ Sep No w W' [ae (sv v5) 44 2 bi y2]) hy1 ⟨v1,sb z,hS.to [0]⟩ ?_) ?_
 ·intro s1 y3 E W h hI
  obtain ⟨v3,hE,hS⟩:=hI
  refine CW.sub hE ?_
  unfold ia at h
  refine .seq (.g (.q z (.q z (.s (bw (hS.keep q_0) T.u23 z z) z (.q z (.nil ?_))))))
  refine .cs z h ?_ ?_ <;> intro h
  ·refine .skip (.seq (.block (.region (.q z (.q z (.q z ?_))))))
   have ⟨x1,hx1,h⟩:=bnd h
   refine .s (ixv (hS.keep q_0) hx1 T.u23 T.t3 z z z) z (.s (lde (RV.flat (hS.keep q_0) hx1 z) T.t3 z z z z z) z (.c (.liv [] (D.int .i64) T.u23 T.t3 hS z z z z ?_ z (fun _=>z))))
   intro v6 W hS
   refine .s (bs T.s44 z z) z (.c (.lg (L1:=[ae (sv v6) 3 1 (D.int .i64) []]) [(Box.mk x1 [])] bi T.u28 T.t44 (hS.to [0,0]) z z z (.agg (.flat (c1:=[vi x1]) z (.row .nil))) ?_ z (fun _=>z)))
   intro v7 W hS
   have ⟨r1,hr1,h⟩:=bnd h
   refine .c (.appv hr1 (hS.to [1,0]) T.u28 T.t44 z z z ?_)
   intro v8 W hS
   refine .qn z (.region (.q z (.q z (.q z (.nil ?_)))))
   cases h
   exact ⟨z,v8,sb z,hS.to [0]⟩
  refine .exit ?_
  cases h
  exact ⟨by simp,z,v3,sb z,hS.to [0]⟩
 intro x E W hJ
 obtain ⟨rfl,v9,hE,hS⟩:=hJ
 refine ⟨_,hE.sub,?_⟩
 obtain rfl:=o9 h
 exact .g (.q z (.qn z (.ret (ac (vs:=[_]) v9 (rt z rn) z (hS.to [0])))))
theorem dP {a0 : Instr} {a1 : Int} {a2 : Int} {a3 : Int} {w : World} {r : Bool} (h : db a0 a1 a2 a3 = some r) : Cl 130 #[.agg #[vi a0.Op,vi a0.Rd,vi a0.Rs,vi a0.Rt,vi a0.Imm],vi a1,vi a2,vi a3] w (RU w (.bool r)):=by
 unfold db at h
 refine au Tryz.func130 z z ?_
 have hS:=Sep.start w
 refine .g (.c (.box hS z z ?_))
 intro g1 W hS
 refine .qn z (.g (.s (fa T.f51_1 z z z) z (.s (ld T.t3 hS z z z z z) z (.q z (.q z ?_)))))
 have ⟨y1,hy1,h⟩:=bnd h
 refine .c (.cO hS Tryz.func23 (aW hy1) z z ?_)
 intro W hS
 refine .q z ?_
 have ⟨b1,hb1,h⟩:=bnd h
 refine .cu 6 20 (b1) hS ?_ ?_
 ·refine .both (y1) (fun hb=>?_) (fun hb=>?_)
  ·have hg1:=hb
   have h:=aI hb hb1
   refine .g hg1 (.s (fa T.f51_2 z z z) z (.g hg1 (.s (ld T.t3 hS z z z z z) z (.g hg1 (.q z (.g hg1 (.q z ?_)))))))
   have ⟨y2,hy2,h⟩:=bnd h
   refine .g hg1 (.c (.cO hS Tryz.func23 (aW hy2) z z ?_))
   intro W hS
   refine .s (pkt hg1 z z z) z ?_
   cases h
   exact .nil (ck 6 hS)
  refine .xx hb z (.xx hb z (.xx hb z (.xx hb z (.xx hb z ?_))))
  cases aJ hb hb1
  exact .s (pkf hb z z z) z (.nil (ck 6 hS))
 intro W hS
 refine .q z ?_
 have ⟨b2,hb2,h⟩:=bnd h
 refine .cu 6 27 (b2) hS ?_ ?_
 ·refine .both (b1) (fun hb=>?_) (fun hb=>?_)
  ·have hg2:=hb
   have h:=aI hb hb2
   refine .g hg2 (.s (fa T.f51_3 z z z) z (.g hg2 (.s (ld T.t3 hS z z z z z) z (.g hg2 (.q z (.g hg2 (.q z ?_)))))))
   have ⟨y3,hy3,h⟩:=bnd h
   refine .g hg2 (.c (.cO hS Tryz.func23 (aW hy3) z z ?_))
   intro W hS
   refine .s (pkt hg2 z z z) z ?_
   cases h
   exact .nil (ck 6 hS)
  refine .xx hb z (.xx hb z (.xx hb z (.xx hb z (.xx hb z ?_))))
  cases aJ hb hb2
  exact .s (pkf hb z z z) z (.nil (ck 6 hS))
 intro W hS
 obtain rfl:=o9 h
 exact .qn z (.ret (ac (vs:=[_]) () (rt z rn) z (hS.to [])))
theorem nD {a0 : Int} {a1 : Int} {a2 : Int} {w : World} {r : Bool} (h : ib a0 a1 a2 = some r) : Cl 131 #[vi a0,vi a1,vi a2] w (RU w (.bool r)):=by
 unfold ib at h
 refine au Tryz.func131 z z ?_
 have hS:=Sep.start w
 refine .g (.qn z (.g (.q z (.q z (.q z ?_)))))
 have ⟨y1,hy1,h⟩:=bnd h
 refine .c (.cO hS Tryz.func23 (aW hy1) z z ?_)
 intro W hS
 refine .q z (.cu 4 15 (y1 && ((Int.tmod a0 2) == 0)) hS ?_ ?_)
 ·refine .both (y1) (fun hb=>?_) (fun hb=>?_)
  ·have hg1:=hb
   exact .g hg1 (.q z (.g hg1 (.q z (.g hg1 (.q z (.s (pkt hg1 z z z) z (.nil (ck 4 hS z (bM hg1)))))))))
  exact .xx hb z (.xx hb z (.xx hb z (.s (pkf hb z z z) z (.nil (ck 4 hS z (bN hb))))))
 intro W hS
 cases h
 exact .qn z (.ret (ac (vs:=[_]) () (rt z rn) z (hS.to [])))
theorem pi {a0 : Instr} {w : World} {r : Bool} (h : dL a0 = some r) : Cl 107 #[.agg #[vi a0.Op,vi a0.Rd,vi a0.Rs,vi a0.Rt,vi a0.Imm]] w (RU w (.bool r)):=by
 unfold dL at h
 refine au Tryz.func107 z z ?_
 have hS:=Sep.start w
 refine .g (.c (.box hS z z ?_))
 intro g1 W hS
 refine .qn z (.seq (.block (.g (.s (fa T.f51_0 z z z) z (.s (ld T.t3 hS z z z z z) z ?_)))))
 have ⟨y1,hy1,h⟩:=bnd h
 refine .c (.cO hS Tryz.func23 (aW hy1) z z ?_)
 intro W hS
 refine .q z (.nil ?_)
 refine .cs z h ?_ ?_ <;> intro h
 ·refine .g (.s (ld T.t51 hS z z z z z) z ?_)
  have ⟨y2,hy2,h⟩:=bnd h
  refine .c (.cO hS Tryz.func130 (dP hy2) z z ?_)
  intro W hS
  refine .q z (.cu 4 13 (y2 && (a0.Imm == 0)) hS ?_ ?_)
  ·refine .both (y2) (fun hb=>?_) (fun hb=>?_)
   ·have hg1:=hb
    exact .g hg1 (.s (fa T.f51_4 z z z) z (.g hg1 (.s (ld T.t3 hS z z z z z) z (.g hg1 (.q z (.s (pkt hg1 z z z) z (.nil (ck 4 hS z (bM hg1)))))))))
   exact .xx hb z (.xx hb z (.xx hb z (.s (pkf hb z z z) z (.nil (ck 4 hS z (bN hb))))))
  intro W hS
  cases h
  exact .qn z (.ret (ac (vs:=[_]) () (rt z rn) z (hS.to [])))
 refine .g (.s (fa T.f51_0 z z z) z (.s (ld T.t3 hS z z z z z) z ?_))
 have ⟨y3,hy3,h⟩:=bnd h
 refine .c (.cO hS Tryz.func23 (aW hy3) z z ?_)
 intro W hS
 refine .q z (.nil ?_)
 refine .cs z h ?_ ?_ <;> intro h
 ·refine .g (.s (ld T.t51 hS z z z z z) z ?_)
  have ⟨y4,hy4,h⟩:=bnd h
  refine .c (.cO hS Tryz.func130 (dP hy4) z z ?_)
  intro W hS
  refine .q z ?_
  have ⟨b1,hb1,h⟩:=bnd h
  refine .cu 4 24 (b1) hS ?_ ?_
  ·refine .both (y4) (fun hb=>?_) (fun hb=>?_)
   ·have hg2:=hb
    have h:=aI hb hb1
    refine .g hg2 (.s (fa T.f51_4 z z z) z (.g hg2 (.s (ld T.t3 hS z z z z z) z ?_)))
    have ⟨y5,hy5,h⟩:=bnd h
    refine .g hg2 (.c (.cO hS Tryz.func23 (aW hy5) z z ?_))
    intro W hS
    refine .s (pkt hg2 z z z) z ?_
    cases h
    exact .nil (ck 4 hS)
   refine .xx hb z (.xx hb z (.xx hb z ?_))
   cases aJ hb hb1
   exact .s (pkf hb z z z) z (.nil (ck 4 hS))
  intro W hS
  obtain rfl:=o9 h
  exact .qn z (.ret (ac (vs:=[_]) () (rt z rn) z (hS.to [])))
 refine .g (.s (fa T.f51_0 z z z) z (.s (ld T.t3 hS z z z z z) z (.q z (.q z (.nil ?_)))))
 refine .cs z h ?_ ?_ <;> intro h
 ·refine .g (.s (ld T.t51 hS z z z z z) z ?_)
  have ⟨y6,hy6,h⟩:=bnd h
  refine .c (.cO hS Tryz.func130 (dP hy6) z z ?_)
  intro W hS
  refine .q z ?_
  have ⟨b2,hb2,h⟩:=bnd h
  refine .cu 4 35 (b2) hS ?_ ?_
  ·refine .both (y6) (fun hb=>?_) (fun hb=>?_)
   ·have hg3:=hb
    have h:=aI hb hb2
    refine .g hg3 (.s (fa T.f51_4 z z z) z (.g hg3 (.s (ld T.t3 hS z z z z z) z ?_)))
    have ⟨y7,hy7,h⟩:=bnd h
    refine .g hg3 (.c (.cO hS Tryz.func23 (aW hy7) z z ?_))
    intro W hS
    refine .s (pkt hg3 z z z) z ?_
    cases h
    exact .nil (ck 4 hS)
   refine .xx hb z (.xx hb z (.xx hb z ?_))
   cases aJ hb hb2
   exact .s (pkf hb z z z) z (.nil (ck 4 hS))
  intro W hS
  obtain rfl:=o9 h
  exact .qn z (.ret (ac (vs:=[_]) () (rt z rn) z (hS.to [])))
 refine .g (.s (fa T.f51_0 z z z) z (.s (ld T.t3 hS z z z z z) z (.q z (.q z (.cu 4 44 ((a0.Op == 17) || (a0.Op == 18)) hS ?_ ?_)))))
 ·refine .both (a0.Op == 17) (fun hb=>?_) (fun hb=>?_)
  ·exact .xx hb z (.xx hb z (.xx hb z (.s (pkt hb z z z) z (.nil (ck 4 hS z (gn hb))))))
  have hg4:=hb
  exact .g hg4 (.s (fa T.f51_0 z z z) z (.g hg4 (.s (ld T.t3 hS z z z z z) z (.g hg4 (.q z (.s (pkf hg4 z z z) z (.nil (ck 4 hS z (go hg4)))))))))
 intro W hS
 refine .q z (.nil ?_)
 refine .cs z h ?_ ?_ <;> intro h
 ·refine .g (.s (ld T.t51 hS z z z z z) z ?_)
  have ⟨y8,hy8,h⟩:=bnd h
  refine .c (.cO hS Tryz.func130 (dP hy8) z z ?_)
  intro W hS
  refine .q z ?_
  have ⟨b3,hb3,h⟩:=bnd h
  refine .cu 4 51 (b3) hS ?_ ?_
  ·refine .both (y8) (fun hb=>?_) (fun hb=>?_)
   ·have hg5:=hb
    have h:=aI hb hb3
    refine .g hg5 (.s (fa T.f51_4 z z z) z (.g hg5 (.s (ld T.t3 hS z z z z z) z ?_)))
    have ⟨y9,hy9,h⟩:=bnd h
    refine .g hg5 (.c (.cO hS Tryz.func131 (nD hy9) z z ?_))
    intro W hS
    refine .s (pkt hg5 z z z) z ?_
    cases h
    exact .nil (ck 4 hS)
   refine .xx hb z (.xx hb z (.xx hb z ?_))
   cases aJ hb hb3
   exact .s (pkf hb z z z) z (.nil (ck 4 hS))
  intro W hS
  obtain rfl:=o9 h
  exact .qn z (.ret (ac (vs:=[_]) () (rt z rn) z (hS.to [])))
 refine .g (.s (fa T.f51_0 z z z) z (.s (ld T.t3 hS z z z z z) z (.q z (.q z (.nil ?_)))))
 refine .cs z h ?_ ?_ <;> intro h
 ·refine .g (.s (ld T.t51 hS z z z z z) z ?_)
  have ⟨y10,hy10,h⟩:=bnd h
  refine .c (.cO hS Tryz.func130 (dP hy10) z z ?_)
  intro W hS
  refine .q z ?_
  have ⟨b4,hb4,h⟩:=bnd h
  refine .cu 4 62 (b4) hS ?_ ?_
  ·refine .both (y10) (fun hb=>?_) (fun hb=>?_)
   ·have hg6:=hb
    have h:=aI hb hb4
    refine .g hg6 (.s (fa T.f51_4 z z z) z (.g hg6 (.s (ld T.t3 hS z z z z z) z ?_)))
    have ⟨y11,hy11,h⟩:=bnd h
    refine .g hg6 (.c (.cO hS Tryz.func23 (aW hy11) z z ?_))
    intro W hS
    refine .s (pkt hg6 z z z) z ?_
    cases h
    exact .nil (ck 4 hS)
   refine .xx hb z (.xx hb z (.xx hb z ?_))
   cases aJ hb hb4
   exact .s (pkf hb z z z) z (.nil (ck 4 hS))
  intro W hS
  obtain rfl:=o9 h
  exact .qn z (.ret (ac (vs:=[_]) () (rt z rn) z (hS.to [])))
 refine .g (.s (fa T.f51_0 z z z) z (.s (ld T.t3 hS z z z z z) z (.q z (.q z (.nil ?_)))))
 refine .cs z h ?_ ?_ <;> intro h
 ·refine .g (.s (ld T.t51 hS z z z z z) z ?_)
  have ⟨y12,hy12,h⟩:=bnd h
  refine .c (.cO hS Tryz.func130 (dP hy12) z z ?_)
  intro W hS
  refine .q z ?_
  have ⟨b5,hb5,h⟩:=bnd h
  refine .cu 4 73 (b5) hS ?_ ?_
  ·refine .both (y12) (fun hb=>?_) (fun hb=>?_)
   ·have hg7:=hb
    have h:=aI hb hb5
    refine .g hg7 (.s (fa T.f51_4 z z z) z (.g hg7 (.s (ld T.t3 hS z z z z z) z ?_)))
    have ⟨y13,hy13,h⟩:=bnd h
    refine .g hg7 (.c (.cO hS Tryz.func131 (nD hy13) z z ?_))
    intro W hS
    refine .s (pkt hg7 z z z) z ?_
    cases h
    exact .nil (ck 4 hS)
   refine .xx hb z (.xx hb z (.xx hb z ?_))
   cases aJ hb hb5
   exact .s (pkf hb z z z) z (.nil (ck 4 hS))
  intro W hS
  obtain rfl:=o9 h
  exact .qn z (.ret (ac (vs:=[_]) () (rt z rn) z (hS.to [])))
 refine .skip (.g (.s (fa T.f51_0 z z z) z (.s (ld T.t3 hS z z z z z) z (.q z (.q z ?_)))))
 have ⟨b6,hb6,h⟩:=bnd h
 refine .cu 3 80 (b6) hS ?_ ?_
 ·refine .both (a0.Op == 21) (fun hb=>?_) (fun hb=>?_)
  ·have hg8:=hb
   have h:=aI hb hb6
   refine .g hg8 (.s (ld T.t51 hS z z z z z) z ?_)
   have ⟨y14,hy14,h⟩:=bnd h
   refine .g hg8 (.c (.cO hS Tryz.func130 (dP hy14) z z ?_))
   intro W hS
   refine .s (pkt hg8 z z z) z ?_
   cases h
   exact .nil (ck 3 hS)
  refine .xx hb z (.xx hb z ?_)
  cases aJ hb hb6
  exact .s (pkf hb z z z) z (.nil (ck 3 hS))
 intro W hS
 refine .q z (.cu 4 85 (b6 && (a0.Imm == 0)) hS ?_ ?_)
 ·refine .both (b6) (fun hb=>?_) (fun hb=>?_)
  ·have hg9:=hb
   exact .g hg9 (.s (fa T.f51_4 z z z) z (.g hg9 (.s (ld T.t3 hS z z z z z) z (.g hg9 (.q z (.s (pkt hg9 z z z) z (.nil (ck 4 hS z (bM hg9)))))))))
  exact .xx hb z (.xx hb z (.xx hb z (.s (pkf hb z z z) z (.nil (ck 4 hS z (bN hb))))))
 intro W hS
 cases h
 exact .qn z (.ret (ac (vs:=[_]) () (rt z rn) z (hS.to [])))
theorem ke {a0 : Int} {a1 : Int} {w : World} {r : Int} (h : fF a0 a1 = some r) : Cl 133 #[vi a0,vi a1] w (RU w (.int .i64 r)):=by
 unfold fF at h
 refine au Tryz.func133 z z ?_
 have hS:=Sep.start w
 refine .g (.qn z (.seq (.g (.q z (.q z (.nil ?_))))))
 refine .cs z h ?_ ?_ <;> intro h
 ·cases h
  exact .g (.q z (.q z (.q z (.qn z (.ret (ac (vs:=[_]) () (rt z rn) z (hS.to [])))))))
 obtain rfl:=o9 h
 exact .skip (.g (.q z (.qn z (.ret (ac (vs:=[_]) () (rt z rn) z (hS.to []))))))
theorem a5 {a0 : Int} {a1 : Int} {w : World} {r : Int} (h : be a0 a1 = some r) : Cl 134 #[vi a0,vi a1] w (RU w (.int .i64 r)):=by
 unfold be at h
 refine au Tryz.func134 z z ?_
 have hS:=Sep.start w
 refine .g (.qn z (.g (.q z (.q z ?_))))
 have ⟨y1,hy1,h⟩:=bnd h
 refine .c (.cO hS Tryz.func153 (eA hy1) z z ?_)
 intro W hS
 cases h
 exact .q z (.qn z (.ret (ac (vs:=[_]) () (rt z rn) z (hS.to []))))
theorem q8 {a0 : Int} {w : World} {r : Int} (h : ga a0 = some r) : Cl 139 #[vi a0] w (RU w (.int .i64 r)):=by
 unfold ga at h
 refine au Tryz.func139 z z ?_
 have hS:=Sep.start w
 refine .g (.qn z (.g (.c (.liv [0,0,0,4,6,7,6,4,1,5,2,0,3,2,0,2,0,1,0,0,0] (D.int .i64) T.u23 T.t3 hS z z z z ?_ z (fun _=>z)))))
 intro v1 W hS
 refine .q z (.q z ?_)
 have ⟨x1,hx1,h⟩:=bnd h
 obtain rfl:=o9 h
 exact .s (ixv hS.lv hx1 T.u23 T.t3 z z z) z (.s (lde (RV.flat hS.lv hx1 z) T.t3 z z z z z) z (.qn z (.ret (ac (vs:=[_]) () (rt z rn) z (hS.to [])))))
theorem kf {a0 : Instr} {a1 : Int} {w : World} {r : Int} (h : fG a0 a1 = some r) : Cl 135 #[.agg #[vi a0.Op,vi a0.Rd,vi a0.Rs,vi a0.Rt,vi a0.Imm],vi a1] w (RU w (.int .i64 r)):=by
 unfold fG at h
 refine au Tryz.func135 z z ?_
 have hS:=Sep.start w
 refine .g (.c (.box hS z z ?_))
 intro g1 W hS
 refine .qn z (.seq (.rk 11 hS [0] T.mix ?_))
 intro W hS
 have hT:=hS.to [0]
 refine .ts' 0 z (fun W hT=>fa T.f51_2 z z z) hT z (.ts' 1 z (fun W hT=>ld T.t3 hT z z z z z) hT z (.ts' 3 z (fun W hT=>fa T.f51_0 z z z) hT z (.ts' 4 z (fun W hT=>ld T.t3 hT z z z z z) hT z (.tp' 8 z z hT ?_))))
 have ⟨y1,hy1,h⟩:=bnd h
 refine .by1 2 z (.cO hS Tryz.func134 (a5 hy1) z z ?_)
 intro W hS
 have hT:=hS.to [0]
 refine ⟨fun _=>hT,?_⟩
 have ⟨y2,hy2,h⟩:=bnd h
 refine .by1 5 z (.cO hS Tryz.func139 (q8 hy2) z z ?_)
 intro W hS
 have hT:=hS.to [0]
 refine ⟨fun _=>hT,?_⟩
 have ⟨y3,hy3,h⟩:=bnd h
 refine .by1 6 z (.cO hS Tryz.func134 (a5 hy3) z z ?_)
 intro W hS
 have hT:=hS.to [0]
 refine ⟨fun _=>hT,?_⟩
 cases h
 exact .tp' 7 z z hT (.tp' 9 z z hT (.tp' 10 z z hT (.done (.ret (ac (vs:=[_]) () (rt z rn) z (hS.to []))))))
theorem md {a0 : Instr} {a1 : Int} {w : World} {r : Int} (h : gJ a0 a1 = some r) : Cl 132 #[.agg #[vi a0.Op,vi a0.Rd,vi a0.Rs,vi a0.Rt,vi a0.Imm],vi a1] w (RU w (.int .i64 r)):=by
 unfold gJ at h
 refine au Tryz.func132 z z ?_
 have hS:=Sep.start w
 refine .g (.c (.box hS z z ?_))
 intro g1 W hS
 refine .qn z (.seq (.rk 13 hS [0] T.mix ?_))
 intro W hS
 have hT:=hS.to [0]
 refine .ts' 0 z (fun W hT=>fa T.f51_4 z z z) hT z (.ts' 1 z (fun W hT=>ld T.t3 hT z z z z z) hT z (.ts' 4 z (fun W hT=>ld T.t51 hT z z z z z) hT z (.tp' 5 z z hT (.ts' 8 z (fun W hT=>fa T.f51_1 z z z) hT z (.ts' 9 z (fun W hT=>ld T.t3 hT z z z z z) hT z ?_)))))
 have ⟨y1,hy1,h⟩:=bnd h
 refine .by1 2 z (.cO hS Tryz.func133 (ke hy1) z z ?_)
 intro W hS
 have hT:=hS.to [0]
 refine ⟨fun _=>hT,?_⟩
 have ⟨y2,hy2,h⟩:=bnd h
 refine .by1 3 z (.cO hS Tryz.func134 (a5 hy2) z z ?_)
 intro W hS
 have hT:=hS.to [0]
 refine ⟨fun _=>hT,?_⟩
 have ⟨y3,hy3,h⟩:=bnd h
 refine .by1 6 z (.cO hS Tryz.func135 (kf hy3) z z ?_)
 intro W hS
 have hT:=hS.to [0]
 refine ⟨fun _=>hT,.tp' 7 z z hT ?_⟩
 have ⟨y4,hy4,h⟩:=bnd h
 refine .by1 10 z (.cO hS Tryz.func134 (a5 hy4) z z ?_)
 intro W hS
 have hT:=hS.to [0]
 refine ⟨fun _=>hT,?_⟩
 cases h
 exact .tp' 11 z z hT (.tp' 12 z z hT (.done (.ret (ac (vs:=[_]) () (rt z rn) z (hS.to [])))))
theorem pT {a0 : Instr} {w : World} {r : Int} (h : gK a0 = some r) : Cl 136 #[.agg #[vi a0.Op,vi a0.Rd,vi a0.Rs,vi a0.Rt,vi a0.Imm]] w (RU w (.int .i64 r)):=by
 unfold gK at h
 refine au Tryz.func136 z z ?_
 have hS:=Sep.start w
 refine .g (.c (.box hS z z ?_))
 intro g1 W hS
 refine .qn z (.g (.s (fa T.f51_4 z z z) z (.s (ld T.t3 hS z z z z z) z ?_)))
 have ⟨y1,hy1,h⟩:=bnd h
 refine .c (.cO hS Tryz.func133 (ke hy1) z z ?_)
 intro W hS
 refine .qn z (.seq (.rk 12 hS [0] T.mix ?_))
 intro W hS
 have hT:=hS.to [0]
 refine .tp' 0 z z hT (.tp' 3 z z hT (.ts' 7 z (fun W hT=>fa T.f51_3 z z z) hT z (.ts' 8 z (fun W hT=>ld T.t3 hT z z z z z) hT z ?_)))
 have ⟨y2,hy2,h⟩:=bnd h
 refine .by1 1 z (.cO hS Tryz.func127 (c7 hy2) z z ?_)
 intro W hS
 have hT:=hS.to [0]
 refine ⟨fun _=>hT,?_⟩
 have ⟨y3,hy3,h⟩:=bnd h
 refine .by1 2 z (.cO hS Tryz.func134 (a5 hy3) z z ?_)
 intro W hS
 have hT:=hS.to [0]
 refine ⟨fun _=>hT,?_⟩
 have ⟨y4,hy4,h⟩:=bnd h
 refine .by1 4 z (.cO hS Tryz.func127 (c7 hy4) z z ?_)
 intro W hS
 have hT:=hS.to [0]
 refine ⟨fun _=>hT,?_⟩
 have ⟨y5,hy5,h⟩:=bnd h
 refine .by1 5 z (.cO hS Tryz.func134 (a5 hy5) z z ?_)
 intro W hS
 have hT:=hS.to [0]
 refine ⟨fun _=>hT,.tp' 6 z z hT ?_⟩
 have ⟨y6,hy6,h⟩:=bnd h
 refine .by1 9 z (.cO hS Tryz.func134 (a5 hy6) z z ?_)
 intro W hS
 have hT:=hS.to [0]
 refine ⟨fun _=>hT,.tp' 10 z z hT (.tp' 11 z z hT (.done (.g (.q z (.s (ld T.t51 hS z z z z z) z ?_)))))⟩
 have ⟨y7,hy7,h⟩:=bnd h
 refine .c (.cO hS Tryz.func135 (kf hy7) z z ?_)
 intro W hS
 refine .q z (.q z ?_)
 have ⟨y8,hy8,h⟩:=bnd h
 refine .c (.cO hS Tryz.func127 (c7 hy8) z z ?_)
 intro W hS
 have ⟨y9,hy9,h⟩:=bnd h
 refine .c (.cO hS Tryz.func134 (a5 hy9) z z ?_)
 intro W hS
 refine .q z (.q z ?_)
 have ⟨y10,hy10,h⟩:=bnd h
 refine .c (.cO hS Tryz.func127 (c7 hy10) z z ?_)
 intro W hS
 have ⟨y11,hy11,h⟩:=bnd h
 refine .c (.cO hS Tryz.func134 (a5 hy11) z z ?_)
 intro W hS
 cases h
 exact .q z (.qn z (.ret (ac (vs:=[_]) () (rt z rn) z (hS.to []))))
theorem r8 {a0 : Instr} {w : World} {r : Int} (h : jX a0 = some r) : Cl 137 #[.agg #[vi a0.Op,vi a0.Rd,vi a0.Rs,vi a0.Rt,vi a0.Imm]] w (RU w (.int .i64 r)):=by
 unfold jX at h
 refine au Tryz.func137 z z ?_
 have hS:=Sep.start w
 refine .g (.c (.box hS z z ?_))
 intro g1 W hS
 refine .qn z (.g (.s (fa T.f51_4 z z z) z (.s (ld T.t3 hS z z z z z) z ?_)))
 have ⟨y1,hy1,h⟩:=bnd h
 refine .c (.cO hS Tryz.func133 (ke hy1) z z ?_)
 intro W hS
 refine .qn z (.g (.q z ?_))
 have ⟨y2,hy2,h⟩:=bnd h
 refine .c (.cO hS Tryz.func127 (c7 hy2) z z ?_)
 intro W hS
 have ⟨y3,hy3,h⟩:=bnd h
 refine .c (.cO hS Tryz.func134 (a5 hy3) z z ?_)
 intro W hS
 refine .q z ?_
 have ⟨y4,hy4,h⟩:=bnd h
 refine .c (.cO hS Tryz.func127 (c7 hy4) z z ?_)
 intro W hS
 have ⟨y5,hy5,h⟩:=bnd h
 refine .c (.cO hS Tryz.func134 (a5 hy5) z z ?_)
 intro W hS
 refine .q z (.q z ?_)
 have ⟨y6,hy6,h⟩:=bnd h
 refine .c (.cO hS Tryz.func127 (c7 hy6) z z ?_)
 intro W hS
 have ⟨y7,hy7,h⟩:=bnd h
 refine .c (.cO hS Tryz.func134 (a5 hy7) z z ?_)
 intro W hS
 refine .q z (.qn z (.seq (.rk 11 hS [0] T.mix ?_)))
 intro W hS
 have hT:=hS.to [0]
 refine .tp' 0 z z hT (.tp' 1 z z hT (.ts' 5 z (fun W hT=>fa T.f51_1 z z z) hT z (.ts' 6 z (fun W hT=>ld T.t3 hT z z z z z) hT z ?_)))
 have ⟨y8,hy8,h⟩:=bnd h
 refine .by1 2 z (.cO hS Tryz.func127 (c7 hy8) z z ?_)
 intro W hS
 have hT:=hS.to [0]
 refine ⟨fun _=>hT,?_⟩
 have ⟨y9,hy9,h⟩:=bnd h
 refine .by1 3 z (.cO hS Tryz.func134 (a5 hy9) z z ?_)
 intro W hS
 have hT:=hS.to [0]
 refine ⟨fun _=>hT,.tp' 4 z z hT ?_⟩
 have ⟨y10,hy10,h⟩:=bnd h
 refine .by1 7 z (.cO hS Tryz.func134 (a5 hy10) z z ?_)
 intro W hS
 have hT:=hS.to [0]
 refine ⟨fun _=>hT,?_⟩
 cases h
 exact .tp' 8 z z hT (.tp' 9 z z hT (.tp' 10 z z hT (.done (.ret (ac (vs:=[_]) () (rt z rn) z (hS.to []))))))
theorem q9 {a0 : Int} {w : World} {r : Int} (h : gb a0 = some r) : Cl 138 #[vi a0] w (RU w (.int .i64 r)):=by
 unfold gb at h
 refine au Tryz.func138 z z ?_
 have hS:=Sep.start w
 refine .g (.qn z (.g (.c (.liv [0,32,1,1,1,0,0,0,0,32,0] (D.int .i64) T.u23 T.t3 hS z z z z ?_ z (fun _=>z)))))
 intro v1 W hS
 refine .q z (.q z ?_)
 have ⟨x1,hx1,h⟩:=bnd h
 obtain rfl:=o9 h
 exact .s (ixv hS.lv hx1 T.u23 T.t3 z z z) z (.s (lde (RV.flat hS.lv hx1 z) T.t3 z z z z z) z (.qn z (.ret (ac (vs:=[_]) () (rt z rn) z (hS.to [])))))
theorem pU {a0 : Instr} {w : World} {r : Int} (h : bG a0 = some r) : Cl 108 #[.agg #[vi a0.Op,vi a0.Rd,vi a0.Rs,vi a0.Rt,vi a0.Imm]] w (RU w (.int .i64 r)):=by
 unfold bG at h
 refine au Tryz.func108 z z ?_
 have hS:=Sep.start w
 refine .g (.c (.box hS z z ?_))
 intro g1 W hS
 refine .qn z (.seq (.g (.s (fa T.f51_0 z z z) z (.s (ld T.t3 hS z z z z z) z (.nil (.block ?_))))))
 have ⟨y1,hy1,h⟩:=bnd h
 refine .seq (CW.via (R':=fun x E' W'=>x = .normal ∧ aD E' [(1,pt g1),(5,vi a0.Op),(6,.bool y1)] ∧ Sep No w W' [.box g1 51 [vi a0.Op,vi a0.Rd,vi a0.Rs,vi a0.Rt,vi a0.Imm]]) ?_ ?_)
 ·have h:=hy1
  refine .g (.q z (.q z (.nil ?_)))
  refine .cs z h ?_ ?_ <;> intro h
  ·refine .skip ?_
   cases h
   exact ⟨z,sb z,hS.to [0]⟩
  refine .region (.q z (.q z (.nil ?_)))
  cases h
  exact ⟨z,sb z,hS.to [0]⟩
 intro x E W hJ
 obtain ⟨rfl,hE,hS⟩:=hJ
 refine ⟨_,hE.sub,?_⟩
 refine .cs z h ?_ ?_ <;> intro h
 ·refine .g (.s (ld T.t51 hS z z z z z) z ?_)
  have ⟨y2,hy2,h⟩:=bnd h
  refine .c (.cO hS Tryz.func132 (md hy2) z z ?_)
  intro W hS
  obtain rfl:=o9 h
  exact .qn z (.ret (ac (vs:=[_]) () (rt z rn) z (hS.to [])))
 refine .g (.q z (.q z (.nil ?_)))
 refine .cs z h ?_ ?_ <;> intro h
 ·refine .g (.s (ld T.t51 hS z z z z z) z ?_)
  have ⟨y3,hy3,h⟩:=bnd h
  refine .c (.cO hS Tryz.func132 (md hy3) z z ?_)
  intro W hS
  obtain rfl:=o9 h
  exact .qn z (.ret (ac (vs:=[_]) () (rt z rn) z (hS.to [])))
 refine .g (.q z (.q z (.nil ?_)))
 refine .cs z h ?_ ?_ <;> intro h
 ·refine .g (.s (ld T.t51 hS z z z z z) z ?_)
  have ⟨y4,hy4,h⟩:=bnd h
  refine .c (.cO hS Tryz.func132 (md hy4) z z ?_)
  intro W hS
  obtain rfl:=o9 h
  exact .qn z (.ret (ac (vs:=[_]) () (rt z rn) z (hS.to [])))
 refine .g (.q z (.q z (.nil ?_)))
 refine .cs z h ?_ ?_ <;> intro h
 ·refine .g (.s (fa T.f51_4 z z z) z (.s (ld T.t3 hS z z z z z) z ?_))
  have ⟨y5,hy5,h⟩:=bnd h
  refine .c (.cO hS Tryz.func133 (ke hy5) z z ?_)
  intro W hS
  refine .qn z (.seq (.rk 15 hS [0] T.mix ?_))
  intro W hS
  have hT:=hS.to [0]
  refine .tp' 0 z z hT (.ts' 3 z (fun W hT=>fa T.f51_3 z z z) hT z (.ts' 4 z (fun W hT=>ld T.t3 hT z z z z z) hT z (.ts' 7 z (fun W hT=>ld T.t51 hT z z z z z) hT z (.tp' 10 z z hT ?_))))
  have ⟨y6,hy6,h⟩:=bnd h
  refine .by1 1 z (.cO hS Tryz.func127 (c7 hy6) z z ?_)
  intro W hS
  have hT:=hS.to [0]
  refine ⟨fun _=>hT,?_⟩
  have ⟨y7,hy7,h⟩:=bnd h
  refine .by1 2 z (.cO hS Tryz.func134 (a5 hy7) z z ?_)
  intro W hS
  have hT:=hS.to [0]
  refine ⟨fun _=>hT,?_⟩
  have ⟨y8,hy8,h⟩:=bnd h
  refine .by1 5 z (.cO hS Tryz.func134 (a5 hy8) z z ?_)
  intro W hS
  have hT:=hS.to [0]
  refine ⟨fun _=>hT,.tp' 6 z z hT ?_⟩
  have ⟨y9,hy9,h⟩:=bnd h
  refine .by1 8 z (.cO hS Tryz.func135 (kf hy9) z z ?_)
  intro W hS
  have hT:=hS.to [0]
  refine ⟨fun _=>hT,.tp' 9 z z hT ?_⟩
  have ⟨y10,hy10,h⟩:=bnd h
  refine .by1 11 z (.cO hS Tryz.func127 (c7 hy10) z z ?_)
  intro W hS
  have hT:=hS.to [0]
  refine ⟨fun _=>hT,?_⟩
  have ⟨y11,hy11,h⟩:=bnd h
  refine .by1 12 z (.cO hS Tryz.func134 (a5 hy11) z z ?_)
  intro W hS
  have hT:=hS.to [0]
  refine ⟨fun _=>hT,?_⟩
  cases h
  exact .tp' 13 z z hT (.tp' 14 z z hT (.done (.ret (ac (vs:=[_]) () (rt z rn) z (hS.to [])))))
 have ⟨y12,hy12,h⟩:=bnd h
 refine .seq (CW.via (R':=fun x E' W'=>x = .normal ∧ aD E' [(1,pt g1),(5,vi a0.Op),(38,.bool y12)] ∧ Sep No w W' [.box g1 51 [vi a0.Op,vi a0.Rd,vi a0.Rs,vi a0.Rt,vi a0.Imm]]) ?_ ?_)
 ·have h:=hy12
  refine .g (.q z (.q z (.nil ?_)))
  refine .cs z h ?_ ?_ <;> intro h
  ·refine .skip ?_
   cases h
   exact ⟨z,sb z,hS.to [0]⟩
  refine .region (.q z (.q z (.nil ?_)))
  cases h
  exact ⟨z,sb z,hS.to [0]⟩
 intro x E W hJ
 obtain ⟨rfl,hE,hS⟩:=hJ
 refine ⟨_,hE.sub,?_⟩
 refine .cs z h ?_ ?_ <;> intro h
 ·refine .g (.s (ld T.t51 hS z z z z z) z ?_)
  have ⟨y13,hy13,h⟩:=bnd h
  refine .c (.cO hS Tryz.func136 (pT hy13) z z ?_)
  intro W hS
  obtain rfl:=o9 h
  exact .qn z (.ret (ac (vs:=[_]) () (rt z rn) z (hS.to [])))
 refine .g (.q z (.q z (.nil ?_)))
 refine .cs z h ?_ ?_ <;> intro h
 ·refine .seq (.rk 9 hS [0] T.mix ?_)
  intro W hS
  have hT:=hS.to [0]
  refine .ts' 0 z (fun W hT=>fa T.f51_4 z z z) hT z (.ts' 1 z (fun W hT=>ld T.t3 hT z z z z z) hT z (.ts' 3 z (fun W hT=>fa T.f51_1 z z z) hT z (.ts' 4 z (fun W hT=>ld T.t3 hT z z z z z) hT z ?_)))
  have ⟨y14,hy14,h⟩:=bnd h
  refine .by1 2 z (.cO hS Tryz.func134 (a5 hy14) z z ?_)
  intro W hS
  have hT:=hS.to [0]
  refine ⟨fun _=>hT,?_⟩
  have ⟨y15,hy15,h⟩:=bnd h
  refine .by1 5 z (.cO hS Tryz.func134 (a5 hy15) z z ?_)
  intro W hS
  have hT:=hS.to [0]
  refine ⟨fun _=>hT,?_⟩
  cases h
  exact .tp' 6 z z hT (.tp' 7 z z hT (.tp' 8 z z hT (.done (.ret (ac (vs:=[_]) () (rt z rn) z (hS.to []))))))
 refine .g (.q z (.q z (.nil ?_)))
 refine .cs z h ?_ ?_ <;> intro h
 ·refine .g (.s (ld T.t51 hS z z z z z) z ?_)
  have ⟨y16,hy16,h⟩:=bnd h
  refine .c (.cO hS Tryz.func137 (r8 hy16) z z ?_)
  intro W hS
  obtain rfl:=o9 h
  exact .qn z (.ret (ac (vs:=[_]) () (rt z rn) z (hS.to [])))
 refine .g (.q z (.q z (.nil ?_)))
 refine .cs z h ?_ ?_ <;> intro h
 ·cases h
  exact .g (.qn z (.ret (ac (vs:=[_]) () (rt z rn) z (hS.to []))))
 refine .skip (.seq (.rk 16 hS [0] T.mix ?_))
 intro W hS
 have hT:=hS.to [0]
 refine .ts' 0 z (fun W hT=>fa T.f51_0 z z z) hT z (.ts' 1 z (fun W hT=>ld T.t3 hT z z z z z) hT z (.ts' 4 z (fun W hT=>fa T.f51_3 z z z) hT z (.ts' 5 z (fun W hT=>ld T.t3 hT z z z z z) hT z (.ts' 8 z (fun W hT=>ld T.t51 hT z z z z z) hT z (.ts' 11 z (fun W hT=>fa T.f51_1 z z z) hT z (.ts' 12 z (fun W hT=>ld T.t3 hT z z z z z) hT z ?_))))))
 have ⟨y17,hy17,h⟩:=bnd h
 refine .by1 2 z (.cO hS Tryz.func138 (q9 hy17) z z ?_)
 intro W hS
 have hT:=hS.to [0]
 refine ⟨fun _=>hT,?_⟩
 have ⟨y18,hy18,h⟩:=bnd h
 refine .by1 3 z (.cO hS Tryz.func134 (a5 hy18) z z ?_)
 intro W hS
 have hT:=hS.to [0]
 refine ⟨fun _=>hT,?_⟩
 have ⟨y19,hy19,h⟩:=bnd h
 refine .by1 6 z (.cO hS Tryz.func134 (a5 hy19) z z ?_)
 intro W hS
 have hT:=hS.to [0]
 refine ⟨fun _=>hT,.tp' 7 z z hT ?_⟩
 have ⟨y20,hy20,h⟩:=bnd h
 refine .by1 9 z (.cO hS Tryz.func135 (kf hy20) z z ?_)
 intro W hS
 have hT:=hS.to [0]
 refine ⟨fun _=>hT,.tp' 10 z z hT ?_⟩
 have ⟨y21,hy21,h⟩:=bnd h
 refine .by1 13 z (.cO hS Tryz.func134 (a5 hy21) z z ?_)
 intro W hS
 have hT:=hS.to [0]
 refine ⟨fun _=>hT,?_⟩
 cases h
 exact .tp' 14 z z hT (.tp' 15 z z hT (.done (.ret (ac (vs:=[_]) () (rt z rn) z (hS.to [])))))
theorem oE {a0 : Instr} {w : World} {r : Int × Bool} (h : cD a0 = some r) : Cl 73 #[.agg #[vi a0.Op,vi a0.Rd,vi a0.Rs,vi a0.Rt,vi a0.Imm]] w (RU w (.tuple #[vi r.1,.bool r.2])):=by
 unfold cD at h
 refine au Tryz.func73 z z ?_
 have hS:=Sep.start w
 refine .g (.c (.box hS z z ?_))
 intro g1 W hS
 refine .q z (.qn z (.seq (.g (.s (ld T.t51 hS z z z z z) z ?_))))
 have ⟨y1,hy1,h⟩:=bnd h
 refine .c (.cO hS Tryz.func107 (pi hy1) z z ?_)
 intro W hS
 refine .q z (.nil ?_)
 refine .cs z h ?_ ?_ <;> intro h
 ·cases h
  exact .g (.q z (.qn z (.ret (ac (vs:=[_,_]) () (rt z (rt z rn)) z (hS.to [])))))
 refine .skip (.g (.s (ld T.t51 hS z z z z z) z ?_))
 have ⟨y2,hy2,h⟩:=bnd h
 refine .c (.cO hS Tryz.func108 (pU hy2) z z ?_)
 intro W hS
 cases h
 exact .q z (.qn z (.ret (ac (vs:=[_,_]) () (rt z (rt z rn)) z (hS.to []))))
def tI (w : World) (S : Nat → Prop) (v_0 : Hd) (v_1 : Hd) (a0 : List Int) (a1 : List Instr) (r : (List Int) × Bool) : Env → World → Prop:=Fin Tryz.prog Tryz.f43 S w (fun s : Hd=>.tuple #[(sv s),.bool r.2]) (fun s=>[ae (sv s) 3 1 (D.int .i64) r.1]) .ret
theorem r9 {a0 : List Int} {a1 : List Instr} {v_0 : Hd} {v_1 : Hd} {S : Nat → Prop} {w : World} {r : (List Int) × Bool} (h : jY a0 a1 = some r) (q_1 : RV w (Old S w) (sv v_1) 51 5 aG a1) (hO : bJ w [ae (sv v_0) 3 1 (D.int .i64) a0] S) (hlt : ∀ b,S b → b < w.heap.size) : Cl 43 #[(sv v_0),(sv v_1)] w (Ret S w (fun s : Hd=>.tuple #[(sv s),.bool r.2]) (fun s=>[ae (sv s) 3 1 (D.int .i64) r.1])):=by
 unfold jY at h
 refine au Tryz.func43 z z ?_
 have hS:=Sep.sm hO hlt
 refine .g (.q z (.qn z (.seq (.g (.qn z (.block ?_))))))
 have ⟨y1,hy1,h⟩:=bnd h
 refine .via (.iter (fun s1 E' W'=>∃ (v3 : Hd),aD E' [(0,(sv v3)),(1,(sv v_1)),(6,vi s1.2)] ∧ Sep S w W' [ae (sv v3) 3 1 (D.int .i64) s1.1]) (fun y2 x E' W'=>(match y2 with | .inl o1=>x = .ret ∧ tI w S v_0 v_1 a0 a1 o1 E' W' | .inr o2=>x = .exit 0 ∧ ∃ (v4 : Hd),aD E' [(0,(sv v4))] ∧ Sep S w W' [ae (sv v4) 3 1 (D.int .i64) o2])) hy1 ⟨v_0,sb rfl,hS.to [0] rfl⟩ ?_) ?_
 ·intro s1 y3 E W h hI
  obtain ⟨v2,hE,hS⟩:=hI
  refine CW.sub hE ?_
  unfold ew at h
  refine .seq (.g (.q z (.q z (.s (bw (hS.keep q_1) T.u35 z z) z (.q z (.nil ?_))))))
  refine .cs z h ?_ ?_ <;> intro h
  ·refine .skip (.seq (.block (.g (.q z (.q z ?_)))))
   have ⟨x1,hx1,h⟩:=bnd h
   refine .s (ixv (hS.keep q_1) hx1 T.u35 T.t51 z z z) z (.s (lde (RV.flat (hS.keep q_1) hx1 z) T.t51 z z z z z) z ?_)
   have ⟨y4,hy4,h⟩:=bnd h
   refine .c (.cO hS Tryz.func73 (oE hy4) z z ?_)
   intro W hS
   refine .q z (.q z (.q z (.q z (.qn z (.seq (.g (.q z (.q z (.nil ?_)))))))))
   refine .cs z h ?_ ?_ <;> intro h
   ·refine .g (.q z (.q z (.qn z (.ret ?_))))
    cases h
    exact ⟨by simp,z,ac (vs:=[_,_]) v2 (rt z (rt z rn)) z (hS.to [0])⟩
   refine .skip (.region (.q z (.q z ?_)))
   have ⟨y5,hy5,h⟩:=bnd h
   refine .c (.cO hS Tryz.func74 (eS hy5) z z ?_)
   intro W hS
   refine .c (.liv [y5] (D.int .i64) T.u23 T.t3 hS z z z z ?_ z (fun _=>z))
   intro v5 W hS
   have ⟨r1,hr1,h⟩:=bnd h
   have hT0:=hS.p1
   refine .c (.av hr1 hT0 hT0.p1.lv (fun _=>z) T.u23 T.t3 z z z ?_)
   intro v6 W hS
   refine .qn z (.region (.q z (.q z (.q z (.nil ?_)))))
   cases h
   exact ⟨z,v6,sb z,hS.to [0]⟩
  refine .exit ?_
  cases h
  exact ⟨by simp,z,v2,sb z,hS.to [0]⟩
 intro x E W hJ
 rcases y1 with o3 | o4
 ·obtain ⟨rfl,hF⟩:=hJ
  refine ⟨_,fun _ _ h=>h,?_⟩
  cases h
  exact hF
 obtain ⟨rfl,v7,hE,hS⟩:=hJ
 refine ⟨_,hE.sub,?_⟩
 cases h
 exact .g (.q z (.q z (.qn z (.ret (ac (vs:=[_,_]) v7 (rt z (rt z rn)) z (hS.to [0]))))))
theorem sa {a0 : List Instr} {v_0 : Hd} {w : World} {r : ah × Bool} (h : dW a0 = some r) (q_0 : RO w v_0 51 5 aG a0) : Cl 25 #[(sv v_0)] w (Ret No w (fun s : Hd × Hd=>.tuple #[.agg #[(sv s.1),vi r.1.Pc,(sv s.2)],.bool r.2]) (fun s=>[ae (sv s.1) 3 1 (D.int .i64) r.1.Regs,ae (sv s.2) 3 1 (D.int .i64) r.1.Mem])):=by
 unfold dW at h
 refine au Tryz.func25 z z ?_
 have hS:=Sep.start w
 refine .g (.c (.alloc T.t38 hS ?_))
 intro g1 W hS
 refine .qn z (.seq (.g (.q z (.s (bw (hS.keep q_0) T.u35 z z) z (.qn z (.cond z (fun hb=>?_) (fun hb=>?_)))))))
 ·have h:=aI hb h
  refine .g (.s (bs T.s38 z z) z (.c (.st T.t38 hS z z z ?_)))
  intro W hS
  refine .qn z (.ret ?_)
  have hS:=hS.nilv 3 1 (D.int .i64)
  have hS:=hS.nilv 3 1 (D.int .i64)
  cases h
  exact ac (vs:=[_,_]) (aN,aN) (rc hS.p2 T.t38 z (rt z rn) z z) z (hS.to [1,0])
 have h:=aJ hb h
 refine .skip (.g (.c (.liv [0] (D.int .i64) T.u23 T.t3 hS z z z z ?_ z (fun _=>z))))
 intro v1 W hS
 refine .q z ?_
 have ⟨y1,hy1,h⟩:=bnd h
 refine .c (.cS (L0:=[ae (sv v1) 3 1 (D.int .i64) [0]]) hS Tryz.func43 (fun S h1 h2 h3=>(r9 hy1 (hS.ks q_0 h1) h2 (zz h1))) z z ?_)
 rintro v2 W hS
 refine .q z (.q z (.q z (.q z (.qn z (.seq (.g (.q z (.q z (.nil ?_)))))))))
 refine .cs z h ?_ ?_ <;> intro h
 ·refine .g (.s (bs T.s38 z z) z (.c (.st T.t38 hS.p1 z z z ?_)))
  intro W hS
  refine .qn z (.ret ?_)
  have hS:=hS.nilv 3 1 (D.int .i64)
  have hS:=hS.nilv 3 1 (D.int .i64)
  cases h
  exact ac (vs:=[_,_]) (aN,aN) (rc hS.p2 T.t38 z (rt z rn) z z) z (hS.to [1,0])
 refine .skip (.seq (.region ?_))
 have ⟨r1,hr1,h⟩:=bnd h
 refine .c (.mkv 0 (D.int .i64) hr1 T.u23 T.t3 hS z z z z z (fun _=>z) ?_)
 intro v3 W hS
 refine .s (bs T.s38 z z) z (.c (.alloc T.t38 hS ?_))
 intro g2 W hS
 refine .c (.st T.t38 hS z z z ?_)
 intro W hS
 refine .nil (.g (.s (fa T.f38_0 z z z) z (.s (ld T.t23 hS z z z z z) z (.q z (.s (bw hS.p2.lv T.u23 z z) z (.q z ?_))))))
 have ⟨x1,hx1,h⟩:=bnd h
 refine .s (ixv hS.p1.lv hx1 T.u23 T.t3 z z z) z ?_
 have ⟨r2,hr2,h⟩:=bnd h
 refine .c (.sev hr2 hx1 hS.p1 T.t3 z z z z z z ?_)
 intro W hS
 refine .nil (.g (.q z ?_))
 have ⟨r3,hr3,h⟩:=bnd h
 refine .c (.appz 0 hr3 hS.p2 T.u23 T.u3 T.t3 z z z z ?_ (fun _=>z))
 intro v4 W hS
 refine .s (fa T.f38_2 z z z) z (.c (.st T.t23 hS.p2 z z z ?_))
 intro W hS
 refine .nil (.g (.s (ld T.t38 hS z z z z z) z (.c (.st T.t38 hS.p3 z z z ?_))))
 intro W hS
 cases h
 exact .qn z (.ret (ac (vs:=[_,_]) (v3,v4) (rc hS T.t38 z (rt z rn) z z) z (hS.to [3,2])))
def sd (w : World) (r : aE × Bool) : Env → World → Prop:=Fin Tryz.prog Tryz.f8 No w (fun s : Hd × Hd × Hd=>.tuple #[.agg #[(sv s.1),(sv s.2.1),vi r.1.Turn,vi r.1.Idle,(sv s.2.2)],.bool r.2]) (fun s=>[ae (sv s.1) 38 3 ao r.1.Harts,ae (sv s.2.1) 44 2 bi r.1.Boxes,ae (sv s.2.2) 3 1 (D.int .i64) r.1.Out]) .ret
theorem ra {a0 : List Int} {a1 : List (List Instr)} {v_0 : Hd} {v_1 : Hd} {w : World} {r : aE × Bool} (h : i6 a0 a1 = some r) (q_0 : RO w v_0 3 1 (D.int .i64) a0) (q_1 : RO w v_1 35 1 (fun (l : List Instr)=>D.row 51 5 (l.map aG)) a1) : Cl 8 #[(sv v_0),(sv v_1)] w (Ret No w (fun s : Hd × Hd × Hd=>.tuple #[.agg #[(sv s.1),(sv s.2.1),vi r.1.Turn,vi r.1.Idle,(sv s.2.2)],.bool r.2]) (fun s=>[ae (sv s.1) 38 3 ao r.1.Harts,ae (sv s.2.1) 44 2 bi r.1.Boxes,ae (sv s.2.2) 3 1 (D.int .i64) r.1.Out])):=by
 unfold i6 at h
 refine au Tryz.func8 z z ?_
 have hS:=Sep.start w
 refine .g (.c (.alloc T.t30 hS ?_))
 intro g1 W hS
 refine .qn z (.seq (.g (.q z ?_)))
 have ⟨y1,hy1,h⟩:=bnd h
 refine .c (.cO hS Tryz.func22 (qY hy1 (hS.keep q_0)) z z ?_)
 intro W hS
 refine .q z (.q z ?_)
 have ⟨b1,hb1,h⟩:=bnd h
 refine .cu 5 18 (b1) hS ?_ ?_
 ·refine .both (!y1) (fun hb=>?_) (fun hb=>?_)
  ·refine .xx hb z (.xx hb z (.xx hb z (.xx hb z ?_)))
   cases aI hb hb1
   exact .s (pkt hb z z z) z (.nil (ck 5 hS))
  have hg1:=hb
  have h:=aJ hb hb1
  refine .g hg1 (.q z (.g hg1 (.s (bw (hS.keep q_1) T.u24 z z) z ?_)))
  have ⟨y2,hy2,h⟩:=bnd h
  refine .g hg1 (.c (.cO hS Tryz.func23 (aW hy2) z z ?_))
  intro W hS
  refine .g hg1 (.q z (.s (pkf hg1 z z z) z ?_))
  cases h
  exact .nil (ck 5 hS)
 intro W hS
 refine .nil ?_
 refine .cs z h ?_ ?_ <;> intro h
 ·refine .g (.s (bs T.s30 z z) z (.c (.st T.t30 hS z z z ?_)))
  intro W hS
  refine .qn z (.ret ?_)
  have hS:=hS.nilv 38 3 ao
  have hS:=hS.nilv 44 2 bi
  have hS:=hS.nilv 3 1 (D.int .i64)
  cases h
  exact ac (vs:=[_,_]) (aN,aN,aN) (rc hS.p3 T.t30 z (rt z rn) z z) z (hS.to [2,1,0])
 refine .skip (.g (.c (.lg (L1:=[]) [] ao T.u27 T.t38 (hS.to [0]) z z z (.nil) ?_ z (fun _=>z))))
 intro v1 W hS
 refine .q z ?_
 have ⟨y3,hy3,h⟩:=bnd h
 refine .c (.cV hS Tryz.func24 (qZ hy3 (hS.keep q_0)) z z ?_)
 intro v2 W hS
 refine .c (.liv [] (D.int .i64) T.u23 T.t3 hS z z z z ?_ z (fun _=>z))
 intro v3 W hS
 refine .s (bs T.s30 z z) z (.c (.alloc T.t30 hS ?_))
 intro g2 W hS
 refine .c (.st T.t30 hS z z z ?_)
 intro W hS
 refine .nil (.seq (.g (.qn z (.block ?_))))
 have ⟨y4,hy4,h⟩:=bnd h
 refine .via (.iter (fun s1 E' W'=>∃ (v6 : Hd),aD E' [(1,(sv v_1)),(4,pt g1),(6,pt g2),(7,vi s1.1)] ∧ Sep No w W' [.box g2 30 [(sv v6),(sv v2),vi 0,vi 0,(sv v3)],ae (sv v3) 3 1 (D.int .i64) [],ae (sv v2) 44 2 bi y3,.box g1 30 [(sv aN),(sv aN),vi 0,vi 0,(sv aN)],ae (sv v6) 38 3 ao s1.2]) (fun y5 x E' W'=>(match y5 with | .inl o1=>x = .ret ∧ sd w o1 E' W' | .inr o2=>x = .exit 0 ∧ ∃ (v7 : Hd),aD E' [(4,pt g1),(6,pt g2)] ∧ Sep No w W' [.box g2 30 [(sv v7),(sv v2),vi 0,vi 0,(sv v3)],ae (sv v3) 3 1 (D.int .i64) [],ae (sv v2) 44 2 bi y3,.box g1 30 [(sv aN),(sv aN),vi 0,vi 0,(sv aN)],ae (sv v7) 38 3 ao o2])) hy4 ⟨v1,sb rfl,hS.to [0,0,0,1,0] rfl⟩ ?_) ?_
 ·intro s1 y6 E W h hI
  obtain ⟨v5,hE,hS⟩:=hI
  refine CW.sub hE ?_
  unfold fq at h
  refine .seq (.g (.q z (.q z (.s (bw (hS.keep q_1) T.u24 z z) z (.q z (.nil ?_))))))
  refine .cs z h ?_ ?_ <;> intro h
  ·refine .skip (.seq (.block (.g (.q z (.q z ?_)))))
   have ⟨x1,hx1,h⟩:=bnd h
   obtain ⟨k1,hd,hck1⟩:=RV.el2 q_1 hx1
   obtain ⟨v8,k1,rfl,q5,hd1⟩:=ef q_1 hd
   obtain rfl:=m8 q_1 hd1
   refine .s (ixv (hS.keep q_1) hx1 T.u24 T.t35 z z z) z (.s (lde (hck1 _ hS.agree) T.t35 z z z z z) z ?_)
   have ⟨y7,hy7,h⟩:=bnd h
   refine .c (.call hS Tryz.func25 (sa hy7 (hS.keep (q5 _ q_1))) z z ?_)
   rintro ⟨v9,v10⟩ W hS
   refine .q z (.q z (.q z (.c (.alloc T.t38 hS ?_))))
   intro g3 W hS
   refine .c (.st T.t38 hS z z z ?_)
   intro W hS
   refine .qn z (.seq (.g (.q z (.q z (.nil ?_)))))
   refine .cs z h ?_ ?_ <;> intro h
   ·refine .g (.s (bs T.s30 z z) z (.c (.st T.t30 hS.p6 z z z ?_)))
    intro W hS
    refine .qn z (.ret ?_)
    have hS:=hS.nilv 38 3 ao
    have hS:=hS.nilv 44 2 bi
    have hS:=hS.nilv 3 1 (D.int .i64)
    cases h
    exact ⟨by simp,z,ac (vs:=[_,_]) (aN,aN,aN) (rc hS.p3 T.t30 z (rt z rn) z z) z (hS.to [2,1,0])⟩
   refine .skip (.region (.s (fa T.f30_0 z z z) z (.s (ld T.t27 hS.p3 z z z z z) z (.s (ld T.t38 hS z z z z z) z (.c (.lg (L1:=[ae (sv v9) 3 1 (D.int .i64) y7.1.Regs,ae (sv v10) 3 1 (D.int .i64) y7.1.Mem]) [(ah.mk y7.1.Regs y7.1.Pc y7.1.Mem)] ao T.u27 T.t38 (hS.to [1,1,0,0,0,0,0,0]) z z z (.agg (.row (.flat (c1:=[vi y7.1.Pc]) z (.row .nil)))) ?_ z (fun _=>z)))))))
   intro v11 W hS
   have ⟨r1,hr1,h⟩:=bnd h
   refine .c (.appv hr1 (hS.to [6,0,0,0,0,0,0]) T.u27 T.t38 z z z ?_)
   intro v12 W hS
   refine .s (fa T.f30_0 z z z) z (.c (.st T.t27 hS.p2 z z z ?_))
   intro W hS
   refine .nil (.region (.q z (.q z (.q z (.nil ?_)))))
   cases h
   exact ⟨z,v12,sb z,hS.to [0,2,2,2,0]⟩
  refine .exit ?_
  cases h
  exact ⟨by simp,z,v5,sb z,hS.to [0,0,0,0,0]⟩
 intro x E W hJ
 rcases y4 with o3 | o4
 ·obtain ⟨rfl,hF⟩:=hJ
  refine ⟨_,fun _ _ h=>h,?_⟩
  cases h
  exact hF
 obtain ⟨rfl,v13,hE,hS⟩:=hJ
 refine ⟨_,hE.sub,?_⟩
 refine .g (.s (ld T.t30 hS z z z z z) z (.c (.st T.t30 hS.p3 z z z ?_)))
 intro W hS
 cases h
 exact .qn z (.ret (ac (vs:=[_,_]) (v13,v2,v3) (rc hS T.t30 z (rt z rn) z z) z (hS.to [4,3,2])))
def sg (w : World) (r : Bool) : Env → World → Prop:=Fin Tryz.prog Tryz.f11 No w (fun s : Unit=>.bool r) (fun s=>[]) .ret
theorem fC {a0 : List Int} {a1 : List Int} {v_0 : Hd} {v_1 : Hd} {w : World} {r : Bool} (h : dz a0 a1 = some r) (q_0 : RO w v_0 3 1 (D.int .i64) a0) (q_1 : RO w v_1 3 1 (D.int .i64) a1) : Cl 11 #[(sv v_0),(sv v_1)] w (RU w (.bool r)):=by
 unfold dz at h
 refine au Tryz.func11 z z ?_
 have hS:=Sep.start w
 refine .g (.qn z (.seq (.g (.q z (.s (bw (hS.keep q_0) T.u23 z z) z (.q z (.s (bw (hS.keep q_1) T.u23 z z) z (.q z (.nil ?_)))))))))
 refine .cs z h ?_ ?_ <;> intro h
 ·obtain rfl:=o9 h
  exact .g (.qn z (.ret (ac (vs:=[_]) () (rt z rn) z (hS.to []))))
 refine .skip (.seq (.g (.qn z (.block ?_))))
 have ⟨y1,hy1,h⟩:=bnd h
 refine .via (.iter (fun s1 E' W'=>aD E' [(0,(sv v_0)),(1,(sv v_1)),(5,vi s1)] ∧ Sep No w W' []) (fun y2 x E' W'=>(match y2 with | .inl o1=>x = .ret ∧ sg w o1 E' W' | .inr o2=>x = .exit 0 ∧ aD E' [] ∧ Sep No w W' [])) hy1 ⟨sb rfl,hS.to [] rfl⟩ ?_) ?_
 ·intro s1 y3 E W h hI
  obtain ⟨hE,hS⟩:=hI
  refine CW.sub hE ?_
  unfold fr at h
  refine .seq (.g (.q z (.q z (.s (bw (hS.keep q_0) T.u23 z z) z (.q z (.nil ?_))))))
  refine .cs z h ?_ ?_ <;> intro h
  ·refine .skip (.seq (.block (.seq (.rk 9 hS [] T.mix ?_))))
   intro W hS
   have hT:=hS.to []
   refine .tp' 0 z z hT (.tp' 1 z z hT ?_)
   have ⟨x1,hx1,h⟩:=bnd h
   refine .ts' 2 z (fun W hT=>ixv (hS.keep q_0) hx1 T.u23 T.t3 z z z) hT z (.ts' 3 z (fun W hT=>lde (RV.flat (hT.keep q_0) hx1 z) T.t3 z z z z z) hT z (.tp' 4 z z hT (.tp' 5 z z hT ?_)))
   have ⟨x2,hx2,h⟩:=bnd h
   refine .ts' 6 z (fun W hT=>ixv (hS.keep q_1) hx2 T.u23 T.t3 z z z) hT z (.ts' 7 z (fun W hT=>lde (RV.flat (hT.keep q_1) hx2 z) T.t3 z z z z z) hT z (.tp' 8 z z hT (.done ?_)))
   refine .cs z h ?_ ?_ <;> intro h
   ·refine .g (.qn z (.ret ?_))
    cases h
    exact ⟨by simp,z,ac (vs:=[_]) () (rt z rn) z (hS.to [])⟩
   refine .skip (.region (.q z (.q z (.q z (.nil ?_)))))
   cases h
   exact ⟨z,sb z,hS.to []⟩
  refine .exit ?_
  cases h
  exact ⟨by simp,z,sb z,hS.to []⟩
 intro x E W hJ
 rcases y1 with o3 | o4
 ·obtain ⟨rfl,hF⟩:=hJ
  refine ⟨_,fun _ _ h=>h,?_⟩
  cases h
  exact hF
 obtain ⟨rfl,hE,hS⟩:=hJ
 refine ⟨_,hE.sub,?_⟩
 obtain rfl:=o9 h
 exact .g (.qn z (.ret (ac (vs:=[_]) () (rt z rn) z (hS.to []))))
theorem oG {a0 : ah} {a1 : ah} {aB : Hd} {aX : Hd} {vO : Hd} {xt : Hd} {w : World} {r : Bool} (h : ft a0 a1 = some r) (gQ : RO w aB 3 1 (D.int .i64) a0.Regs) (ir : RO w aX 3 1 (D.int .i64) a0.Mem) (zF : RO w vO 3 1 (D.int .i64) a1.Regs) (AG : RO w xt 3 1 (D.int .i64) a1.Mem) : Cl 26 #[.agg #[(sv aB),vi a0.Pc,(sv aX)],.agg #[(sv vO),vi a1.Pc,(sv xt)]] w (RU w (.bool r)):=by
 unfold ft at h
 refine au Tryz.func26 z z ?_
 have hS:=Sep.start w
 refine .g (.c (.box hS z z ?_))
 intro g1 W hS
 refine .c (.box hS z z ?_)
 intro g2 W hS
 refine .qn z (.g (.s (fa T.f38_1 z z z) z (.s (ld T.t3 hS.p1 z z z z z) z (.s (fa T.f38_1 z z z) z (.s (ld T.t3 hS z z z z z) z (.q z (.q z ?_)))))))
 have ⟨b1,hb1,h⟩:=bnd h
 refine .cu 6 16 (b1) hS ?_ ?_
 ·refine .both (a0.Pc == a1.Pc) (fun hb=>?_) (fun hb=>?_)
  ·have hg1:=hb
   have h:=aI hb hb1
   refine .g hg1 (.s (fa T.f38_0 z z z) z (.g hg1 (.s (ld T.t23 hS.p1 z z z z z) z (.g hg1 (.s (fa T.f38_0 z z z) z (.g hg1 (.s (ld T.t23 hS z z z z z) z ?_)))))))
   have ⟨y1,hy1,h⟩:=bnd h
   refine .g hg1 (.c (.cO hS Tryz.func11 (fC hy1 (hS.keep gQ) (hS.keep zF)) z z ?_))
   intro W hS
   refine .s (pkt hg1 z z z) z ?_
   cases h
   exact .nil (ck 6 hS)
  refine .xx hb z (.xx hb z (.xx hb z (.xx hb z (.xx hb z ?_))))
  cases aJ hb hb1
  exact .s (pkf hb z z z) z (.nil (ck 6 hS))
 intro W hS
 refine .q z ?_
 have ⟨b2,hb2,h⟩:=bnd h
 refine .cu 6 23 (b2) hS ?_ ?_
 ·refine .both (b1) (fun hb=>?_) (fun hb=>?_)
  ·have hg2:=hb
   have h:=aI hb hb2
   refine .g hg2 (.s (fa T.f38_2 z z z) z (.g hg2 (.s (ld T.t23 hS.p1 z z z z z) z (.g hg2 (.s (fa T.f38_2 z z z) z (.g hg2 (.s (ld T.t23 hS z z z z z) z ?_)))))))
   have ⟨y2,hy2,h⟩:=bnd h
   refine .g hg2 (.c (.cO hS Tryz.func11 (fC hy2 (hS.keep ir) (hS.keep AG)) z z ?_))
   intro W hS
   refine .s (pkt hg2 z z z) z ?_
   cases h
   exact .nil (ck 6 hS)
  refine .xx hb z (.xx hb z (.xx hb z (.xx hb z (.xx hb z ?_))))
  cases aJ hb hb2
  exact .s (pkf hb z z z) z (.nil (ck 6 hS))
 intro W hS
 obtain rfl:=o9 h
 exact .qn z (.ret (ac (vs:=[_]) () (rt z rn) z (hS.to [])))
theorem sh {a0 : Box} {a1 : Box} {dG : Hd} {un : Hd} {w : World} {r : Bool} (h : jZ a0 a1 = some r) (ox : RO w dG 3 1 (D.int .i64) a0.Items) (ye : RO w un 3 1 (D.int .i64) a1.Items) : Cl 44 #[.agg #[vi a0.Room,(sv dG)],.agg #[vi a1.Room,(sv un)]] w (RU w (.bool r)):=by
 unfold jZ at h
 refine au Tryz.func44 z z ?_
 have hS:=Sep.start w
 refine .g (.c (.box hS z z ?_))
 intro g1 W hS
 refine .c (.box hS z z ?_)
 intro g2 W hS
 refine .qn z (.g (.s (fa T.f44_0 z z z) z (.s (ld T.t3 hS.p1 z z z z z) z (.s (fa T.f44_0 z z z) z (.s (ld T.t3 hS z z z z z) z (.q z (.q z ?_)))))))
 have ⟨b1,hb1,h⟩:=bnd h
 refine .cu 6 16 (b1) hS ?_ ?_
 ·refine .both (a0.Room == a1.Room) (fun hb=>?_) (fun hb=>?_)
  ·have hg1:=hb
   have h:=aI hb hb1
   refine .g hg1 (.s (fa T.f44_1 z z z) z (.g hg1 (.s (ld T.t23 hS.p1 z z z z z) z (.g hg1 (.s (fa T.f44_1 z z z) z (.g hg1 (.s (ld T.t23 hS z z z z z) z ?_)))))))
   have ⟨y1,hy1,h⟩:=bnd h
   refine .g hg1 (.c (.cO hS Tryz.func11 (fC hy1 (hS.keep ox) (hS.keep ye)) z z ?_))
   intro W hS
   refine .s (pkt hg1 z z z) z ?_
   cases h
   exact .nil (ck 6 hS)
  refine .xx hb z (.xx hb z (.xx hb z (.xx hb z (.xx hb z ?_))))
  cases aJ hb hb1
  exact .s (pkf hb z z z) z (.nil (ck 6 hS))
 intro W hS
 obtain rfl:=o9 h
 exact .qn z (.ret (ac (vs:=[_]) () (rt z rn) z (hS.to [])))
def rb (w : World) (r : Bool) : Env → World → Prop:=Fin Tryz.prog Tryz.f27 No w (fun s : Unit=>.bool r) (fun s=>[]) .ret
theorem pV {a0 : List Box} {a1 : List Box} {v_0 : Hd} {v_1 : Hd} {w : World} {r : Bool} (h : gL a0 a1 = some r) (q_0 : RO w v_0 44 2 bi a0) (q_1 : RO w v_1 44 2 bi a1) : Cl 27 #[(sv v_0),(sv v_1)] w (RU w (.bool r)):=by
 unfold gL at h
 refine au Tryz.func27 z z ?_
 have hS:=Sep.start w
 refine .g (.qn z (.seq (.g (.q z (.s (bw (hS.keep q_0) T.u28 z z) z (.q z (.s (bw (hS.keep q_1) T.u28 z z) z (.q z (.nil ?_)))))))))
 refine .cs z h ?_ ?_ <;> intro h
 ·obtain rfl:=o9 h
  exact .g (.qn z (.ret (ac (vs:=[_]) () (rt z rn) z (hS.to []))))
 refine .skip (.seq (.g (.qn z (.block ?_))))
 have ⟨y1,hy1,h⟩:=bnd h
 refine .via (.iter (fun s1 E' W'=>aD E' [(0,(sv v_0)),(1,(sv v_1)),(5,vi s1)] ∧ Sep No w W' []) (fun y2 x E' W'=>(match y2 with | .inl o1=>x = .ret ∧ rb w o1 E' W' | .inr o2=>x = .exit 0 ∧ aD E' [] ∧ Sep No w W' [])) hy1 ⟨sb rfl,hS.to [] rfl⟩ ?_) ?_
 ·intro s1 y3 E W h hI
  obtain ⟨hE,hS⟩:=hI
  refine CW.sub hE ?_
  unfold eM at h
  refine .seq (.g (.q z (.q z (.s (bw (hS.keep q_0) T.u28 z z) z (.q z (.nil ?_))))))
  refine .cs z h ?_ ?_ <;> intro h
  ·refine .skip (.seq (.block (.seq (.rk 10 hS [] T.mix ?_))))
   intro W hS
   have hT:=hS.to []
   refine .tp' 0 z z hT (.tp' 1 z z hT ?_)
   have ⟨x1,hx1,h⟩:=bnd h
   obtain ⟨k1,hd,hck1⟩:=RV.el2 q_0 hx1
   have hd1:=ur hd
   obtain ⟨k1,rfl,hd2⟩:=dn q_0 z hd1
   obtain ⟨v1,k1,rfl,q1,hd3⟩:=ef q_0 hd2
   obtain rfl:=m8 q_0 hd3
   refine .ts' 2 z (fun W hT=>ixv (hS.keep q_0) hx1 T.u28 T.t44 z z z) hT z (.ts' 3 z (fun W hT=>lde (hck1 _ hT.agree) T.t44 z z z z z) hT z (.tp' 4 z z hT (.tp' 5 z z hT ?_)))
   have ⟨x2,hx2,h⟩:=bnd h
   obtain ⟨k2,hd,hck2⟩:=RV.el2 q_1 hx2
   have hd1:=ur hd
   obtain ⟨k2,rfl,hd2⟩:=dn q_1 z hd1
   obtain ⟨v2,k2,rfl,q2,hd3⟩:=ef q_1 hd2
   obtain rfl:=m8 q_1 hd3
   refine .ts' 6 z (fun W hT=>ixv (hS.keep q_1) hx2 T.u28 T.t44 z z z) hT z (.ts' 7 z (fun W hT=>lde (hck2 _ hT.agree) T.t44 z z z z z) hT z ?_)
   have ⟨y4,hy4,h⟩:=bnd h
   refine .by1 8 z (.cO hS Tryz.func44 (sh hy4 (hS.keep (q1 _ q_0)) (hS.keep (q2 _ q_1))) z z ?_)
   intro W hS
   have hT:=hS.to []
   refine ⟨fun _=>hT,.tp' 9 z z hT (.done ?_)⟩
   refine .cs z h ?_ ?_ <;> intro h
   ·refine .g (.qn z (.ret ?_))
    cases h
    exact ⟨by simp,z,ac (vs:=[_]) () (rt z rn) z (hS.to [])⟩
   refine .skip (.region (.q z (.q z (.q z (.nil ?_)))))
   cases h
   exact ⟨z,sb z,hS.to []⟩
  refine .exit ?_
  cases h
  exact ⟨by simp,z,sb z,hS.to []⟩
 intro x E W hJ
 rcases y1 with o3 | o4
 ·obtain ⟨rfl,hF⟩:=hJ
  refine ⟨_,fun _ _ h=>h,?_⟩
  cases h
  exact hF
 obtain ⟨rfl,hE,hS⟩:=hJ
 refine ⟨_,hE.sub,?_⟩
 obtain rfl:=o9 h
 exact .g (.qn z (.ret (ac (vs:=[_]) () (rt z rn) z (hS.to []))))
def re (w : World) (r : Bool) : Env → World → Prop:=Fin Tryz.prog Tryz.f9 No w (fun s : Unit=>.bool r) (fun s=>[]) .ret
theorem mx {a0 : aE} {a1 : aE} {dH : Hd} {ed : Hd} {iu : Hd} {cI : Hd} {cN : Hd} {fM : Hd} {w : World} {r : Bool} (h : dE a0 a1 = some r) (bX : RO w dH 38 3 ao a0.Harts) (kO : RO w ed 44 2 bi a0.Boxes) (my : RO w iu 3 1 (D.int .i64) a0.Out) (iv : RO w cI 38 3 ao a1.Harts) (yf : RO w cN 44 2 bi a1.Boxes) (AH : RO w fM 3 1 (D.int .i64) a1.Out) : Cl 9 #[.agg #[(sv dH),(sv ed),vi a0.Turn,vi a0.Idle,(sv iu)],.agg #[(sv cI),(sv cN),vi a1.Turn,vi a1.Idle,(sv fM)]] w (RU w (.bool r)):=by
 unfold dE at h
 refine au Tryz.func9 z z ?_
 have hS:=Sep.start w
 refine .g (.c (.box hS z z ?_))
 intro g1 W hS
 refine .c (.box hS z z ?_)
 intro g2 W hS
 refine .qn z (.seq (.g (.s (fa T.f30_0 z z z) z (.s (ld T.t27 hS.p1 z z z z z) z (.s (bw (hS.keep bX) T.u27 z z) z (.s (fa T.f30_0 z z z) z (.s (ld T.t27 hS z z z z z) z (.s (bw (hS.keep iv) T.u27 z z) z (.q z (.q z (.cu 6 19 (((a0.Harts.length : Int) != (a1.Harts.length : Int)) || (a0.Turn != a1.Turn)) hS ?_ ?_)))))))))))
 ·refine .both ((a0.Harts.length : Int) != (a1.Harts.length : Int)) (fun hb=>?_) (fun hb=>?_)
  ·exact .xx hb z (.xx hb z (.xx hb z (.xx hb z (.xx hb z (.s (pkt hb z z z) z (.nil (ck 6 hS z (gn hb))))))))
  have hg1:=hb
  exact .g hg1 (.s (fa T.f30_2 z z z) z (.g hg1 (.s (ld T.t3 hS.p1 z z z z z) z (.g hg1 (.s (fa T.f30_2 z z z) z (.g hg1 (.s (ld T.t3 hS z z z z z) z (.g hg1 (.q z (.s (pkf hg1 z z z) z (.nil (ck 6 hS z (go hg1)))))))))))))
 intro W hS
 refine .q z (.cu 6 26 ((((a0.Harts.length : Int) != (a1.Harts.length : Int)) || (a0.Turn != a1.Turn)) || (a0.Idle != a1.Idle)) hS ?_ ?_)
 ·refine .both (((a0.Harts.length : Int) != (a1.Harts.length : Int)) || (a0.Turn != a1.Turn)) (fun hb=>?_) (fun hb=>?_)
  ·exact .xx hb z (.xx hb z (.xx hb z (.xx hb z (.xx hb z (.s (pkt hb z z z) z (.nil (ck 6 hS z (gn hb))))))))
  have hg2:=hb
  exact .g hg2 (.s (fa T.f30_3 z z z) z (.g hg2 (.s (ld T.t3 hS.p1 z z z z z) z (.g hg2 (.s (fa T.f30_3 z z z) z (.g hg2 (.s (ld T.t3 hS z z z z z) z (.g hg2 (.q z (.s (pkf hg2 z z z) z (.nil (ck 6 hS z (go hg2)))))))))))))
 intro W hS
 refine .nil ?_
 refine .cs z h ?_ ?_ <;> intro h
 ·obtain rfl:=o9 h
  exact .g (.qn z (.ret (ac (vs:=[_]) () (rt z rn) z (hS.to []))))
 refine .skip (.seq (.g (.qn z (.block ?_))))
 have ⟨y1,hy1,h⟩:=bnd h
 refine .via (.iter (fun s1 E' W'=>aD E' [(2,pt g1),(3,pt g2),(5,vi s1)] ∧ Sep No w W' [.box g2 30 [(sv cI),(sv cN),vi a1.Turn,vi a1.Idle,(sv fM)],.box g1 30 [(sv dH),(sv ed),vi a0.Turn,vi a0.Idle,(sv iu)]]) (fun y2 x E' W'=>(match y2 with | .inl o1=>x = .ret ∧ re w o1 E' W' | .inr o2=>x = .exit 0 ∧ aD E' [(2,pt g1),(3,pt g2)] ∧ Sep No w W' [.box g2 30 [(sv cI),(sv cN),vi a1.Turn,vi a1.Idle,(sv fM)],.box g1 30 [(sv dH),(sv ed),vi a0.Turn,vi a0.Idle,(sv iu)]])) hy1 ⟨sb rfl,hS.to [0,0] rfl⟩ ?_) ?_
 ·intro s1 y3 E W h hI
  obtain ⟨hE,hS⟩:=hI
  refine CW.sub hE ?_
  unfold eN at h
  refine .seq (.g (.q z (.s (fa T.f30_0 z z z) z (.s (ld T.t27 hS.p1 z z z z z) z (.s (bw (hS.keep bX) T.u27 z z) z (.q z (.nil ?_)))))))
  refine .cs z h ?_ ?_ <;> intro h
  ·refine .skip (.seq (.block (.seq (.rk 12 hS [0,0] T.mix ?_))))
   intro W hS
   have hT:=hS.to [0,0]
   refine .ts' 0 z (fun W hT=>fa T.f30_0 z z z) hT z (.ts' 1 z (fun W hT=>ld T.t27 hT.p1 z z z z z) hT z (.tp' 2 z z hT ?_))
   have ⟨x1,hx1,h⟩:=bnd h
   obtain ⟨k1,hd,hck1⟩:=RV.el2 bX hx1
   have hd1:=ur hd
   obtain ⟨v1,k1,rfl,q1,hd2⟩:=ef bX hd1
   obtain ⟨k1,rfl,hd3⟩:=dn bX z hd2
   obtain ⟨v2,k1,rfl,q2,hd4⟩:=ef bX hd3
   obtain rfl:=m8 bX hd4
   refine .ts' 3 z (fun W hT=>ixv (hS.keep bX) hx1 T.u27 T.t38 z z z) hT z (.ts' 4 z (fun W hT=>lde (hck1 _ hT.agree) T.t38 z z z z z) hT z (.ts' 5 z (fun W hT=>fa T.f30_0 z z z) hT z (.ts' 6 z (fun W hT=>ld T.t27 hT z z z z z) hT z (.tp' 7 z z hT ?_))))
   have ⟨x2,hx2,h⟩:=bnd h
   obtain ⟨k2,hd,hck2⟩:=RV.el2 iv hx2
   have hd1:=ur hd
   obtain ⟨v3,k2,rfl,q3,hd2⟩:=ef iv hd1
   obtain ⟨k2,rfl,hd3⟩:=dn iv z hd2
   obtain ⟨v4,k2,rfl,q4,hd4⟩:=ef iv hd3
   obtain rfl:=m8 iv hd4
   refine .ts' 8 z (fun W hT=>ixv (hS.keep iv) hx2 T.u27 T.t38 z z z) hT z (.ts' 9 z (fun W hT=>lde (hck2 _ hT.agree) T.t38 z z z z z) hT z ?_)
   have ⟨y4,hy4,h⟩:=bnd h
   refine .by1 10 z (.cO hS Tryz.func26 (oG hy4 (hS.keep (q1 _ bX)) (hS.keep (q2 _ bX)) (hS.keep (q3 _ iv)) (hS.keep (q4 _ iv))) z z ?_)
   intro W hS
   have hT:=hS.to [0,0]
   refine ⟨fun _=>hT,.tp' 11 z z hT (.done ?_)⟩
   refine .cs z h ?_ ?_ <;> intro h
   ·refine .g (.qn z (.ret ?_))
    cases h
    exact ⟨by simp,z,ac (vs:=[_]) () (rt z rn) z (hS.to [])⟩
   refine .skip (.region (.q z (.q z (.q z (.nil ?_)))))
   cases h
   exact ⟨z,sb z,hS.to [0,0]⟩
  refine .exit ?_
  cases h
  exact ⟨by simp,z,sb z,hS.to [0,0]⟩
 intro x E W hJ
 rcases y1 with o3 | o4
 ·obtain ⟨rfl,hF⟩:=hJ
  refine ⟨_,fun _ _ h=>h,?_⟩
  cases h
  exact hF
 obtain ⟨rfl,hE,hS⟩:=hJ
 refine ⟨_,hE.sub,?_⟩
 refine .g (.s (fa T.f30_1 z z z) z (.s (ld T.t28 hS.p1 z z z z z) z (.s (fa T.f30_1 z z z) z (.s (ld T.t28 hS z z z z z) z ?_))))
 have ⟨y5,hy5,h⟩:=bnd h
 refine .c (.cO hS Tryz.func27 (pV hy5 (hS.keep kO) (hS.keep yf)) z z ?_)
 intro W hS
 refine .q z ?_
 have ⟨b1,hb1,h⟩:=bnd h
 refine .cu 6 57 (b1) hS ?_ ?_
 ·refine .both (y5) (fun hb=>?_) (fun hb=>?_)
  ·have hg3:=hb
   have h:=aI hb hb1
   refine .g hg3 (.s (fa T.f30_4 z z z) z (.g hg3 (.s (ld T.t23 hS.p1 z z z z z) z (.g hg3 (.s (fa T.f30_4 z z z) z (.g hg3 (.s (ld T.t23 hS z z z z z) z ?_)))))))
   have ⟨y6,hy6,h⟩:=bnd h
   refine .g hg3 (.c (.cO hS Tryz.func11 (fC hy6 (hS.keep my) (hS.keep AH)) z z ?_))
   intro W hS
   refine .s (pkt hg3 z z z) z ?_
   cases h
   exact .nil (ck 6 hS)
  refine .xx hb z (.xx hb z (.xx hb z (.xx hb z (.xx hb z ?_))))
  cases aJ hb hb1
  exact .s (pkf hb z z z) z (.nil (ck 6 hS))
 intro W hS
 obtain rfl:=o9 h
 exact .qn z (.ret (ac (vs:=[_]) () (rt z rn) z (hS.to [])))
def si (w : World) (r : Bool) : Env → World → Prop:=Fin Tryz.prog Tryz.f75 No w (fun s : Unit=>.bool r) (fun s=>[]) .ret
theorem iw {a0 : List Int} {v_0 : Hd} {w : World} {r : Bool} (h : cT a0 = some r) (q_0 : RO w v_0 3 1 (D.int .i64) a0) : Cl 75 #[(sv v_0)] w (RU w (.bool r)):=by
 unfold cT at h
 refine au Tryz.func75 z z ?_
 have hS:=Sep.start w
 refine .g (.qn z (.seq (.g (.q z (.s (bw (hS.keep q_0) T.u23 z z) z (.qn z (.block ?_)))))))
 have ⟨y1,hy1,h⟩:=bnd h
 refine .via (.iter (fun s1 E' W'=>aD E' [(5,(sv v_0)),(6,vi (a0.length : Int)),(7,vi s1)] ∧ Sep No w W' []) (fun y2 x E' W'=>(match y2 with | .inl o1=>x = .ret ∧ si w o1 E' W' | .inr o2=>x = .exit 0 ∧ aD E' [] ∧ Sep No w W' [])) hy1 ⟨sb rfl,hS.to [] rfl⟩ ?_) ?_
 ·intro s1 y3 E W h hI
  obtain ⟨hE,hS⟩:=hI
  refine CW.sub hE ?_
  unfold fu at h
  refine .g (.qn z (.seq ?_))
  refine .cs z h ?_ ?_ <;> intro h
  ·refine .skip (.seq (.block (.seq (.region ?_))))
   have ⟨x1,hx1,h⟩:=bnd h
   refine .s (ixv (hS.keep q_0) hx1 T.u23 T.t3 z z z) z (.s (lde (RV.flat (hS.keep q_0) hx1 z) T.t3 z z z z z) z (.qn z (.g (.q z ?_))))
   have ⟨y4,hy4,h⟩:=bnd h
   refine .c (.cO hS Tryz.func78 (kd hy4) z z ?_)
   intro W hS
   refine .q z (.nil ?_)
   refine .cs z h ?_ ?_ <;> intro h
   ·refine .g (.qn z (.ret ?_))
    cases h
    exact ⟨by simp,z,ac (vs:=[_]) () (rt z rn) z (hS.to [])⟩
   refine .skip (.region (.q z (.q z (.nil ?_))))
   cases h
   exact ⟨z,sb z,hS.to []⟩
  refine .exit ?_
  cases h
  exact ⟨by simp,z,sb z,hS.to []⟩
 intro x E W hJ
 rcases y1 with o3 | o4
 ·obtain ⟨rfl,hF⟩:=hJ
  refine ⟨_,fun _ _ h=>h,?_⟩
  cases h
  exact hF
 obtain ⟨rfl,hE,hS⟩:=hJ
 refine ⟨_,hE.sub,?_⟩
 obtain rfl:=o9 h
 exact .g (.qn z (.ret (ac (vs:=[_]) () (rt z rn) z (hS.to []))))
theorem pj {a0 : Int} {a1 : Int} {a2 : Int} {a3 : List Int} {v_3 : Hd} {w : World} {r : Bool} (h : jc a0 a1 a2 a3 = some r) (q_3 : RO w v_3 3 1 (D.int .i64) a3) : Cl 45 #[vi a0,vi a1,vi a2,(sv v_3)] w (RU w (.bool r)):=by
 unfold jc at h
 refine au Tryz.func45 z z ?_
 have hS:=Sep.start w
 refine .g (.qn z (.g (.q z (.q z (.q z (.cu 3 14 ((decide (a0 ≥ 1)) && (decide (a0 ≤ 3))) hS ?_ ?_))))))
 ·refine .both (decide (a0 ≥ 1)) (fun hb=>?_) (fun hb=>?_)
  ·have hg1:=hb
   exact .g hg1 (.q z (.g hg1 (.q z (.s (pkt hg1 z z z) z (.nil (ck 3 hS z (bM hg1)))))))
  exact .xx hb z (.xx hb z (.s (pkf hb z z z) z (.nil (ck 3 hS z (bN hb)))))
 intro W hS
 refine .q z (.cu 3 18 (((decide (a0 ≥ 1)) && (decide (a0 ≤ 3))) && (decide (a1 ≥ 0))) hS ?_ ?_)
 ·refine .both ((decide (a0 ≥ 1)) && (decide (a0 ≤ 3))) (fun hb=>?_) (fun hb=>?_)
  ·have hg2:=hb
   exact .g hg2 (.q z (.g hg2 (.q z (.s (pkt hg2 z z z) z (.nil (ck 3 hS z (bM hg2)))))))
  exact .xx hb z (.xx hb z (.s (pkf hb z z z) z (.nil (ck 3 hS z (bN hb)))))
 intro W hS
 refine .q z (.cu 4 23 ((((decide (a0 ≥ 1)) && (decide (a0 ≤ 3))) && (decide (a1 ≥ 0))) && (decide (a1 < a0))) hS ?_ ?_)
 ·refine .both (((decide (a0 ≥ 1)) && (decide (a0 ≤ 3))) && (decide (a1 ≥ 0))) (fun hb=>?_) (fun hb=>?_)
  ·have hg3:=hb
   exact .g hg3 (.q z (.g hg3 (.q z (.g hg3 (.q z (.s (pkt hg3 z z z) z (.nil (ck 4 hS z (bM hg3)))))))))
  exact .xx hb z (.xx hb z (.xx hb z (.s (pkf hb z z z) z (.nil (ck 4 hS z (bN hb))))))
 intro W hS
 refine .q z (.cu 3 27 (((((decide (a0 ≥ 1)) && (decide (a0 ≤ 3))) && (decide (a1 ≥ 0))) && (decide (a1 < a0))) && (decide (a2 ≥ 0))) hS ?_ ?_)
 ·refine .both ((((decide (a0 ≥ 1)) && (decide (a0 ≤ 3))) && (decide (a1 ≥ 0))) && (decide (a1 < a0))) (fun hb=>?_) (fun hb=>?_)
  ·have hg4:=hb
   exact .g hg4 (.q z (.g hg4 (.q z (.s (pkt hg4 z z z) z (.nil (ck 3 hS z (bM hg4)))))))
  exact .xx hb z (.xx hb z (.s (pkf hb z z z) z (.nil (ck 3 hS z (bN hb)))))
 intro W hS
 refine .q z (.cu 4 32 ((((((decide (a0 ≥ 1)) && (decide (a0 ≤ 3))) && (decide (a1 ≥ 0))) && (decide (a1 < a0))) && (decide (a2 ≥ 0))) && (decide (a2 ≤ a0))) hS ?_ ?_)
 ·refine .both (((((decide (a0 ≥ 1)) && (decide (a0 ≤ 3))) && (decide (a1 ≥ 0))) && (decide (a1 < a0))) && (decide (a2 ≥ 0))) (fun hb=>?_) (fun hb=>?_)
  ·have hg5:=hb
   exact .g hg5 (.q z (.g hg5 (.q z (.g hg5 (.q z (.s (pkt hg5 z z z) z (.nil (ck 4 hS z (bM hg5)))))))))
  exact .xx hb z (.xx hb z (.xx hb z (.s (pkf hb z z z) z (.nil (ck 4 hS z (bN hb))))))
 intro W hS
 refine .q z ?_
 have ⟨b1,hb1,h⟩:=bnd h
 refine .cu 3 36 (b1) hS ?_ ?_
 ·refine .both ((((((decide (a0 ≥ 1)) && (decide (a0 ≤ 3))) && (decide (a1 ≥ 0))) && (decide (a1 < a0))) && (decide (a2 ≥ 0))) && (decide (a2 ≤ a0))) (fun hb=>?_) (fun hb=>?_)
  ·have hg6:=hb
   have h:=aI hb hb1
   refine .g hg6 (.q z ?_)
   have ⟨y1,hy1,h⟩:=bnd h
   refine .g hg6 (.c (.cO hS Tryz.func75 (iw hy1 (hS.keep q_3)) z z ?_))
   intro W hS
   refine .s (pkt hg6 z z z) z ?_
   cases h
   exact .nil (ck 3 hS)
  refine .xx hb z (.xx hb z ?_)
  cases aJ hb hb1
  exact .s (pkf hb z z z) z (.nil (ck 3 hS))
 intro W hS
 obtain rfl:=o9 h
 exact .qn z (.ret (ac (vs:=[_]) () (rt z rn) z (hS.to [])))
theorem rf {a0 : Box} {dG : Hd} {w : World} {r : Bool} (h : i7 a0 = some r) (ox : RO w dG 3 1 (D.int .i64) a0.Items) : Cl 76 #[.agg #[vi a0.Room,(sv dG)]] w (RU w (.bool r)):=by
 unfold i7 at h
 refine au Tryz.func76 z z ?_
 have hS:=Sep.start w
 refine .g (.c (.box hS z z ?_))
 intro g1 W hS
 refine .qn z (.g (.s (fa T.f44_0 z z z) z (.s (ld T.t3 hS z z z z z) z (.q z (.q z (.cu 4 10 ((decide (a0.Room ≥ 1)) && (decide (a0.Room ≤ 4))) hS ?_ ?_))))))
 ·refine .both (decide (a0.Room ≥ 1)) (fun hb=>?_) (fun hb=>?_)
  ·have hg1:=hb
   exact .g hg1 (.s (fa T.f44_0 z z z) z (.g hg1 (.s (ld T.t3 hS z z z z z) z (.g hg1 (.q z (.s (pkt hg1 z z z) z (.nil (ck 4 hS z (bM hg1)))))))))
  exact .xx hb z (.xx hb z (.xx hb z (.s (pkf hb z z z) z (.nil (ck 4 hS z (bN hb))))))
 intro W hS
 refine .q z (.cu 7 18 (((decide (a0.Room ≥ 1)) && (decide (a0.Room ≤ 4))) && (decide ((a0.Items.length : Int) ≤ a0.Room))) hS ?_ ?_)
 ·refine .both ((decide (a0.Room ≥ 1)) && (decide (a0.Room ≤ 4))) (fun hb=>?_) (fun hb=>?_)
  ·have hg2:=hb
   exact .g hg2 (.s (fa T.f44_1 z z z) z (.g hg2 (.s (ld T.t23 hS z z z z z) z (.g hg2 (.s (bw (hS.keep ox) T.u23 z z) z (.g hg2 (.s (fa T.f44_0 z z z) z (.g hg2 (.s (ld T.t3 hS z z z z z) z (.g hg2 (.q z (.s (pkt hg2 z z z) z (.nil (ck 7 hS z (bM hg2)))))))))))))))
  exact .xx hb z (.xx hb z (.xx hb z (.xx hb z (.xx hb z (.xx hb z (.s (pkf hb z z z) z (.nil (ck 7 hS z (bN hb)))))))))
 intro W hS
 refine .q z ?_
 have ⟨b1,hb1,h⟩:=bnd h
 refine .cu 4 23 (b1) hS ?_ ?_
 ·refine .both (((decide (a0.Room ≥ 1)) && (decide (a0.Room ≤ 4))) && (decide ((a0.Items.length : Int) ≤ a0.Room))) (fun hb=>?_) (fun hb=>?_)
  ·have hg3:=hb
   have h:=aI hb hb1
   refine .g hg3 (.s (fa T.f44_1 z z z) z (.g hg3 (.s (ld T.t23 hS z z z z z) z ?_)))
   have ⟨y1,hy1,h⟩:=bnd h
   refine .g hg3 (.c (.cO hS Tryz.func75 (iw hy1 (hS.keep ox)) z z ?_))
   intro W hS
   refine .s (pkt hg3 z z z) z ?_
   cases h
   exact .nil (ck 4 hS)
  refine .xx hb z (.xx hb z (.xx hb z ?_))
  cases aJ hb hb1
  exact .s (pkf hb z z z) z (.nil (ck 4 hS))
 intro W hS
 obtain rfl:=o9 h
 exact .qn z (.ret (ac (vs:=[_]) () (rt z rn) z (hS.to [])))
def pW (w : World) (r : Bool) : Env → World → Prop:=Fin Tryz.prog Tryz.f46 No w (fun s : Unit=>.bool r) (fun s=>[]) .ret
theorem pm {a0 : List Box} {v_0 : Hd} {w : World} {r : Bool} (h : fS a0 = some r) (q_0 : RO w v_0 44 2 bi a0) : Cl 46 #[(sv v_0)] w (RU w (.bool r)):=by
 unfold fS at h
 refine au Tryz.func46 z z ?_
 have hS:=Sep.start w
 refine .g (.qn z (.seq (.g (.q z (.s (bw (hS.keep q_0) T.u28 z z) z (.qn z (.block ?_)))))))
 have ⟨y1,hy1,h⟩:=bnd h
 refine .via (.iter (fun s1 E' W'=>aD E' [(0,(sv v_0)),(5,(sv v_0)),(6,vi (a0.length : Int)),(7,vi s1)] ∧ Sep No w W' []) (fun y2 x E' W'=>(match y2 with | .inl o1=>x = .ret ∧ pW w o1 E' W' | .inr o2=>x = .exit 0 ∧ aD E' [(0,(sv v_0))] ∧ Sep No w W' [])) hy1 ⟨sb rfl,hS.to [] rfl⟩ ?_) ?_
 ·intro s1 y3 E W h hI
  obtain ⟨hE,hS⟩:=hI
  refine CW.sub hE ?_
  unfold eh at h
  refine .g (.qn z (.seq ?_))
  refine .cs z h ?_ ?_ <;> intro h
  ·refine .skip (.seq (.block (.seq (.region ?_))))
   have ⟨x1,hx1,h⟩:=bnd h
   obtain ⟨k1,hd,hck1⟩:=RV.el2 q_0 hx1
   have hd1:=ur hd
   obtain ⟨k1,rfl,hd2⟩:=dn q_0 z hd1
   obtain ⟨v1,k1,rfl,q1,hd3⟩:=ef q_0 hd2
   obtain rfl:=m8 q_0 hd3
   refine .s (ixv (hS.keep q_0) hx1 T.u28 T.t44 z z z) z (.s (lde (hck1 _ hS.agree) T.t44 z z z z z) z (.c (.alloc T.t44 hS ?_)))
   intro g1 W hS
   refine .c (.st T.t44 hS z z z ?_)
   intro W hS
   refine .nil (.g (.s (ld T.t44 hS z z z z z) z ?_))
   have ⟨y4,hy4,h⟩:=bnd h
   refine .c (.cO hS Tryz.func76 (rf hy4 (hS.keep (q1 _ q_0))) z z ?_)
   intro W hS
   refine .q z (.nil ?_)
   refine .cs z h ?_ ?_ <;> intro h
   ·refine .g (.qn z (.ret ?_))
    cases h
    exact ⟨by simp,z,ac (vs:=[_]) () (rt z rn) z (hS.to [])⟩
   refine .skip (.region (.q z (.q z (.nil ?_))))
   cases h
   exact ⟨z,sb z,hS.to []⟩
  refine .exit ?_
  cases h
  exact ⟨by simp,z,sb z,hS.to []⟩
 intro x E W hJ
 rcases y1 with o3 | o4
 ·obtain ⟨rfl,hF⟩:=hJ
  refine ⟨_,fun _ _ h=>h,?_⟩
  cases h
  exact hF
 obtain ⟨rfl,hE,hS⟩:=hJ
 refine ⟨_,hE.sub,?_⟩
 cases h
 exact .g (.q z (.s (bw (hS.keep q_0) T.u28 z z) z (.q z (.qn z (.ret (ac (vs:=[_]) () (rt z rn) z (hS.to [])))))))
theorem nZ {a0 : ah} {aB : Hd} {aX : Hd} {w : World} {r : Bool} (h : dc a0 = some r) (gQ : RO w aB 3 1 (D.int .i64) a0.Regs) (ir : RO w aX 3 1 (D.int .i64) a0.Mem) : Cl 49 #[.agg #[(sv aB),vi a0.Pc,(sv aX)]] w (RU w (.bool r)):=by
 unfold dc at h
 refine au Tryz.func49 z z ?_
 have hS:=Sep.start w
 refine .g (.c (.box hS z z ?_))
 intro g1 W hS
 refine .qn z (.g (.s (fa T.f38_0 z z z) z (.s (ld T.t23 hS z z z z z) z (.s (bw (hS.keep gQ) T.u23 z z) z (.q z (.q z ?_))))))
 have ⟨b1,hb1,h⟩:=bnd h
 refine .cu 4 11 (b1) hS ?_ ?_
 ·refine .both ((a0.Regs.length : Int) == 32) (fun hb=>?_) (fun hb=>?_)
  ·have hg1:=hb
   have h:=aI hb hb1
   refine .g hg1 (.s (fa T.f38_0 z z z) z (.g hg1 (.s (ld T.t23 hS z z z z z) z ?_)))
   have ⟨y1,hy1,h⟩:=bnd h
   refine .g hg1 (.c (.cO hS Tryz.func75 (iw hy1 (hS.keep gQ)) z z ?_))
   intro W hS
   refine .s (pkt hg1 z z z) z ?_
   cases h
   exact .nil (ck 4 hS)
  refine .xx hb z (.xx hb z (.xx hb z ?_))
  cases aJ hb hb1
  exact .s (pkf hb z z z) z (.nil (ck 4 hS))
 intro W hS
 refine .q z ?_
 have ⟨b2,hb2,h⟩:=bnd h
 refine .cu 6 18 (b2) hS ?_ ?_
 ·refine .both (b1) (fun hb=>?_) (fun hb=>?_)
  ·have hg2:=hb
   have h:=aI hb hb2
   refine .g hg2 (.s (fa T.f38_0 z z z) z (.g hg2 (.s (ld T.t23 hS z z z z z) z ?_)))
   have ⟨x1,hx1,h⟩:=bnd h
   refine .g hg2 (.s (ixv (hS.keep gQ) hx1 T.u23 T.t3 z z z) z (.g hg2 (.s (lde (RV.flat (hS.keep gQ) hx1 z) T.t3 z z z z z) z (.g hg2 (.q z (.s (pkt hg2 z z z) z ?_))))))
   cases h
   exact .nil (ck 6 hS)
  refine .xx hb z (.xx hb z (.xx hb z (.xx hb z (.xx hb z ?_))))
  cases aJ hb hb2
  exact .s (pkf hb z z z) z (.nil (ck 6 hS))
 intro W hS
 refine .q z ?_
 have ⟨b3,hb3,h⟩:=bnd h
 refine .cu 4 23 (b3) hS ?_ ?_
 ·refine .both (b2) (fun hb=>?_) (fun hb=>?_)
  ·have hg3:=hb
   have h:=aI hb hb3
   refine .g hg3 (.s (fa T.f38_1 z z z) z (.g hg3 (.s (ld T.t3 hS z z z z z) z ?_)))
   have ⟨y2,hy2,h⟩:=bnd h
   refine .g hg3 (.c (.cO hS Tryz.func78 (kd hy2) z z ?_))
   intro W hS
   refine .s (pkt hg3 z z z) z ?_
   cases h
   exact .nil (ck 4 hS)
  refine .xx hb z (.xx hb z (.xx hb z ?_))
  cases aJ hb hb3
  exact .s (pkf hb z z z) z (.nil (ck 4 hS))
 intro W hS
 refine .q z (.cu 5 29 (b3 && (decide ((a0.Mem.length : Int) ≤ 10000))) hS ?_ ?_)
 ·refine .both (b3) (fun hb=>?_) (fun hb=>?_)
  ·have hg4:=hb
   exact .g hg4 (.s (fa T.f38_2 z z z) z (.g hg4 (.s (ld T.t23 hS z z z z z) z (.g hg4 (.s (bw (hS.keep ir) T.u23 z z) z (.g hg4 (.q z (.s (pkt hg4 z z z) z (.nil (ck 5 hS z (bM hg4)))))))))))
  exact .xx hb z (.xx hb z (.xx hb z (.xx hb z (.s (pkf hb z z z) z (.nil (ck 5 hS z (bN hb)))))))
 intro W hS
 refine .q z ?_
 have ⟨b4,hb4,h⟩:=bnd h
 refine .cu 4 34 (b4) hS ?_ ?_
 ·refine .both (b3 && (decide ((a0.Mem.length : Int) ≤ 10000))) (fun hb=>?_) (fun hb=>?_)
  ·have hg5:=hb
   have h:=aI hb hb4
   refine .g hg5 (.s (fa T.f38_2 z z z) z (.g hg5 (.s (ld T.t23 hS z z z z z) z ?_)))
   have ⟨y3,hy3,h⟩:=bnd h
   refine .g hg5 (.c (.cO hS Tryz.func75 (iw hy3 (hS.keep ir)) z z ?_))
   intro W hS
   refine .s (pkt hg5 z z z) z ?_
   cases h
   exact .nil (ck 4 hS)
  refine .xx hb z (.xx hb z (.xx hb z ?_))
  cases aJ hb hb4
  exact .s (pkf hb z z z) z (.nil (ck 4 hS))
 intro W hS
 obtain rfl:=o9 h
 exact .qn z (.ret (ac (vs:=[_]) () (rt z rn) z (hS.to [])))
theorem n6 {a0 : ah} {aB : Hd} {aX : Hd} {w : World} {r : Bool} (h : gg a0 = some r) (gQ : RO w aB 3 1 (D.int .i64) a0.Regs) (ir : RO w aX 3 1 (D.int .i64) a0.Mem) : Cl 48 #[.agg #[(sv aB),vi a0.Pc,(sv aX)]] w (RU w (.bool r)):=by
 unfold gg at h
 refine au Tryz.func48 z z ?_
 have hS:=Sep.start w
 refine .g (.c (.box hS z z ?_))
 intro g1 W hS
 refine .qn z (.g (.s (ld T.t38 hS z z z z z) z ?_))
 have ⟨y1,hy1,h⟩:=bnd h
 refine .c (.cO hS Tryz.func49 (nZ hy1 (hS.keep gQ) (hS.keep ir)) z z ?_)
 intro W hS
 cases h
 exact .q z (.qn z (.ret (ac (vs:=[_]) () (rt z rn) z (hS.to []))))
def eo (w : World) (r : Int) : Env → World → Prop:=Fin Tryz.prog Tryz.f77 No w (fun s : Unit=>.int .i64 r) (fun s=>[]) .ret
theorem ee {a0 : List ah} {v_0 : Hd} {w : World} {r : Int} (h : bj a0 = some r) (q_0 : RO w v_0 38 3 ao a0) : Cl 77 #[(sv v_0),.func (.func 48) #[] #[]] w (RU w (.int .i64 r)):=by
 unfold bj at h
 refine au Tryz.func77 z z ?_
 have hS:=Sep.start w
 refine .g (.qn z (.seq (.g (.q z (.s (bw (hS.keep q_0) T.u27 z z) z (.qn z (.block ?_)))))))
 have ⟨y1,hy1,h⟩:=bnd h
 refine .via (.iter (fun s1 E' W'=>aD E' [(0,(sv v_0)),(1,.func (.func 48) #[] #[]),(7,vi (a0.length : Int)),(8,vi s1)] ∧ Sep No w W' []) (fun y2 x E' W'=>(match y2 with | .inl o1=>x = .ret ∧ eo w o1 E' W' | .inr o2=>x = .exit 0 ∧ aD E' [] ∧ Sep No w W' [])) hy1 ⟨sb rfl,hS.to [] rfl⟩ ?_) ?_
 ·intro s1 y3 E W h hI
  obtain ⟨hE,hS⟩:=hI
  refine CW.sub hE ?_
  unfold aM at h
  refine .g (.qn z (.seq ?_))
  refine .cs z h ?_ ?_ <;> intro h
  ·refine .skip (.seq (.block (.g (.q z (.qn z (.g (.q z (.q z (.q z ?_)))))))))
   have ⟨x1,hx1,h⟩:=bnd h
   obtain ⟨k1,hd,hck1⟩:=RV.el2 q_0 hx1
   have hd1:=ur hd
   obtain ⟨v1,k1,rfl,q1,hd2⟩:=ef q_0 hd1
   obtain ⟨k1,rfl,hd3⟩:=dn q_0 z hd2
   obtain ⟨v2,k1,rfl,q2,hd4⟩:=ef q_0 hd3
   obtain rfl:=m8 q_0 hd4
   refine .s (ixv (hS.keep q_0) hx1 T.u27 T.t38 z z z) z (.s (lde (hck1 _ hS.agree) T.t38 z z z z z) z ?_)
   have ⟨y4,hy4,h⟩:=bnd h
   refine .c (.callv (vs:=[.agg #[(sv v1),vi x1.Pc,(sv v2)]]) (cap:=#[]) hS ⟨_,Tryz.func48,z,by kernel_rfl⟩ (n6 hy4 (hS.keep (q1 _ q_0)) (hS.keep (q2 _ q_0))) z z z ?_)
   rintro ⟨⟩ W hS
   refine .nil ?_
   refine .cs z h ?_ ?_ <;> intro h
   ·refine .g (.q z (.qn z (.ret ?_)))
    cases h
    exact ⟨by simp,z,ac (vs:=[_]) () (rt z rn) z (hS.to [])⟩
   refine .skip (.region (.q z (.q z (.nil ?_))))
   cases h
   exact ⟨z,sb z,hS.to []⟩
  refine .exit ?_
  cases h
  exact ⟨by simp,z,sb z,hS.to []⟩
 intro x E W hJ
 rcases y1 with o3 | o4
 ·obtain ⟨rfl,hF⟩:=hJ
  refine ⟨_,fun _ _ h=>h,?_⟩
  cases h
  exact hF
 obtain ⟨rfl,hE,hS⟩:=hJ
 refine ⟨_,hE.sub,?_⟩
 cases h
 exact .g (.qn z (.ret (ac (vs:=[_]) () (rt z rn) z (hS.to []))))
theorem dQ {a0 : List ah} {v_0 : Hd} {w : World} {r : Bool} (h : aU a0 = some r) (q_0 : RO w v_0 38 3 ao a0) : Cl 47 #[(sv v_0),.func (.func 48) #[] #[]] w (RU w (.bool r)):=by
 unfold aU at h
 refine au Tryz.func47 z z ?_
 have hS:=Sep.start w
 refine .g (.qn z (.g (.q z (.q z ?_))))
 have ⟨y1,hy1,h⟩:=bnd h
 refine .c (.cO hS Tryz.func77 (ee hy1 (hS.keep q_0)) z z ?_)
 intro W hS
 cases h
 exact .q z (.qn z (.ret (ac (vs:=[_]) () (rt z rn) z (hS.to []))))
theorem pn {a0 : aE} {dH : Hd} {ed : Hd} {iu : Hd} {w : World} {r : Bool} (h : fT a0 = some r) (bX : RO w dH 38 3 ao a0.Harts) (kO : RO w ed 44 2 bi a0.Boxes) (my : RO w iu 3 1 (D.int .i64) a0.Out) : Cl 29 #[.agg #[(sv dH),(sv ed),vi a0.Turn,vi a0.Idle,(sv iu)]] w (RU w (.bool r)):=by
 unfold fT at h
 refine au Tryz.func29 z z ?_
 have hS:=Sep.start w
 refine .g (.c (.box hS z z ?_))
 intro g1 W hS
 refine .qn z (.g (.s (fa T.f30_0 z z z) z (.s (ld T.t27 hS z z z z z) z (.s (bw (hS.keep bX) T.u27 z z) z (.s (fa T.f30_2 z z z) z (.s (ld T.t3 hS z z z z z) z (.s (fa T.f30_3 z z z) z (.s (ld T.t3 hS z z z z z) z (.s (fa T.f30_4 z z z) z (.s (ld T.t23 hS z z z z z) z ?_))))))))))
 have ⟨y1,hy1,h⟩:=bnd h
 refine .c (.cO hS Tryz.func45 (pj hy1 (hS.keep my)) z z ?_)
 intro W hS
 refine .q z ?_
 have ⟨b1,hb1,h⟩:=bnd h
 refine .cu 4 17 (b1) hS ?_ ?_
 ·refine .both (y1) (fun hb=>?_) (fun hb=>?_)
  ·have hg1:=hb
   have h:=aI hb hb1
   refine .g hg1 (.s (fa T.f30_1 z z z) z (.g hg1 (.s (ld T.t28 hS z z z z z) z ?_)))
   have ⟨y2,hy2,h⟩:=bnd h
   refine .g hg1 (.c (.cO hS Tryz.func46 (pm hy2 (hS.keep kO)) z z ?_))
   intro W hS
   refine .s (pkt hg1 z z z) z ?_
   cases h
   exact .nil (ck 4 hS)
  refine .xx hb z (.xx hb z (.xx hb z ?_))
  cases aJ hb hb1
  exact .s (pkf hb z z z) z (.nil (ck 4 hS))
 intro W hS
 refine .q z ?_
 have ⟨b2,hb2,h⟩:=bnd h
 refine .cu 5 23 (b2) hS ?_ ?_
 ·refine .both (b1) (fun hb=>?_) (fun hb=>?_)
  ·have hg2:=hb
   have h:=aI hb hb2
   refine .g hg2 (.s (fa T.f30_0 z z z) z (.g hg2 (.s (ld T.t27 hS z z z z z) z ?_)))
   have ⟨y3,hy3,h⟩:=bnd h
   refine .g hg2 (.c (.cO hS Tryz.func47 (dQ hy3 (hS.keep bX)) z z ?_))
   intro W hS
   refine .g hg2 (.q z (.s (pkt hg2 z z z) z ?_))
   cases h
   exact .nil (ck 5 hS)
  refine .xx hb z (.xx hb z (.xx hb z (.xx hb z ?_)))
  cases aJ hb hb2
  exact .s (pkf hb z z z) z (.nil (ck 5 hS))
 intro W hS
 obtain rfl:=o9 h
 exact .qn z (.ret (ac (vs:=[_]) () (rt z rn) z (hS.to [])))
theorem ch {a0 : List Int} {v_0 : Hd} {w : World} {r : (List Int)} (h : bA a0 = some r) (q_0 : RO w v_0 3 1 (D.int .i64) a0) : Cl 31 #[(sv v_0)] w (Ret No w (fun s : Hd=>(sv s)) (fun s=>[ae (sv s) 3 1 (D.int .i64) r])):=by
 unfold bA at h
 refine au Tryz.func31 z z ?_
 have hS:=Sep.start w
 refine .g (.qn z (.seq (.g (.q z (.s (Ca T.u23 z z) z (.nil (.cond z (fun hb=>?_) (fun hb=>?_))))))))
 ·have hl:=RV.isnil q_0 hb
  subst hl
  refine .g (.qn z (.ret ?_))
  have hS:=hS.nilv 3 1 (D.int .i64)
  have h : some [] = some r:=h
  cases h
  exact ac (vs:=[_]) aN (rt z rn) z (hS.to [0])
 refine .skip (.g (.c (.liv [] (D.int .i64) T.u23 T.t3 hS z z z z ?_ z (fun _=>z))))
 intro v1 W hS
 refine .q z ?_
 have ⟨r1,hr1,h⟩:=bnd h
 refine .c (.av hr1 hS (hS.keep q_0) (fun _=>z) T.u23 T.t3 z z z ?_)
 intro v2 W hS
 obtain rfl:=o9 h
 exact .qn z (.ret (ac (vs:=[_]) v2 (rt z rn) z (hS.to [0])))
end
noncomputable section
theorem mz {a0 : List Box} {v_0 : Hd} {w : World} {r : (List Box)} (h : gM a0 = some r) (q_0 : RO w v_0 44 2 bi a0) : Cl 30 #[(sv v_0)] w (Ret No w (fun s : Hd=>(sv s)) (fun s=>[ae (sv s) 44 2 bi r])):=by
 unfold gM at h
 refine au Tryz.func30 z z ?_
 have hS:=Sep.start w
 refine .g (.qn z (.g (.qn z (.seq (.g (.q z (.s (bw (hS.keep q_0) T.u28 z z) z (.qn z (.block ?_)))))))))
 have hS:=hS.nilv 44 2 bi
 have ⟨y1,hy1,h⟩:=bnd h
 refine .via (.iter (fun s1 E' W'=>∃ (v3 : Hd),aD E' [(3,(sv v3)),(6,(sv v_0)),(7,vi (a0.length : Int)),(8,vi s1.2)] ∧ Sep No w W' [ae (sv v3) 44 2 bi s1.1]) (fun y2 x E' W'=>x = .exit 0 ∧ ∃ (v4 : Hd),aD E' [(3,(sv v4))] ∧ Sep No w W' [ae (sv v4) 44 2 bi y2]) hy1 ⟨aN,sb z,hS.to [0]⟩ ?_) ?_
 ·intro s1 y3 E W h hI
  obtain ⟨v2,hE,hS⟩:=hI
  refine CW.sub hE ?_
  unfold eO at h
  refine .g (.qn z (.seq ?_))
  refine .cs z h ?_ ?_ <;> intro h
  ·refine .skip (.seq (.block (.seq (.region ?_))))
   have ⟨x1,hx1,h⟩:=bnd h
   obtain ⟨k1,hd,hck1⟩:=RV.el2 q_0 hx1
   have hd1:=ur hd
   obtain ⟨k1,rfl,hd2⟩:=dn q_0 z hd1
   obtain ⟨v5,k1,rfl,q5,hd3⟩:=ef q_0 hd2
   obtain rfl:=m8 q_0 hd3
   refine .s (ixv (hS.keep q_0) hx1 T.u28 T.t44 z z z) z (.s (lde (hck1 _ hS.agree) T.t44 z z z z z) z (.c (.alloc T.t44 hS ?_)))
   intro g1 W hS
   refine .c (.st T.t44 hS z z z ?_)
   intro W hS
   refine .nil (.rk 10 hS [0] T.mix ?_)
   intro W hS
   have hT:=hS.to [0]
   refine .tp' 0 z z hT (.ts' 1 z (fun W hT=>fa T.f44_0 z z z) hT z (.ts' 2 z (fun W hT=>ld T.t3 hT z z z z z) hT z (.ts' 3 z (fun W hT=>fa T.f44_1 z z z) hT z (.ts' 4 z (fun W hT=>ld T.t23 hT z z z z z) hT z ?_))))
   have ⟨y4,hy4,h⟩:=bnd h
   refine .by1 5 z (.cV hS Tryz.func31 (ch hy4 (hS.keep (q5 _ q_0))) z z ?_)
   intro v6 W hS
   have hT:=hS.to [1]
   refine ⟨fun _=>hT,.ts' 6 z (fun W hT=>bs T.s44 z z) hT z (.by1 7 z (.lg (L1:=[ae (sv v6) 3 1 (D.int .i64) y4]) [(Box.mk x1.Room y4)] bi T.u28 T.t44 (hS.to [0,0,0]) z z z (.agg (.flat (c1:=[vi x1.Room]) z (.row .nil))) ?_ z (fun _=>z)))⟩
   intro v7 W hS
   have hT:=hS.to [1]
   refine ⟨fun _=>hT,?_⟩
   have ⟨r1,hr1,h⟩:=bnd h
   refine .by1 8 z (.appv hr1 (hS.to [2,0,0]) T.u28 T.t44 z z z ?_)
   intro v8 W hS
   have hT:=hS.to [1]
   refine ⟨fun _=>hT,.tp' 9 z z hT (.done (.region (.q z (.q z (.nil ?_)))))⟩
   cases h
   exact ⟨z,v8,sb z,hS.to [0]⟩
  refine .exit ?_
  cases h
  exact ⟨by simp,z,v2,sb z,hS.to [0]⟩
 intro x E W hJ
 obtain ⟨rfl,v9,hE,hS⟩:=hJ
 refine ⟨_,hE.sub,?_⟩
 obtain rfl:=o9 h
 exact .g (.q z (.qn z (.ret (ac (vs:=[_]) v9 (rt z rn) z (hS.to [0])))))
theorem oH {a0 : ah} {aB : Hd} {aX : Hd} {w : World} {r : ah} (h : fv a0 = some r) (gQ : RO w aB 3 1 (D.int .i64) a0.Regs) (ir : RO w aX 3 1 (D.int .i64) a0.Mem) : Cl 32 #[.agg #[(sv aB),vi a0.Pc,(sv aX)]] w (Ret No w (fun s : Hd × Hd=>.agg #[(sv s.1),vi r.Pc,(sv s.2)]) (fun s=>[ae (sv s.1) 3 1 (D.int .i64) r.Regs,ae (sv s.2) 3 1 (D.int .i64) r.Mem])):=by
 unfold fv at h
 refine au Tryz.func32 z z ?_
 have hS:=Sep.start w
 refine .g (.c (.box hS z z ?_))
 intro g1 W hS
 refine .c (.alloc T.t38 hS ?_)
 intro g2 W hS
 refine .nil (.seq (.rk 9 hS [0,0] T.mix ?_))
 intro W hS
 have hT:=hS.to [0,0]
 refine .ts' 0 z (fun W hT=>fa T.f38_0 z z z) hT z (.ts' 1 z (fun W hT=>ld T.t23 hT.p1 z z z z z) hT z (.ts' 3 z (fun W hT=>fa T.f38_1 z z z) hT z (.ts' 4 z (fun W hT=>ld T.t3 hT.p1 z z z z z) hT z (.ts' 5 z (fun W hT=>fa T.f38_2 z z z) hT z (.ts' 6 z (fun W hT=>ld T.t23 hT.p1 z z z z z) hT z ?_)))))
 have ⟨y1,hy1,h⟩:=bnd h
 refine .by1 2 z (.cV hS Tryz.func31 (ch hy1 (hS.keep gQ)) z z ?_)
 intro v1 W hS
 have hT:=hS.to [1,1]
 refine ⟨fun _=>hT,?_⟩
 have ⟨y2,hy2,h⟩:=bnd h
 refine .by1 7 z (.cV hS Tryz.func31 (ch hy2 (hS.keep ir)) z z ?_)
 intro v2 W hS
 have hT:=hS.to [2,2]
 refine ⟨fun _=>hT,.ts' 8 z (fun W hT=>bs T.s38 z z) hT z (.by1 9 z (.st T.t38 hS.p2 z z z ?_))⟩
 intro W hS
 refine ⟨fun h=>absurd z h,?_⟩
 cases h
 exact .done (.ret (ac (vs:=[_]) (v1,v2) (rc hS T.t38 z rn z z) z (hS.to [2,1])))
theorem rh {a0 : Int} {a1 : Int} {a2 : Int} {a3 : Int} {w : World} {r : Int × Int × Bool} (h : dA a0 a1 a2 a3 = some r) : Cl 50 #[vi a0,vi a1,vi a2,vi a3] w (RU w (.tuple #[vi r.1,vi r.2.1,.bool r.2.2])):=by
 unfold dA at h
 refine au Tryz.func50 z z ?_
 have hS:=Sep.start w
 refine .g (.q z (.q z (.qn z (.seq (.g (.q z (.q z (.q z (.cu 3 16 ((decide (a0 < 1)) || (decide (a0 > 3))) hS ?_ ?_)))))))))
 ·refine .both (decide (a0 < 1)) (fun hb=>?_) (fun hb=>?_)
  ·exact .xx hb z (.xx hb z (.s (pkt hb z z z) z (.nil (ck 3 hS z (gn hb)))))
  have hg1:=hb
  exact .g hg1 (.q z (.g hg1 (.q z (.s (pkf hg1 z z z) z (.nil (ck 3 hS z (go hg1)))))))
 intro W hS
 refine .q z (.cu 3 20 (((decide (a0 < 1)) || (decide (a0 > 3))) || (decide (a1 < 0))) hS ?_ ?_)
 ·refine .both ((decide (a0 < 1)) || (decide (a0 > 3))) (fun hb=>?_) (fun hb=>?_)
  ·exact .xx hb z (.xx hb z (.s (pkt hb z z z) z (.nil (ck 3 hS z (gn hb)))))
  have hg2:=hb
  exact .g hg2 (.q z (.g hg2 (.q z (.s (pkf hg2 z z z) z (.nil (ck 3 hS z (go hg2)))))))
 intro W hS
 refine .q z (.cu 4 25 ((((decide (a0 < 1)) || (decide (a0 > 3))) || (decide (a1 < 0))) || (decide (a1 ≥ a0))) hS ?_ ?_)
 ·refine .both (((decide (a0 < 1)) || (decide (a0 > 3))) || (decide (a1 < 0))) (fun hb=>?_) (fun hb=>?_)
  ·exact .xx hb z (.xx hb z (.xx hb z (.s (pkt hb z z z) z (.nil (ck 4 hS z (gn hb))))))
  have hg3:=hb
  exact .g hg3 (.q z (.g hg3 (.q z (.g hg3 (.q z (.s (pkf hg3 z z z) z (.nil (ck 4 hS z (go hg3)))))))))
 intro W hS
 refine .q z (.cu 3 29 (((((decide (a0 < 1)) || (decide (a0 > 3))) || (decide (a1 < 0))) || (decide (a1 ≥ a0))) || (decide (a2 < 0))) hS ?_ ?_)
 ·refine .both ((((decide (a0 < 1)) || (decide (a0 > 3))) || (decide (a1 < 0))) || (decide (a1 ≥ a0))) (fun hb=>?_) (fun hb=>?_)
  ·exact .xx hb z (.xx hb z (.s (pkt hb z z z) z (.nil (ck 3 hS z (gn hb)))))
  have hg4:=hb
  exact .g hg4 (.q z (.g hg4 (.q z (.s (pkf hg4 z z z) z (.nil (ck 3 hS z (go hg4)))))))
 intro W hS
 refine .q z (.cu 4 34 ((((((decide (a0 < 1)) || (decide (a0 > 3))) || (decide (a1 < 0))) || (decide (a1 ≥ a0))) || (decide (a2 < 0))) || (decide (a2 ≥ a0))) hS ?_ ?_)
 ·refine .both (((((decide (a0 < 1)) || (decide (a0 > 3))) || (decide (a1 < 0))) || (decide (a1 ≥ a0))) || (decide (a2 < 0))) (fun hb=>?_) (fun hb=>?_)
  ·exact .xx hb z (.xx hb z (.xx hb z (.s (pkt hb z z z) z (.nil (ck 4 hS z (gn hb))))))
  have hg5:=hb
  exact .g hg5 (.q z (.g hg5 (.q z (.g hg5 (.q z (.s (pkf hg5 z z z) z (.nil (ck 4 hS z (go hg5)))))))))
 intro W hS
 refine .nil ?_
 refine .cs z h ?_ ?_ <;> intro h
 ·cases h
  exact .g (.q z (.q z (.qn z (.ret (ac (vs:=[_,_,_]) () (rt z (rt z (rt z rn))) z (hS.to []))))))
 refine .skip (.seq (.g (.qn z (.block (.g (.q z (.q z (.nil ?_))))))))
 refine .cs z h ?_ ?_ <;> intro h
 ·cases h
  exact .g (.q z (.q z (.q z (.qn z (.ret (ac (vs:=[_,_,_]) () (rt z (rt z (rt z rn))) z (hS.to [])))))))
 refine .g (.q z (.q z (.nil ?_)))
 refine .cs z h ?_ ?_ <;> intro h
 ·refine .g (.q z (.q z (.q z ?_)))
  have ⟨d1,hd1,h⟩:=bnd h
  cases h
  exact .s (dr hd1 z z z) z (.q z (.q z (.qn z (.ret (ac (vs:=[_,_,_]) () (rt z (rt z (rt z rn))) z (hS.to []))))))
 have ⟨y1,hy1,h⟩:=bnd h
 refine .seq (CW.via (R':=fun x E' W'=>x = .normal ∧ aD E' [(0,vi a0),(1,vi a1),(2,vi a2),(45,.bool y1)] ∧ Sep No w W' []) ?_ ?_)
 ·have h:=hy1
  refine .g (.q z (.q z (.nil ?_)))
  refine .cs z h ?_ ?_ <;> intro h
  ·refine .skip ?_
   cases h
   exact ⟨z,sb z,hS.to []⟩
  refine .region (.q z (.q z (.nil ?_)))
  cases h
  exact ⟨z,sb z,hS.to []⟩
 intro x E W hJ
 obtain ⟨rfl,hE,hS⟩:=hJ
 refine ⟨_,hE.sub,?_⟩
 refine .cs z h ?_ ?_ <;> intro h
 ·refine .g (.q z (.q z (.q z ?_)))
  have ⟨d2,hd2,h⟩:=bnd h
  cases h
  exact .s (dr hd2 z z z) z (.q z (.q z (.q z (.q z (.qn z (.ret (ac (vs:=[_,_,_]) () (rt z (rt z (rt z rn))) z (hS.to []))))))))
 cases h
 exact .skip (.g (.q z (.q z (.qn z (.ret (ac (vs:=[_,_,_]) () (rt z (rt z (rt z rn))) z (hS.to [])))))))
theorem po {a0 : Box} {a1 : Int} {dG : Hd} {h_0 : Hd} {A_0 : Type} {e_0 : A_0 → D} {l_0 : List A_0} {k_0 : Nat} {S : Nat → Prop} {w : World} {r : Bool × (List Int)} (h : fI a0 a1 = some r) (hO : bJ w [ae (sv dG) 3 1 (D.int .i64) a0.Items,bZ (sv h_0) 44 2 e_0 l_0 k_0 [vi a0.Room,(sv dG)]] S) (hlt : ∀ b,S b → b < w.heap.size) : Cl 51 #[.pointer (some (co (adr (sv h_0)) (k_0 * 2 + 0))),vi a1] w (Ret S w (fun s : Hd=>.bool r.1) (fun s=>[bZ (sv h_0) 44 2 e_0 l_0 k_0 [vi a0.Room,(sv s)],ae (sv s) 3 1 (D.int .i64) r.2])):=by
 unfold fI at h
 refine au Tryz.func51 z z ?_
 have hS:=Sep.sm hO hlt
 refine .g (.qn z (.seq (.seq (.rk 10 hS [0,0] T.mix ?_))))
 intro W hS
 have hT:=hS.to [0,0]
 refine .tp' 0 z z hT (.tp' 1 z z hT (.ts' 2 z (fun W hT=>fe T.f44_1 z z z) hT z (.ts' 3 z (fun W hT=>lde (hT.p1.hcellsv) T.t23 z z z z z) hT z (.ts' 4 z (fun W hT=>bw hS.lv T.u23 z z) hT z (.tp' 5 z z hT (.tp' 6 z z hT (.ts' 7 z (fun W hT=>fe T.f44_0 z z z) hT z (.ts' 8 z (fun W hT=>lde (hT.p1.hcellsv) T.t3 z z z z z) hT z (.tp' 9 z z hT (.done ?_))))))))))
 refine .cs z h ?_ ?_ <;> intro h
 ·cases h
  exact .g (.qn z (.ret (ac (vs:=[_]) dG (rt z rn) z (hS.to [1,0]))))
 refine .skip (.g (.q z (.q z (.q z (.s (fe T.f44_1 z z z) z (.s (lde (hS.p1.hcellsv) T.t23 z z z z z) z (.q z (.c (.liv [a1] (D.int .i64) T.u23 T.t3 hS z z z z ?_ z (fun _=>z))))))))))
 intro v1 W hS
 have ⟨r1,hr1,h⟩:=bnd h
 have hT0:=hS.p1
 refine .c (.av hr1 hT0 hT0.p1.lv (fun _=>z) T.u23 T.t3 z z z ?_)
 intro v2 W hS
 refine .q z (.s (fe T.f44_1 z z z) z (.c (.sthv hS.p2 T.t23 z z z ?_)))
 intro W hS
 cases h
 exact .nil (.g (.qn z (.ret (ac (vs:=[_]) v2 (rt z rn) z (hS.to [0,0])))))
theorem oI {a0 : Box} {dG : Hd} {h_0 : Hd} {A_0 : Type} {e_0 : A_0 → D} {l_0 : List A_0} {k_0 : Nat} {S : Nat → Prop} {w : World} {r : Int × Bool × (List Int)} (h : eV a0 = some r) (hO : bJ w [ae (sv dG) 3 1 (D.int .i64) a0.Items,bZ (sv h_0) 44 2 e_0 l_0 k_0 [vi a0.Room,(sv dG)]] S) (hlt : ∀ b,S b → b < w.heap.size) : Cl 52 #[.pointer (some (co (adr (sv h_0)) (k_0 * 2 + 0)))] w (Ret S w (fun s : Hd=>.tuple #[vi r.1,.bool r.2.1]) (fun s=>[bZ (sv h_0) 44 2 e_0 l_0 k_0 [vi a0.Room,(sv s)],ae (sv s) 3 1 (D.int .i64) r.2.2])):=by
 unfold eV at h
 refine au Tryz.func52 z z ?_
 have hS:=Sep.sm hO hlt
 refine .g (.q z (.qn z (.seq (.g (.q z (.q z (.s (fe T.f44_1 z z z) z (.s (lde (hS.p1.hcellsv) T.t23 z z z z z) z (.s (bw hS.lv T.u23 z z) z (.q z (.nil ?_)))))))))))
 refine .cs z h ?_ ?_ <;> intro h
 ·cases h
  exact .g (.q z (.qn z (.ret (ac (vs:=[_,_]) dG (rt z (rt z rn)) z (hS.to [1,0])))))
 refine .skip (.g (.q z (.q z (.s (fe T.f44_1 z z z) z (.s (lde (hS.p1.hcellsv) T.t23 z z z z z) z ?_)))))
 have ⟨x1,hx1,h⟩:=bnd h
 refine .s (ixv hS.lv hx1 T.u23 T.t3 z z z) z (.s (lde (RV.flat hS.lv hx1 z) T.t3 z z z z z) z (.qn z (.seq ?_)))
 have ⟨r1,hr1,h⟩:=bnd h
 have ⟨r2,hr2,h⟩:=bnd h
 refine .rm 11 (fun W=>Sep S w W [bZ (sv h_0) 44 2 e_0 l_0 k_0 [vi a0.Room,(sv dG)]]) hS T.mix ?_
 intro W hS
 have hT:=hS.to [1]
 have hq:=hS.lv
 refine .tp 0 z (fun W=>pr z) hT (.tp 1 z (fun W=>pr z) hT (.tp 2 z (fun W=>pr z) hT (.tp 3 z (fun W=>fe T.f44_1 z z z) hT (.t1 4 5 z (fun W hT=>lde (hT.hcellsv) T.t23 z z z z z) hT (.tp 6 z (fun W=>pr z) hT (.tp 7 z (fun W=>pr z) hT (.tp 8 z (fun W=>fe T.f44_1 z z z) hT (.t1 9 10 z (fun W hT=>lde (hT.hcellsv) T.t23 z z z z z) hT (.tp 5 z (fun W=>slv yr hq T.u23 T.t3 z z z z) hT (.tp 10 z (fun W=>slv hr1 hq T.u23 T.t3 z z z z) hT (.byd 11 z (.tak hr1 hr2 hS (fun _=>z) T.u23 T.t3 z z z ?_)) (by kernel_rfl) z z) (by kernel_rfl) z z) (by kernel_rfl) z z) (by kernel_rfl) z z) (by kernel_rfl) z z) (by kernel_rfl) z z) (by kernel_rfl) z z) (by kernel_rfl) z z) (by kernel_rfl) z z) (by kernel_rfl) z z) (by kernel_rfl) z z
 intro v1 W hS
 refine .byd 12 z (.runs (pr z) z z (.byd 13 z (.runs (fe T.f44_1 z z z) z z (.byd 14 z (.sthv hS.p1 T.t23 z z z ?_)))))
 intro W hS
 cases h
 exact .done (.g (.q z (.q z (.qn z (.ret (ac (vs:=[_,_]) v1 (rt z (rt z rn)) z (hS.to [0,0])))))))
theorem mD {a0 : kY} {a1 : Int} {a2 : Int} {w : World} {r : Bool} (h : bD a0 a1 a2 = some r) : Cl 80 #[.agg #[.string a0.name,vi a0.opcode,vi a0.funct3,vi a0.funct7],vi a1,vi a2] w (RU w (.bool r)):=by
 unfold bD at h
 refine au Tryz.func80 z z ?_
 have hS:=Sep.start w
 refine .g (.c (.box hS z z ?_))
 intro g1 W hS
 refine .qn z (.seq (.g (.s (fa T.f114_1 z z z) z (.s (ld T.t3 hS z z z z z) z (.q z (.q z (.q z (.nil ?_))))))))
 refine .cs z h ?_ ?_ <;> intro h
 ·obtain rfl:=o9 h
  exact .g (.qn z (.ret (ac (vs:=[_]) () (rt z rn) z (hS.to []))))
 refine .skip (.seq (.g (.q z ?_)))
 have ⟨y1,hy1,h⟩:=bnd h
 refine .c (.cO hS Tryz.func106 (iq hy1) z z ?_)
 intro W hS
 refine .nil (.block (.g (.q z (.q z (.nil ?_)))))
 refine .cs z h ?_ ?_ <;> intro h
 ·refine .seq ?_
  have ⟨y2,hy2,h⟩:=bnd h
  have ⟨b1,hb1,h⟩:=bnd h
  refine .via (R':=fun x E' W'=>x = .normal ∧ aD E' [(6,.bool b1)] ∧ Sep No w W' [.box g1 114 [.string a0.name,vi a0.opcode,vi a0.funct3,vi a0.funct7]]) ?_ ?_
  ·refine .rk 13 hS [0] T.mix ?_
   intro W hS
   have hT:=hS.to [0]
   refine .ts' 0 z (fun W hT=>fa T.f114_2 z z z) hT z (.ts' 1 z (fun W hT=>ld T.t3 hT z z z z z) hT z (.tp' 2 z z hT (.by1 3 z (.cO hS Tryz.func105 (bQ hy2) z z ?_))))
   intro W hS
   have hT:=hS.to [0]
   refine ⟨fun _=>hT,.tp' 4 z z hT (.tp' 5 z z hT (.both (a0.funct3 == y2) (fun hb=>?_) (fun hb=>?_)))⟩
   ·have hg1:=hb
    have h_b1:=aI hb hb1
    refine .t1g 6 z hg1 (fun W hT=>fa T.f114_3 z z z) hT (.t1g 7 z hg1 (fun W hT=>ld T.t3 hT z z z z z) hT (.t1g 8 z hg1 (fun W hT=>pr z) hT ?_ (by kernel_rfl) z z) (by kernel_rfl) z z) (by kernel_rfl) z z
    have ⟨y3,hy3,h_b1⟩:=bnd h_b1
    refine .by1 9 z (.gd hg1 (.cO hS Tryz.func105 (bQ hy3) z z ?_))
    intro W hS
    have hT:=hS.to [0]
    refine ⟨fun _=>hT,?_⟩
    exact .t1g 10 z hg1 (fun W hT=>pr z) hT (.ts' 11 z (fun W hT=>pkt hg1 z z z) hT z (.eqv 27 z (kQ h_b1) (.tp' 12 z z hT (.done (⟨z,sb z,hS.to [0]⟩))))) (by kernel_rfl) z z
   exact .off 6 z hb hT (.off 7 z hb hT (.off 8 z hb hT (.off 9 z hb hT (.off 10 z hb hT (.ts' 11 z (fun W hT=>pkf hb z z z) hT z (.eqv 27 z (kQ (aJ hb hb1)) (.tp' 12 z z hT (.done (⟨z,sb z,hS.to [0]⟩))))) (by kernel_rfl) z z) (by kernel_rfl) z z) (by kernel_rfl) z z) (by kernel_rfl) z z) (by kernel_rfl) z z
  intro x E W hJ
  obtain ⟨rfl,hE,hS⟩:=hJ
  refine ⟨_,hE.sub,?_⟩
  obtain rfl:=o9 h
  exact .ret (ac (vs:=[_]) () (rt z rn) z (hS.to []))
 have ⟨y4,hy4,h⟩:=bnd h
 refine .seq (CW.via (R':=fun x E' W'=>x = .normal ∧ aD E' [(2,vi a2),(3,pt g1),(28,.bool y4)] ∧ Sep No w W' [.box g1 114 [.string a0.name,vi a0.opcode,vi a0.funct3,vi a0.funct7]]) ?_ ?_)
 ·have h:=hy4
  refine .g (.q z (.q z (.nil ?_)))
  refine .cs z h ?_ ?_ <;> intro h
  ·refine .skip ?_
   cases h
   exact ⟨z,sb z,hS.to [0]⟩
  refine .g (.q z (.q z (.nil ?_)))
  refine .cs z h ?_ ?_ <;> intro h
  ·refine .skip ?_
   cases h
   exact ⟨z,sb z,hS.to [0]⟩
  refine .region (.q z (.q z (.nil ?_)))
  cases h
  exact ⟨z,sb z,hS.to [0]⟩
 intro x E W hJ
 obtain ⟨rfl,hE,hS⟩:=hJ
 refine ⟨_,hE.sub,?_⟩
 refine .cs z h ?_ ?_ <;> intro h
 ·refine .seq (.rk 6 hS [0] T.mix ?_)
  intro W hS
  have hT:=hS.to [0]
  refine .ts' 0 z (fun W hT=>fa T.f114_2 z z z) hT z (.ts' 1 z (fun W hT=>ld T.t3 hT z z z z z) hT z (.tp' 2 z z hT ?_))
  have ⟨y5,hy5,h⟩:=bnd h
  refine .by1 3 z (.cO hS Tryz.func105 (bQ hy5) z z ?_)
  intro W hS
  have hT:=hS.to [0]
  refine ⟨fun _=>hT,?_⟩
  cases h
  exact .tp' 4 z z hT (.tp' 5 z z hT (.done (.ret (ac (vs:=[_]) () (rt z rn) z (hS.to [])))))
 obtain rfl:=o9 h
 exact .skip (.g (.qn z (.ret (ac (vs:=[_]) () (rt z rn) z (hS.to [])))))
theorem fN {a0 : Int} {a1 : Int} {w : World} {r : Int} (h : cz a0 a1 = some r) : Cl 109 #[vi a0,vi a1] w (RU w (.int .i64 r)):=by
 unfold cz at h
 refine au Tryz.func109 z z ?_
 have hS:=Sep.start w
 refine .g (.qn z (.seq (.g (.q z (.q z (.q z (.cu 3 10 ((decide (a1 < 1)) || (decide (a1 > 32))) hS ?_ ?_)))))))
 ·refine .both (decide (a1 < 1)) (fun hb=>?_) (fun hb=>?_)
  ·exact .xx hb z (.xx hb z (.s (pkt hb z z z) z (.nil (ck 3 hS z (gn hb)))))
  have hg1:=hb
  exact .g hg1 (.q z (.g hg1 (.q z (.s (pkf hg1 z z z) z (.nil (ck 3 hS z (go hg1)))))))
 intro W hS
 refine .q z (.cu 3 14 (((decide (a1 < 1)) || (decide (a1 > 32))) || (decide (a0 < 0))) hS ?_ ?_)
 ·refine .both ((decide (a1 < 1)) || (decide (a1 > 32))) (fun hb=>?_) (fun hb=>?_)
  ·exact .xx hb z (.xx hb z (.s (pkt hb z z z) z (.nil (ck 3 hS z (gn hb)))))
  have hg2:=hb
  exact .g hg2 (.q z (.g hg2 (.q z (.s (pkf hg2 z z z) z (.nil (ck 3 hS z (go hg2)))))))
 intro W hS
 refine .q z ?_
 have ⟨b1,hb1,h⟩:=bnd h
 refine .cu 5 20 (b1) hS ?_ ?_
 ·refine .both (((decide (a1 < 1)) || (decide (a1 > 32))) || (decide (a0 < 0))) (fun hb=>?_) (fun hb=>?_)
  ·refine .xx hb z (.xx hb z (.xx hb z (.xx hb z ?_)))
   cases aI hb hb1
   exact .s (pkt hb z z z) z (.nil (ck 5 hS))
  have hg3:=hb
  have h:=aJ hb hb1
  refine .g hg3 (.q z (.g hg3 (.q z ?_)))
  have ⟨d1,hd1,h⟩:=bnd h
  refine .g hg3 (.s (kR hd1 z z z) z (.g hg3 (.q z (.s (pkf hg3 z z z) z ?_))))
  cases h
  exact .nil (ck 5 hS)
 intro W hS
 refine .nil ?_
 refine .cs z h ?_ ?_ <;> intro h
 ·cases h
  exact .g (.qn z (.ret (ac (vs:=[_]) () (rt z rn) z (hS.to []))))
 refine .skip (.seq (.g (.q z (.q z (.q z ?_)))))
 have ⟨d2,hd2,h⟩:=bnd h
 refine .s (kR hd2 z z z) z (.q z (.nil ?_))
 refine .cs z h ?_ ?_ <;> intro h
 ·refine .g (.q z (.q z ?_))
  have ⟨d3,hd3,h⟩:=bnd h
  cases h
  exact .s (kR hd3 z z z) z (.q z (.qn z (.ret (ac (vs:=[_]) () (rt z rn) z (hS.to [])))))
 obtain rfl:=o9 h
 exact .skip (.g (.q z (.qn z (.ret (ac (vs:=[_]) () (rt z rn) z (hS.to []))))))
theorem ri {a0 : Int} {a1 : Int} {w : World} {r : Instr} (h : cA a0 a1 = some r) : Cl 81 #[vi a0,vi a1] w (RU w (.agg #[vi r.Op,vi r.Rd,vi r.Rs,vi r.Rt,vi r.Imm])):=by
 unfold cA at h
 refine au Tryz.func81 z z ?_
 have hS:=Sep.start w
 refine .g (.c (.alloc T.t51 hS ?_))
 intro g1 W hS
 refine .nil (.g (.q z ?_))
 have ⟨y1,hy1,h⟩:=bnd h
 refine .c (.cO hS Tryz.func105 (bQ hy1) z z ?_)
 intro W hS
 refine .q z ?_
 have ⟨y2,hy2,h⟩:=bnd h
 refine .c (.cO hS Tryz.func105 (bQ hy2) z z ?_)
 intro W hS
 refine .q z ?_
 have ⟨y3,hy3,h⟩:=bnd h
 refine .c (.cO hS Tryz.func105 (bQ hy3) z z ?_)
 intro W hS
 refine .q z (.q z (.qn z (.seq (.g (.q z ?_)))))
 have ⟨y4,hy4,h⟩:=bnd h
 refine .c (.cO hS Tryz.func106 (iq hy4) z z ?_)
 intro W hS
 refine .nil (.block (.g (.q z (.q z (.nil ?_)))))
 refine .cs z h ?_ ?_ <;> intro h
 ·refine .g (.q z (.q z (.q z (.q z (.s (bs T.s51 z z) z (.c (.st T.t51 hS z z z ?_)))))))
  intro W hS
  cases h
  exact .nil (.ret (ac (vs:=[_]) () (rc hS T.t51 z rn z z) z (hS.to [])))
 refine .g (.q z (.q z (.nil ?_)))
 refine .cs z h ?_ ?_ <;> intro h
 ·refine .g (.q z (.q z (.q z (.q z ?_))))
  have ⟨y5,hy5,h⟩:=bnd h
  refine .c (.cO hS Tryz.func105 (bQ hy5) z z ?_)
  intro W hS
  have ⟨y6,hy6,h⟩:=bnd h
  refine .c (.cO hS Tryz.func109 (fN hy6) z z ?_)
  intro W hS
  refine .s (bs T.s51 z z) z (.c (.st T.t51 hS z z z ?_))
  intro W hS
  cases h
  exact .nil (.ret (ac (vs:=[_]) () (rc hS T.t51 z rn z z) z (hS.to [])))
 refine .g (.q z (.q z (.nil ?_)))
 refine .cs z h ?_ ?_ <;> intro h
 ·refine .g (.q z (.q z (.q z (.q z ?_))))
  have ⟨y7,hy7,h⟩:=bnd h
  refine .c (.cO hS Tryz.func105 (bQ hy7) z z ?_)
  intro W hS
  refine .q z (.q z (.q z ?_))
  have ⟨y8,hy8,h⟩:=bnd h
  refine .c (.cO hS Tryz.func109 (fN hy8) z z ?_)
  intro W hS
  refine .s (bs T.s51 z z) z (.c (.st T.t51 hS z z z ?_))
  intro W hS
  cases h
  exact .nil (.ret (ac (vs:=[_]) () (rc hS T.t51 z rn z z) z (hS.to [])))
 refine .g (.q z (.q z (.nil ?_)))
 refine .cs z h ?_ ?_ <;> intro h
 ·refine .g (.q z ?_)
  have ⟨y9,hy9,h⟩:=bnd h
  refine .c (.cO hS Tryz.func105 (bQ hy9) z z ?_)
  intro W hS
  refine .q z (.q z ?_)
  have ⟨y10,hy10,h⟩:=bnd h
  refine .c (.cO hS Tryz.func105 (bQ hy10) z z ?_)
  intro W hS
  refine .q z (.q z (.q z ?_))
  have ⟨y11,hy11,h⟩:=bnd h
  refine .c (.cO hS Tryz.func105 (bQ hy11) z z ?_)
  intro W hS
  refine .q z (.q z (.q z ?_))
  have ⟨y12,hy12,h⟩:=bnd h
  refine .c (.cO hS Tryz.func105 (bQ hy12) z z ?_)
  intro W hS
  refine .q z (.q z (.qn z (.g (.q z (.q z (.q z (.q z ?_)))))))
  have ⟨y13,hy13,h⟩:=bnd h
  refine .c (.cO hS Tryz.func109 (fN hy13) z z ?_)
  intro W hS
  refine .s (bs T.s51 z z) z (.c (.st T.t51 hS z z z ?_))
  intro W hS
  cases h
  exact .nil (.ret (ac (vs:=[_]) () (rc hS T.t51 z rn z z) z (hS.to [])))
 refine .g (.q z (.q z (.nil ?_)))
 refine .cs z h ?_ ?_ <;> intro h
 ·refine .g (.q z (.q z (.q z ?_)))
  have ⟨y14,hy14,h⟩:=bnd h
  refine .c (.cO hS Tryz.func105 (bQ hy14) z z ?_)
  intro W hS
  refine .s (bs T.s51 z z) z (.c (.st T.t51 hS z z z ?_))
  intro W hS
  cases h
  exact .nil (.ret (ac (vs:=[_]) () (rc hS T.t51 z rn z z) z (hS.to [])))
 refine .g (.q z (.q z (.nil ?_)))
 refine .cs z h ?_ ?_ <;> intro h
 ·refine .g (.q z ?_)
  have ⟨y15,hy15,h⟩:=bnd h
  refine .c (.cO hS Tryz.func105 (bQ hy15) z z ?_)
  intro W hS
  refine .q z (.q z ?_)
  have ⟨y16,hy16,h⟩:=bnd h
  refine .c (.cO hS Tryz.func105 (bQ hy16) z z ?_)
  intro W hS
  refine .q z (.q z (.q z ?_))
  have ⟨y17,hy17,h⟩:=bnd h
  refine .c (.cO hS Tryz.func105 (bQ hy17) z z ?_)
  intro W hS
  refine .q z (.q z (.q z ?_))
  have ⟨y18,hy18,h⟩:=bnd h
  refine .c (.cO hS Tryz.func105 (bQ hy18) z z ?_)
  intro W hS
  refine .q z (.q z (.qn z (.g (.q z (.q z (.q z ?_))))))
  have ⟨y19,hy19,h⟩:=bnd h
  refine .c (.cO hS Tryz.func109 (fN hy19) z z ?_)
  intro W hS
  refine .s (bs T.s51 z z) z (.c (.st T.t51 hS z z z ?_))
  intro W hS
  cases h
  exact .nil (.ret (ac (vs:=[_]) () (rc hS T.t51 z rn z z) z (hS.to [])))
 refine .skip (.g (.q z (.s (bs T.s51 z z) z (.c (.st T.t51 hS z z z ?_)))))
 intro W hS
 cases h
 exact .nil (.ret (ac (vs:=[_]) () (rc hS T.t51 z rn z z) z (hS.to [])))
def me (w : World) (r : Instr × Bool) : Env → World → Prop:=Fin Tryz.prog Tryz.f54 No w (fun s : Unit=>.tuple #[.agg #[vi r.1.Op,vi r.1.Rd,vi r.1.Rs,vi r.1.Rt,vi r.1.Imm],.bool r.2]) (fun s=>[]) .ret
theorem oJ {a0 : Int} {w : World} {r : Instr × Bool} (h : cE a0 = some r) (hG : Gl w) : Cl 54 #[vi a0] w (RU w (.tuple #[.agg #[vi r.1.Op,vi r.1.Rd,vi r.1.Rs,vi r.1.Rt,vi r.1.Imm],.bool r.2])):=by
 unfold cE at h
 refine au Tryz.func54 z z ?_
 have hS:=Sep.start w
 refine .g (.c (.alloc T.t51 hS ?_))
 intro g1 W hS
 refine .qn z (.seq (.g (.q z ?_)))
 have ⟨y1,hy1,h⟩:=bnd h
 refine .c (.cO hS Tryz.func79 (mc hy1) z z ?_)
 intro W hS
 refine .q z (.nil ?_)
 refine .cs z h ?_ ?_ <;> intro h
 ·refine .g (.s (bs T.s51 z z) z (.c (.st T.t51 hS z z z ?_)))
  intro W hS
  cases h
  exact .qn z (.ret (ac (vs:=[_,_]) () (rc hS T.t51 z (rt z rn) z z) z (hS.to [])))
 refine .skip (.seq (.g (.qn z (.block ?_))))
 have ⟨y2,hy2,h⟩:=bnd h
 refine .via (.iter (fun s1 E' W'=>aD E' [(0,vi a0),(2,pt g1),(4,vi s1)] ∧ Sep No w W' [.box g1 51 [vi 0,vi 0,vi 0,vi 0,vi 0]]) (fun y3 x E' W'=>(match y3 with | .inl o1=>x = .ret ∧ me w o1 E' W' | .inr o2=>x = .exit 0 ∧ aD E' [(2,pt g1)] ∧ Sep No w W' [.box g1 51 [vi 0,vi 0,vi 0,vi 0,vi 0]])) hy2 ⟨sb rfl,hS.to [0] rfl⟩ ?_) ?_
 ·intro s1 y4 E W h hI
  obtain ⟨hE,hS⟩:=hI
  refine CW.sub hE ?_
  unfold dg at h
  refine .seq (.g (.q z (.q z (.nil ?_))))
  refine .cs z h ?_ ?_ <;> intro h
  ·refine .skip ?_
   have ⟨y5,hy5,h⟩:=bnd h
   refine .seq (CW.via (R':=fun x E' W'=>(match y5 with | .inl o3=>x = .normal ∧ aD E' [(0,vi a0),(2,pt g1),(4,vi s1)] ∧ Sep No w W' [.box g1 51 [vi 0,vi 0,vi 0,vi 0,vi 0]] | .inr o4=>x = .ret ∧ me w o4 E' W')) ?_ ?_)
   ·have h:=hy5
    refine .block (.seq (.g (.q z (.q z ?_))))
    have ⟨x1,hx1,h⟩:=bnd h
    refine .s (ixt hx1 z T.u115 T.t114 z z z) z (.s (ldt (hG.at hS (fun _ _ h=>h)).2 hx1 T.t114 z z z z z) z (.q z (.q z ?_)))
    have ⟨y6,hy6,h⟩:=bnd h
    refine .c (.cO hS Tryz.func80 (mD hy6) z z ?_)
    intro W hS
    refine .q z (.nil ?_)
    refine .cs z h ?_ ?_ <;> intro h
    ·refine .exit ?_
     cases h
     exact ⟨z,sb z,hS.to [0]⟩
    refine .skip (.g (.q z (.q z ?_)))
    have ⟨y7,hy7,h⟩:=bnd h
    refine .c (.cO hS Tryz.func81 (ri hy7) z z ?_)
    intro W hS
    refine .c (.alloc T.t51 hS ?_)
    intro g2 W hS
    refine .c (.st T.t51 hS z z z ?_)
    intro W hS
    refine .nil (.g (.s (ld T.t51 hS z z z z z) z ?_))
    have ⟨y8,hy8,h⟩:=bnd h
    refine .c (.cO hS Tryz.func72 (lA hy8 (hG.at hS (fun _ _ h=>h))) z z ?_)
    intro W hS
    refine .q z (.q z (.q z (.q z (.qn z (.g (.q z (.q z (.cu 4 37 (y8.2 && (y8.1 == a0)) hS ?_ ?_))))))))
    ·refine .both (y8.2) (fun hb=>?_) (fun hb=>?_)
     ·have hg1:=hb
      exact .g hg1 (.q z (.g hg1 (.q z (.g hg1 (.q z (.s (pkt hg1 z z z) z (.nil (ck 4 hS z (bM hg1)))))))))
     exact .xx hb z (.xx hb z (.xx hb z (.s (pkf hb z z z) z (.nil (ck 4 hS z (bN hb))))))
    intro W hS
    refine .nil ?_
    refine .cs z h ?_ ?_ <;> intro h
    ·refine .g (.s (ld T.t51 hS z z z z z) z (.c (.st T.t51 hS.p1 z z z ?_)))
     intro W hS
     refine .qn z (.ret ?_)
     cases h
     exact ⟨z,ac (vs:=[_,_]) () (rc hS T.t51 z (rt z rn) z z) z (hS.to [])⟩
    refine .skip ?_
    cases h
    exact ⟨z,sb z,hS.to [1]⟩
   intro x E W hJ
   rcases y5 with o5 | o6
   ·obtain ⟨rfl,hE,hS⟩:=hJ
    refine ⟨_,hE.sub,?_⟩
    refine .region (.q z (.q z (.q z (.nil ?_))))
    cases h
    exact ⟨z,sb z,hS.to [0]⟩
   obtain ⟨rfl,hF⟩:=hJ
   refine ⟨_,fun _ _ h=>h,?_⟩
   cases h
   exact ⟨by simp,z,hF⟩
  refine .exit ?_
  cases h
  exact ⟨by simp,z,sb z,hS.to [0]⟩
 intro x E W hJ
 rcases y2 with o7 | o8
 ·obtain ⟨rfl,hF⟩:=hJ
  refine ⟨_,fun _ _ h=>h,?_⟩
  cases h
  exact hF
 obtain ⟨rfl,hE,hS⟩:=hJ
 refine ⟨_,hE.sub,?_⟩
 refine .g (.s (bs T.s51 z z) z (.c (.st T.t51 hS z z z ?_)))
 intro W hS
 cases h
 exact .qn z (.ret (ac (vs:=[_,_]) () (rc hS T.t51 z (rt z rn) z z) z (hS.to [])))
theorem mE {a0 : Bool} {w : World} {r : Int} (h : jo a0 = some r) : Cl 58 #[.bool a0] w (RU w (.int .i64 r)):=by
 unfold jo at h
 refine au Tryz.func58 z z ?_
 have hS:=Sep.start w
 refine .g (.qn z (.seq (.g (.q z (.nil ?_)))))
 refine .cs z h ?_ ?_ <;> intro h
 ·cases h
  exact .g (.qn z (.ret (ac (vs:=[_]) () (rt z rn) z (hS.to []))))
 cases h
 exact .skip (.g (.qn z (.ret (ac (vs:=[_]) () (rt z rn) z (hS.to [])))))
theorem tT {a0 : Int} {a1 : Int} {a2 : Int} {w : World} {r : Int} (h : lX a0 a1 a2 = some r) : Cl 59 #[vi a0,vi a1,vi a2] w (RU w (.int .i64 r)):=by
 unfold lX at h
 refine au Tryz.func59 z z ?_
 have hS:=Sep.start w
 refine .g (.qn z (.seq (.g (.qn z (.block (.g (.q z (.q z (.nil ?_)))))))))
 refine .cs z h ?_ ?_ <;> intro h
 ·cases h
  exact .g (.q z (.q z (.q z (.qn z (.ret (ac (vs:=[_]) () (rt z rn) z (hS.to [])))))))
 refine .g (.q z (.q z (.nil ?_)))
 refine .cs z h ?_ ?_ <;> intro h
 ·cases h
  exact .g (.q z (.q z (.q z (.qn z (.ret (ac (vs:=[_]) () (rt z rn) z (hS.to [])))))))
 refine .g (.q z (.q z (.nil ?_)))
 refine .cs z h ?_ ?_ <;> intro h
 ·cases h
  exact .g (.q z (.q z (.q z (.qn z (.ret (ac (vs:=[_]) () (rt z rn) z (hS.to [])))))))
 refine .g (.q z (.q z (.nil ?_)))
 refine .cs z h ?_ ?_ <;> intro h
 ·refine .g (.q z (.q z (.q z ?_)))
  have ⟨y1,hy1,h⟩:=bnd h
  refine .c (.cO hS Tryz.func58 (mE hy1) z z ?_)
  intro W hS
  obtain rfl:=o9 h
  exact .qn z (.ret (ac (vs:=[_]) () (rt z rn) z (hS.to [])))
 refine .g (.q z (.q z (.nil ?_)))
 refine .cs z h ?_ ?_ <;> intro h
 ·refine .g (.q z (.q z (.q z ?_)))
  have ⟨y2,hy2,h⟩:=bnd h
  refine .c (.cO hS Tryz.func58 (mE hy2) z z ?_)
  intro W hS
  obtain rfl:=o9 h
  exact .qn z (.ret (ac (vs:=[_]) () (rt z rn) z (hS.to [])))
 refine .g (.q z (.q z (.nil ?_)))
 refine .cs z h ?_ ?_ <;> intro h
 ·refine .g (.q z (.q z (.q z ?_)))
  have ⟨d1,hd1,h⟩:=bnd h
  refine .s (kR hd1 z z z) z ?_
  have ⟨y3,hy3,h⟩:=bnd h
  refine .c (.cO hS Tryz.func56 (cH hy3) z z ?_)
  intro W hS
  obtain rfl:=o9 h
  exact .qn z (.ret (ac (vs:=[_]) () (rt z rn) z (hS.to [])))
 refine .g (.q z (.q z (.nil ?_)))
 refine .cs z h ?_ ?_ <;> intro h
 ·refine .g (.q z (.q z (.q z ?_)))
  have ⟨d2,hd2,h⟩:=bnd h
  obtain rfl:=o9 h
  exact .s (kR hd2 z z z) z (.qn z (.ret (ac (vs:=[_]) () (rt z rn) z (hS.to []))))
 refine .g (.q z (.q z (.nil ?_)))
 refine .cs z h ?_ ?_ <;> intro h
 ·refine .g (.q z (.q z (.q z ?_)))
  have ⟨y4,hy4,h⟩:=bnd h
  refine .c (.cO hS Tryz.func56 (cH hy4) z z ?_)
  intro W hS
  obtain rfl:=o9 h
  exact .qn z (.ret (ac (vs:=[_]) () (rt z rn) z (hS.to [])))
 refine .g (.q z (.q z (.nil ?_)))
 refine .cs z h ?_ ?_ <;> intro h
 ·refine .g (.q z (.q z (.q z ?_)))
  have ⟨y5,hy5,h⟩:=bnd h
  refine .c (.cO hS Tryz.func56 (cH hy5) z z ?_)
  intro W hS
  obtain rfl:=o9 h
  exact .qn z (.ret (ac (vs:=[_]) () (rt z rn) z (hS.to [])))
 refine .g (.q z (.q z (.nil ?_)))
 refine .cs z h ?_ ?_ <;> intro h
 ·refine .g (.q z (.q z (.q z ?_)))
  have ⟨y6,hy6,h⟩:=bnd h
  refine .c (.cO hS Tryz.func56 (cH hy6) z z ?_)
  intro W hS
  obtain rfl:=o9 h
  exact .qn z (.ret (ac (vs:=[_]) () (rt z rn) z (hS.to [])))
 refine .g (.q z (.q z (.nil ?_)))
 refine .cs z h ?_ ?_ <;> intro h
 ·refine .seq (.g (.q z (.q z (.nil ?_))))
  refine .cs z h ?_ ?_ <;> intro h
  ·cases h
   exact .g (.qn z (.ret (ac (vs:=[_]) () (rt z rn) z (hS.to []))))
  refine .skip (.g (.q z (.q z ?_)))
  have ⟨d3,hd3,h⟩:=bnd h
  refine .s (dq hd3 z z z) z ?_
  have ⟨y7,hy7,h⟩:=bnd h
  refine .c (.cO hS Tryz.func56 (cH hy7) z z ?_)
  intro W hS
  obtain rfl:=o9 h
  exact .qn z (.ret (ac (vs:=[_]) () (rt z rn) z (hS.to [])))
 refine .skip (.seq (.g (.q z (.q z (.nil ?_)))))
 refine .cs z h ?_ ?_ <;> intro h
 ·obtain rfl:=o9 h
  exact .g (.q z (.qn z (.ret (ac (vs:=[_]) () (rt z rn) z (hS.to [])))))
 refine .skip (.g (.q z (.q z ?_)))
 have ⟨d4,hd4,h⟩:=bnd h
 obtain rfl:=o9 h
 exact .s (dr hd4 z z z) z (.qn z (.ret (ac (vs:=[_]) () (rt z rn) z (hS.to []))))
end

end Go.Proofs.YtcljimkjmklkmaaGreatDoor.N
