/- Printed by a program of mine: that the program's functions compute it. -/
import Derived.Test.YtmjebmhcbnkojaaGreatK5
set_option linter.unusedVariables false
set_option linter.unusedSimpArgs false
set_option maxRecDepth 100000
set_option maxHeartbeats 4000000
namespace Go.Proofs.YtmjebmhcbnkojaaGreat.N
open Go.Proofs.YtmjebmhcbnkojaaGreat.X
open T Tryz
noncomputable section
theorem sH {a0:List ab} {v_0:Hd} {w:World} {r:(List ab)×Bool} (h:j3 a0=some r) (q_0:RO w v_0 62 5 ah a0):CL 35 #[sv v_0] w (Ret No w (λs:Hd=>.tuple #[sv s,.bool r.2]) (λs=>[ac (sv s) 62 5 ah r.1])):=by
 unfold j3 at h
 refine aw func35 z z ?_
 have s:=Sep.start w
 refine .g (.q z (.qn z (.seq (.g (.q z (bv h λy1 hy1 h=>.c (.cO s func31 (bU hy1 (s.keep q_0)) z z ?_)))))))
 intro W s
 refine .q z (.nil ?_)
 refine .cs z h ?_ ?_ <;> intro h
 ·refine .g (.q z (.qn z (.ret ?_)))
  have s:=s.nilv 62 5 ah
  cases h
  exact aa (vs:=[_,_]) lN (rt z (rt z rn)) z (s.tk [0])
 refine .skip (.g (.q z (bv h λy2 hy2 h=>.c (.cV s func32 (aU hy2 (s.keep q_0)) z z ?_))))
 intro v1 W s
 refine .qn z (.seq (.g (.q z (.s (aD (s.keep q_0) u33 z z) z (.qn z (.block (bv h λy3 hy3 h=>?_)))))))
 refine .via (.iter (λs1 E' W'=>ao E' [(0,(sv v_0)),(4,(sv v1)),(12,(sv v_0)),(13,vi (a0.length:Int)),(14,vi s1.1)]/\Sep No w W' [ac (sv v1) 62 5 ah s1.2]) (λy4 x E' W'=>x=.exit 0/\ao E' [(4,(sv v1))]/\Sep No w W' [ac (sv v1) 62 5 ah y4]) hy3 ⟨sb z,s.tk [0]⟩ ?_) ?_
 ·intro s1 y5 E W h hI
  obtain ⟨hE,s⟩:=hI
  refine CW.sub hE ?_
  unfold gq at h
  refine .g (.qn z (.seq ?_))
  refine .cs z h ?_ ?_ <;> intro h
  ·refine .skip (bv h λy6 hy6 h=>?_)
   refine .seq (CW.via (R':=λx E' W'=>x=.normal/\ao E' [(0,(sv v_0)),(4,(sv v1)),(12,(sv v_0)),(13,vi (a0.length:Int)),(14,vi s1.1)]/\Sep No w W' [ac (sv v1) 62 5 ah y6]) ?_ ?_)
   ·have h:=hy6
    refine .block (.g (.q z (bv h λx1 hx1 h=>.s (ixv (s.keep q_0) hx1 u33 t62 z z z) z (.s (lde (RV.flat (s.keep q_0) hx1 z) t62 z z z z z) z (.c (.alloc t62 s ?_))))))
    intro g1 W s
    refine .q z (.c (.st t62 s z z z ?_))
    intro W s
    refine .nil (.g (.s (ld t62 s z z z z z) z (bv h λy7 hy7 h=>.c (.cO s func67 (lC hy7) z z ?_))))
    intro W s
    refine .nil ?_
    refine .cs z h ?_ ?_ <;> intro h
    ·refine .region (.q z (.q z (.q z (.s (fa f62_4 z z z) z (.s (ld t3 s z z z z z) z (bv h λy8 hy8 h=>.c (.cO s func68 (qP hy8 (s.keep q_0)) z z ?_)))))))
     intro W s
     refine bv h λx2 hx2 h=>.s (ixv s.p1.lv hx2 u33 t62 z z z) z (.s (fe f62_4 z z z) z (bv h λr1 hr1 h=>.c (.sev hr1 hx2 s.p1 t3 z z z z z z ?_)))
     intro W s
     refine .nil ?_
     obtain rfl:=o9 h
     exact ⟨z,sb z,s.tk [0]⟩
    refine .skip ?_
    cases h
    exact ⟨z,sb z,s.tk [1]⟩
   intro x E W hJ
   obtain ⟨rfl,hE,s⟩:=hJ
   refine ⟨_,hE.sub,?_⟩
   refine .region (.q z (.q z (.nil ?_)))
   cases h
   exact ⟨z,sb z,s.tk [0]⟩
  refine .exit ?_
  cases h
  exact ⟨by simp,z,sb z,s.tk [0]⟩
 intro x E W hJ
 obtain ⟨rfl,hE,s⟩:=hJ
 refine ⟨_,hE.sub,?_⟩
 cases h
 exact .g (.q z (.q z (.qn z (.ret (aa (vs:=[_,_]) v1 (rt z (rt z rn)) z (s.tk [0]))))))
theorem ry {a0:List ab} {v_0:Hd} {w:World} {r:(List Int)} (h:kZ a0=some r) (q_0:RO w v_0 62 5 ah a0):CL 69 #[sv v_0] w (Ret No w (λs:Hd=>(sv s)) (λs=>[ac (sv s) 3 1 (D.int .i64) r])):=by
 unfold kZ at h
 refine aw func69 z z ?_
 have s:=Sep.start w
 refine .g (.qn z (.g (.qn z (.g (.q z (bv h λy1 hy1 h=>.c (.cV s func107 (nf hy1 (s.keep q_0)) z z ?_)))))))
 intro v1 W s
 refine .qn z (.seq (.g (.q z (.s (aD (s.keep q_0) u33 z z) z (.qn z (.block ?_))))))
 have s:=s.nilv 3 1 (D.int .i64)
 refine bv h λy2 hy2 h=>?_
 refine .via (.iter (λs1 E' W'=>∃ (v4:Hd),ao E' [(0,(sv v_0)),(3,(sv v4)),(4,(sv v1)),(10,(sv v_0)),(11,vi (a0.length:Int)),(12,vi s1.2)]/\Sep No w W' [ac (sv v1) 99 1 (D.int .u16) y1,ac (sv v4) 3 1 (D.int .i64) s1.1]) (λy3 x E' W'=>x=.exit 0/\∃ (v5:Hd),ao E' [(3,(sv v5))]/\Sep No w W' [ac (sv v1) 99 1 (D.int .u16) y1,ac (sv v5) 3 1 (D.int .i64) y3]) hy2 ⟨lN,sb z,s.tk [1,0]⟩ ?_) ?_
 ·intro s1 y4 E W h hI
  obtain ⟨v3,hE,s⟩:=hI
  refine CW.sub hE ?_
  unfold iA at h
  refine .g (.qn z (.seq ?_))
  refine .cs z h ?_ ?_ <;> intro h
  ·refine .skip (bv h λy5 hy5 h=>?_)
   refine .seq (CW.via (R':=λx E' W'=>x=.normal/\∃ (v6:Hd),ao E' [(0,(sv v_0)),(3,(sv v6)),(4,(sv v1)),(10,(sv v_0)),(11,vi (a0.length:Int)),(12,vi s1.2)]/\Sep No w W' [ac (sv v1) 99 1 (D.int .u16) y1,ac (sv v6) 3 1 (D.int .i64) y5]) ?_ ?_)
   ·have h:=hy5
    refine .block (.g (.q z (bv h λx1 hx1 h=>.s (ixv (s.keep q_0) hx1 u33 t62 z z z) z (.s (lde (RV.flat (s.keep q_0) hx1 z) t62 z z z z z) z (.c (.alloc t62 s ?_))))))
    intro g1 W s
    refine .q z (.c (.st t62 s z z z ?_))
    intro W s
    refine .nil (.g (.s (ld t62 s z z z z z) z (bv h λy6 hy6 h=>.c (.cO s func108 (jn hy6) z z ?_))))
    intro W s
    refine .qn z (.g (.q z (.q z (.q z (.cu 4 25 ((decide (y6>=0))&&(x1.Op !=7)) s ?_ ?_)))))
    ·refine .both (decide (y6>=0)) (λb=>?_) (λb=>?_)
     ·have hg1:=b
      exact .g hg1 (.s (fa f62_0 z z z) z (.g hg1 (.s (ld t3 s z z z z z) z (.g hg1 (.q z (.s (pkt hg1 z z z) z (.nil (ck 4 s z (bc hg1)))))))))
     exact .xx b z (.xx b z (.xx b z (.s (pkf b z z z) z (.nil (ck 4 s z (be b))))))
    intro W s
    refine .q z (bv h λb1 hb1 h=>.cu 8 34 (b1) s ?_ ?_)
    ·refine .both ((decide (y6>=0))&&(x1.Op !=7)) (λb=>?_) (λb=>?_)
     ·have hg2:=b
      have h:=aW b hb1
      refine .g hg2 (.q z (.g hg2 (.q z (.g hg2 (.q z (bv h λy7 hy7 h=>.g hg2 (.c (.cO s func109 (kP hy7 (s.keep q_0) s.p1.lv) z z ?_))))))))
      intro W s
      refine .g hg2 (.q z (bv h λy8 hy8 h=>.g hg2 (.c (.cO s func73 (hU hy8) z z ?_))))
      intro W s
      refine .g hg2 (.q z (.s (pkt hg2 z z z) z ?_))
      cases h
      exact .nil (ck 8 s)
     refine .xx b z (.xx b z (.xx b z (.xx b z (.xx b z (.xx b z (.xx b z ?_))))))
     cases aX b hb1
     exact .s (pkf b z z z) z (.nil (ck 8 s))
    intro W s
    refine .nil ?_
    refine .cs z h ?_ ?_ <;> intro h
    ·refine .region (.q z (.q z (.c (.liv [s1.2] (D.int .i64) u23 t3 s z z z z ?_ z (λ_=>z)))))
     intro v7 W s
     refine bv h λr1 hr1 h=>?_
     have hT0:=s.p3
     refine .c (.av hr1 hT0 hT0.p1.lv (λ_=>z) u23 t3 z z z ?_)
     intro v8 W s
     refine .q z (.nil ?_)
     obtain rfl:=o9 h
     exact ⟨z,v8,sb z,s.tk [3,0]⟩
    refine .skip ?_
    cases h
    exact ⟨z,v3,sb z,s.tk [1,1]⟩
   intro x E W hJ
   obtain ⟨rfl,v9,hE,s⟩:=hJ
   refine ⟨_,hE.sub,?_⟩
   refine .region (.q z (.q z (.nil ?_)))
   cases h
   exact ⟨z,v9,sb z,s.tk [0,0]⟩
  refine .exit ?_
  cases h
  exact ⟨by simp,z,v3,sb z,s.tk [0,0]⟩
 intro x E W hJ
 obtain ⟨rfl,v10,hE,s⟩:=hJ
 refine ⟨_,hE.sub,?_⟩
 obtain rfl:=o9 h
 exact .g (.q z (.qn z (.ret (aa v10 (rt z rn) z (s.tk [1])))))
theorem sI {a0:List ab} {v_0:Hd} {w:World} {r:(List ab)×Bool} (h:j4 a0=some r) (q_0:RO w v_0 62 5 ah a0):CL 36 #[sv v_0] w (Ret No w (λs:Hd=>.tuple #[sv s,.bool r.2]) (λs=>[ac (sv s) 62 5 ah r.1])):=by
 unfold j4 at h
 refine aw func36 z z ?_
 have s:=Sep.start w
 refine .g (.q z (.qn z (.seq (.g (.q z (bv h λy1 hy1 h=>.c (.cO s func31 (bU hy1 (s.keep q_0)) z z ?_)))))))
 intro W s
 refine .q z (.nil ?_)
 refine .cs z h ?_ ?_ <;> intro h
 ·refine .g (.q z (.qn z (.ret ?_)))
  have s:=s.nilv 62 5 ah
  cases h
  exact aa (vs:=[_,_]) lN (rt z (rt z rn)) z (s.tk [0])
 refine .skip (.g (.q z (bv h λy2 hy2 h=>.c (.cV s func32 (aU hy2 (s.keep q_0)) z z ?_))))
 intro v1 W s
 refine .qn z (.seq (.g (.q z (bv h λy3 hy3 h=>.c (.cV s func69 (ry hy3 (s.keep q_0)) z z ?_)))))
 intro v2 W s
 refine .s (aD s.lv u23 z z) z (.qn z (.block (bv h λy4 hy4 h=>?_)))
 refine .via (.iter (λs1 E' W'=>ao E' [(4,(sv v1)),(13,(sv v2)),(14,vi (y3.length:Int)),(15,vi s1.1)]/\Sep No w W' [ac (sv v2) 3 1 (D.int .i64) y3,ac (sv v1) 62 5 ah s1.2]) (λy5 x E' W'=>x=.exit 0/\ao E' [(4,(sv v1))]/\Sep No w W' [ac (sv v2) 3 1 (D.int .i64) y3,ac (sv v1) 62 5 ah y5]) hy4 ⟨sb z,s.tk [0,0]⟩ ?_) ?_
 ·intro s1 y6 E W h hI
  obtain ⟨hE,s⟩:=hI
  refine CW.sub hE ?_
  unfold jw at h
  refine .g (.qn z (.seq ?_))
  refine .cs z h ?_ ?_ <;> intro h
  ·refine .skip (.seq (.block (.g (bv h λx1 hx1 h=>.s (ixv s.lv hx1 u23 t3 z z z) z (.s (lde (RV.flat s.lv hx1 z) t3 z z z z z) z (.qn z (.region (.q z (.q z (.q z (.q z (.s (bs T.s62 z z) z (bv h λx2 hx2 h=>.s (ixv s.p1.lv hx2 u33 t62 z z z) z (bv h λr1 hr1 h=>.c (.sev hr1 hx2 s.p1 t62 z z z z z z ?_)))))))))))))))
   intro W s
   refine .nil (.region (.q z (.q z (.nil ?_))))
   cases h
   exact ⟨z,sb z,s.tk [1,0]⟩
  refine .exit ?_
  cases h
  exact ⟨by simp,z,sb z,s.tk [0,0]⟩
 intro x E W hJ
 obtain ⟨rfl,hE,s⟩:=hJ
 refine ⟨_,hE.sub,?_⟩
 cases h
 exact .g (.q z (.q z (.qn z (.ret (aa (vs:=[_,_]) v1 (rt z (rt z rn)) z (s.tk [1]))))))
theorem rz {a0:List ab} {v_0:Hd} {w:World} {r:(List Bool)} (h:gr a0=some r) (q_0:RO w v_0 62 5 ah a0):CL 70 #[sv v_0] w (Ret No w (λs:Hd=>(sv s)) (λs=>[ac (sv s) 4 1 D.bool r])):=by
 unfold gr at h
 refine aw func70 z z ?_
 have s:=Sep.start w
 refine .g (.qn z (.seq (.g (.q z (bv h λy1 hy1 h=>.c (.cO s func31 (bU hy1 (s.keep q_0)) z z ?_))))))
 intro W s
 refine .q z (.nil ?_)
 refine .cs z h ?_ ?_ <;> intro h
 ·refine .g (.qn z (.ret ?_))
  have s:=s.nilv 4 1 D.bool
  cases h
  exact aa lN (rt z rn) z (s.tk [0])
 refine .skip (.g (.q z (.s (aD (s.keep q_0) u33 z z) z (bv h λr1 hr1 h=>.c (.mkv false D.bool hr1 u102 t4 s z z z z z (λ_=>z) ?_)))))
 intro v1 W s
 refine .qn z (.g (.q z (bv h λx1 hx1 h=>.s (ixv s.lv hx1 u102 t4 z z z) z (bv h λr2 hr2 h=>.c (.sev hr2 hx1 s t4 z z z z z z ?_)))))
 intro W s
 refine .nil (.seq (.g (.c (.liv [0] (D.int .i64) u23 t3 s z z z z ?_ z (λ_=>z)))))
 intro v2 W s
 refine .qn z (.block (bv h λy2 hy2 h=>?_))
 refine .via (.iter (λs1 E' W'=>∃ (v5:Hd),ao E' [(0,(sv v_0)),(3,(sv v1)),(4,(sv v5))]/\Sep No w W' [ac (sv v1) 4 1 D.bool s1.2,ac (sv v5) 3 1 (D.int .i64) s1.1]) (λy3 x E' W'=>x=.exit 0/\ao E' [(3,(sv v1))]/\Sep No w W' [ac (sv v1) 4 1 D.bool y3]) hy2 ⟨v2,sb z,s.tk [1,0]⟩ ?_) ?_
 ·intro s1 y4 E W h hI
  obtain ⟨v4,hE,s⟩:=hI
  refine CW.sub hE ?_
  unfold k9 at h
  refine .seq (.g (.q z (.s (aD s.p1.lv u23 z z) z (.q z (.nil ?_)))))
  refine .cs z h ?_ ?_ <;> intro h
  ·refine .skip (.block (.g (.q z (.q z (.s (aD s.p1.lv u23 z z) z (.q z (bv h λx2 hx2 h=>.s (ixv s.p1.lv hx2 u23 t3 z z z) z (.s (lde (RV.flat s.p1.lv hx2 z) t3 z z z z z) z (.qn z (.g (.q z (.q z (.s (aD s.p1.lv u23 z z) z (.q z (bv h λr3 hr3 h=>.c (.cuto hr3 s.p1 u23 t3 z z z z ?_))))))))))))))))
   intro v6 s
   refine .qn z (.g (.q z (.q z (bv h λx3 hx3 h=>.s (ixv (s.keep q_0) hx3 u33 t62 z z z) z (.s (lde (RV.flat (s.keep q_0) hx3 z) t62 z z z z z) z (.q z (bv h λy5 hy5 h=>.c (.cV s func105 (ly hy5) z z ?_))))))))
   intro v7 W s
   refine .s (aD s.lv u23 z z) z (.qn z (.block (bv h λy6 hy6 h=>?_)))
   refine .via (.iter (λs2 E' W'=>∃ (v10:Hd),ao E' [(0,(sv v_0)),(3,(sv v1)),(4,(sv v10)),(36,(sv v7)),(37,vi (y5.length:Int)),(38,vi s2.2.1)]/\Sep No w W' [ac (sv v7) 3 1 (D.int .i64) y5,ac (sv v1) 4 1 D.bool s2.2.2,ac (sv v10) 3 1 (D.int .i64) s2.1]) (λy7 x E' W'=>x=.exit 2/\∃ (v11:Hd),ao E' [(0,(sv v_0)),(3,(sv v1)),(4,(sv v11))]/\Sep No w W' [ac (sv v7) 3 1 (D.int .i64) y5,ac (sv v1) 4 1 D.bool y7.2,ac (sv v11) 3 1 (D.int .i64) y7.1]) hy6 ⟨v6,sb z,s.tk [0,1,0]⟩ ?_) ?_
   ·intro s2 y8 E W h hI
    obtain ⟨v9,hE,s⟩:=hI
    refine CW.sub hE ?_
    unfold k8 at h
    refine .g (.qn z (.seq ?_))
    refine .cs z h ?_ ?_ <;> intro h
    ·refine .skip (bv h λy9 hy9 h=>?_)
     refine .seq (CW.via (R':=λx E' W'=>x=.normal/\∃ (v12:Hd),ao E' [(0,(sv v_0)),(3,(sv v1)),(4,(sv v12)),(36,(sv v7)),(37,vi (y5.length:Int)),(38,vi s2.2.1)]/\Sep No w W' [ac (sv v7) 3 1 (D.int .i64) y5,ac (sv v1) 4 1 D.bool y9.2,ac (sv v12) 3 1 (D.int .i64) y9.1]) ?_ ?_)
     ·have h:=hy9
      refine .block (.g (bv h λx4 hx4 h=>.s (ixv s.lv hx4 u23 t3 z z z) z (.s (lde (RV.flat s.lv hx4 z) t3 z z z z z) z (.qn z (.g (.q z (.q z (bv h λx5 hx5 h=>.s (ixv s.p1.lv hx5 u102 t4 z z z) z (.s (lde (RV.flat s.p1.lv hx5 z) t4 z z z z z) z (.q z (.nil ?_)))))))))))
      refine .cs z h ?_ ?_ <;> intro h
      ·refine .g (.q z (.q z (bv h λx6 hx6 h=>.s (ixv s.p1.lv hx6 u102 t4 z z z) z (bv h λr4 hr4 h=>.c (.sev hr4 hx6 s.p1 t4 z z z z z z ?_)))))
       intro W s
       refine .nil (.region (.q z (.q z (.c (.liv [x4] (D.int .i64) u23 t3 s z z z z ?_ z (λ_=>z))))))
       intro v13 W s
       refine bv h λr5 hr5 h=>?_
       have hT0:=s.p3
       refine .c (.av hr5 hT0 hT0.p1.lv (λ_=>z) u23 t3 z z z ?_)
       intro v14 W s
       refine .q z (.nil ?_)
       cases h
       exact ⟨z,v14,sb z,s.tk [3,2,0]⟩
      refine .skip ?_
      cases h
      exact ⟨z,v9,sb z,s.tk [0,0,0]⟩
     intro x E W hJ
     obtain ⟨rfl,v15,hE,s⟩:=hJ
     refine ⟨_,hE.sub,?_⟩
     refine .region (.q z (.q z (.nil ?_)))
     cases h
     exact ⟨z,v15,sb z,s.tk [0,0,0]⟩
    refine .exit ?_
    cases h
    exact ⟨by simp,z,v9,sb z,s.tk [0,0,0]⟩
   intro x E W hJ
   obtain ⟨rfl,v16,hE,s⟩:=hJ
   refine ⟨_,hE.sub,?_⟩
   cases h
   exact ⟨z,v16,sb z,s.tk [1,1]⟩
  refine .exit ?_
  cases h
  exact ⟨by simp,z,sb z,s.tk [0]⟩
 intro x E W hJ
 obtain ⟨rfl,hE,s⟩:=hJ
 refine ⟨_,hE.sub,?_⟩
 obtain rfl:=o9 h
 exact .g (.q z (.qn z (.ret (aa v1 (rt z rn) z (s.tk [0])))))
theorem rC {a0:ab} {a1:Int} {w:World} {r:Bool} (h:iY a0 a1=some r):CL 71 #[.agg #[vi a0.Op,vi a0.Dst,vi a0.A,vi a0.B,vi a0.N],vi a1] w (RU w (.bool r)):=by
 unfold iY at h
 refine aw func71 z z ?_
 have s:=Sep.start w
 refine .g (.c (.box s z z ?_))
 intro g1 W s
 refine .qn z (.g (.s (ld t62 s z z z z z) z (bv h λy1 hy1 h=>.c (.cO s func67 (lC hy1) z z ?_))))
 intro W s
 refine .q z (.cu 6 13 (y1&&(a0.N==(w64 (a1+1)))) s ?_ ?_)
 ·refine .both (y1) (λb=>?_) (λb=>?_)
  ·have hg1:=b
   exact .g hg1 (.s (fa f62_4 z z z) z (.g hg1 (.s (ld t3 s z z z z z) z (.g hg1 (.q z (.g hg1 (.q z (.g hg1 (.q z (.s (pkt hg1 z z z) z (.nil (ck 6 s z (bc hg1)))))))))))))
  exact .xx b z (.xx b z (.xx b z (.xx b z (.xx b z (.s (pkf b z z z) z (.nil (ck 6 s z (be b))))))))
 intro W s
 refine .q z (.q z (.cu 12 27 ((!(y1&&(a0.N==(w64 (a1+1)))))&&(!((a0.Op==2)&&(a0.Dst==a0.A)))) s ?_ ?_))
 ·refine .both (!(y1&&(a0.N==(w64 (a1+1))))) (λb=>?_) (λb=>?_)
  ·have hg2:=b
   refine .g hg2 (.s (fa f62_0 z z z) z (.g hg2 (.s (ld t3 s z z z z z) z (.g hg2 (.q z (.g hg2 (.q z (.cu 6 25 ((a0.Op==2)&&(a0.Dst==a0.A)) s ?_ ?_))))))))
   ·refine .both (a0.Op==2) (λb=>?_) (λb=>?_)
    ·have hg3:=b
     exact .g hg3 (.s (fa f62_1 z z z) z (.g hg3 (.s (ld t3 s z z z z z) z (.g hg3 (.s (fa f62_2 z z z) z (.g hg3 (.s (ld t3 s z z z z z) z (.g hg3 (.q z (.g hg2 (.s (pkt hg3 z z z) z (.nil (ck 6 s z (bc hg3))))))))))))))
    exact .xx b z (.xx b z (.xx b z (.xx b z (.xx b z (.g hg2 (.s (pkf b z z z) z (.nil (ck 6 s z (be b)))))))))
   intro W s
   exact .g hg2 (.q z (.s (pkt hg2 z z z) z (.nil (ck 7 s z (bc hg2)))))
  exact .xx b z (.xx b z (.xx b z (.xx b z (.xu (.xu (.xu (.xu (.xu (.xx b z (.xx b z (.s (pkf b z z z) z (.nil (ck 12 s z (be b))))))))))))))
 intro W s
 cases h
 exact .qn z (.ret (aa () (rt z rn) z (s.to [])))
theorem pV {a0:List ab} {v_0:Hd} {w:World} {r:(List ab)×Bool} (h:gu a0=some r) (q_0:RO w v_0 62 5 ah a0):CL 37 #[sv v_0] w (Ret No w (λs:Hd=>.tuple #[sv s,.bool r.2]) (λs=>[ac (sv s) 62 5 ah r.1])):=by
 unfold gu at h
 refine aw func37 z z ?_
 have s:=Sep.start w
 refine .g (.q z (.qn z (.seq (.g (.q z (bv h λy1 hy1 h=>.c (.cO s func31 (bU hy1 (s.keep q_0)) z z ?_)))))))
 intro W s
 refine .q z (.nil ?_)
 refine .cs z h ?_ ?_ <;> intro h
 ·refine .g (.q z (.qn z (.ret ?_)))
  have s:=s.nilv 62 5 ah
  cases h
  exact aa (vs:=[_,_]) lN (rt z (rt z rn)) z (s.tk [0])
 refine .skip (.g (.q z (.s (aD (s.keep q_0) u33 z z) z (bv h λr1 hr1 h=>.c (.mkv 0 (D.int .i64) hr1 u23 t3 s z z z z z (λ_=>z) ?_)))))
 intro v1 W s
 refine .qn z (.g (.qn z (.seq (.g (.q z (bv h λy2 hy2 h=>.c (.cV s func70 (rz hy2 (s.keep q_0)) z z ?_)))))))
 intro v2 W s
 refine .s (aD s.lv u102 z z) z (.qn z (.block ?_))
 have s:=s.nilv 62 5 ah
 refine bv h λy3 hy3 h=>?_
 refine .via (.iter (λs1 E' W'=>∃ (v5:Hd),ao E' [(0,(sv v_0)),(4,(sv v1)),(5,(sv v5)),(17,(sv v2)),(18,vi (y2.length:Int)),(19,vi s1.2.1)]/\Sep No w W' [ac (sv v2) 4 1 D.bool y2,ac (sv v1) 3 1 (D.int .i64) s1.2.2,ac (sv v5) 62 5 ah s1.1]) (λy4 x E' W'=>x=.exit 0/\∃ (v6:Hd),ao E' [(4,(sv v1)),(5,(sv v6))]/\Sep No w W' [ac (sv v2) 4 1 D.bool y2,ac (sv v1) 3 1 (D.int .i64) y4.2,ac (sv v6) 62 5 ah y4.1]) hy3 ⟨lN,sb z,s.tk [1,1,0]⟩ ?_) ?_
 ·intro s1 y5 E W h hI
  obtain ⟨v4,hE,s⟩:=hI
  refine CW.sub hE ?_
  unfold gb at h
  refine .g (.qn z (.seq ?_))
  refine .cs z h ?_ ?_ <;> intro h
  ·refine .skip (bv h λy6 hy6 h=>?_)
   refine .seq (CW.via (R':=λx E' W'=>x=.normal/\∃ (v7:Hd),ao E' [(0,(sv v_0)),(4,(sv v1)),(5,(sv v7)),(17,(sv v2)),(18,vi (y2.length:Int)),(19,vi s1.2.1)]/\Sep No w W' [ac (sv v2) 4 1 D.bool y2,ac (sv v1) 3 1 (D.int .i64) y6.2,ac (sv v7) 62 5 ah y6.1]) ?_ ?_)
   ·have h:=hy6
    refine .block (.g (.q z (bv h λx1 hx1 h=>.s (ixv s.lv hx1 u102 t4 z z z) z (.s (lde (RV.flat s.lv hx1 z) t4 z z z z z) z (.q z (.qn z (.g (.q z (.q z (.q z (.s (aD s.p2.lv u33 z z) z (bv h λx2 hx2 h=>.s (ixv s.p1.lv hx2 u23 t3 z z z) z (bv h λr2 hr2 h=>.c (.sev hr2 hx2 s.p1 t3 z z z z z z ?_))))))))))))))
    intro W s
    refine .nil (.g (.q z (.q z (bv h λb1 hb1 h=>.cu 7 37 (b1) s ?_ ?_))))
    ·refine .both (x1) (λb=>?_) (λb=>?_)
     ·have hg1:=b
      have h:=aW b hb1
      refine .g hg1 (.q z (.g hg1 (.q z (bv h λx3 hx3 h=>.g hg1 (.s (ixv (s.keep q_0) hx3 u33 t62 z z z) z (.g hg1 (.s (lde (RV.flat (s.keep q_0) hx3 z) t62 z z z z z) z (.g hg1 (.q z (bv h λy7 hy7 h=>.g hg1 (.c (.cO s func71 (rC hy7) z z ?_))))))))))))
      intro W s
      refine .s (pkt hg1 z z z) z ?_
      cases h
      exact .nil (ck 7 s)
     refine .xx b z (.xx b z (.xx b z (.xx b z (.xx b z (.xx b z ?_)))))
     cases aX b hb1
     exact .s (pkf b z z z) z (.nil (ck 7 s))
    intro W s
    refine .nil ?_
    refine .cs z h ?_ ?_ <;> intro h
    ·refine .region (.q z (.q z (.q z (bv h λx4 hx4 h=>.s (ixv (s.keep q_0) hx4 u33 t62 z z z) z (.s (lde (RV.flat (s.keep q_0) hx4 z) t62 z z z z z) z (.c (.liv [x4] ah u33 t62 s z z z z ?_ z (λ_=>z))))))))
     intro v8 W s
     refine bv h λr3 hr3 h=>?_
     have hT0:=s.p3
     refine .c (.av hr3 hT0 hT0.p1.lv (λ_=>z) u33 t62 z z z ?_)
     intro v9 W s
     refine .q z (.nil ?_)
     cases h
     exact ⟨z,v9,sb z,s.tk [3,2,0]⟩
    refine .skip ?_
    cases h
    exact ⟨z,v4,sb z,s.tk [1,0,0]⟩
   intro x E W hJ
   obtain ⟨rfl,v10,hE,s⟩:=hJ
   refine ⟨_,hE.sub,?_⟩
   refine .region (.q z (.q z (.nil ?_)))
   cases h
   exact ⟨z,v10,sb z,s.tk [0,0,0]⟩
  refine .exit ?_
  cases h
  exact ⟨by simp,z,v4,sb z,s.tk [0,0,0]⟩
 intro x E W hJ
 obtain ⟨rfl,v11,hE,s⟩:=hJ
 refine ⟨_,hE.sub,?_⟩
 refine .seq (.g (.q z (.s (aD s.p2.lv u33 z z) z (.qn z (.block (bv h λy8 hy8 h=>?_))))))
 refine .via (.iter (λs2 E' W'=>ao E' [(4,(sv v1)),(5,(sv v11)),(46,(sv v11)),(47,vi (y3.1.length:Int)),(48,vi s2.1)]/\Sep No w W' [ac (sv v2) 4 1 D.bool y2,ac (sv v1) 3 1 (D.int .i64) y3.2,ac (sv v11) 62 5 ah s2.2]) (λy9 x E' W'=>x=.exit 2/\ao E' [(5,(sv v11))]/\Sep No w W' [ac (sv v2) 4 1 D.bool y2,ac (sv v1) 3 1 (D.int .i64) y3.2,ac (sv v11) 62 5 ah y9]) hy8 ⟨sb z,s.tk [0,0,0]⟩ ?_) ?_
 ·intro s2 y10 E W h hI
  obtain ⟨hE,s⟩:=hI
  refine CW.sub hE ?_
  unfold dJ at h
  refine .g (.qn z (.seq ?_))
  refine .cs z h ?_ ?_ <;> intro h
  ·refine .skip (bv h λy11 hy11 h=>?_)
   refine .seq (CW.via (R':=λx E' W'=>x=.normal/\ao E' [(4,(sv v1)),(5,(sv v11)),(46,(sv v11)),(47,vi (y3.1.length:Int)),(48,vi s2.1)]/\Sep No w W' [ac (sv v2) 4 1 D.bool y2,ac (sv v1) 3 1 (D.int .i64) y3.2,ac (sv v11) 62 5 ah y11]) ?_ ?_)
   ·have h:=hy11
    refine .block (.g (.q z (bv h λx5 hx5 h=>.s (ixv s.p2.lv hx5 u33 t62 z z z) z (.s (lde (RV.flat s.p2.lv hx5 z) t62 z z z z z) z (.c (.alloc t62 s ?_))))))
    intro g1 W s
    refine .q z (.c (.st t62 s z z z ?_))
    intro W s
    refine .nil (.g (.s (ld t62 s z z z z z) z (bv h λy12 hy12 h=>.c (.cO s func67 (lC hy12) z z ?_))))
    intro W s
    refine .nil ?_
    refine .cs z h ?_ ?_ <;> intro h
    ·refine .region (.q z (.q z (.q z (.s (fa f62_4 z z z) z (.s (ld t3 s z z z z z) z (bv h λx6 hx6 h=>.s (ixv s.p2.lv hx6 u23 t3 z z z) z (.s (lde (RV.flat s.p2.lv hx6 z) t3 z z z z z) z (bv h λx7 hx7 h=>.s (ixv s.p3.lv hx7 u33 t62 z z z) z (.s (fe f62_4 z z z) z (bv h λr4 hr4 h=>.c (.sev hr4 hx7 s.p3 t3 z z z z z z ?_)))))))))))
     intro W s
     refine .nil ?_
     obtain rfl:=o9 h
     exact ⟨z,sb z,s.tk [2,2,0]⟩
    refine .skip ?_
    cases h
    exact ⟨z,sb z,s.tk [1,1,1]⟩
   intro x E W hJ
   obtain ⟨rfl,hE,s⟩:=hJ
   refine ⟨_,hE.sub,?_⟩
   refine .region (.q z (.q z (.nil ?_)))
   cases h
   exact ⟨z,sb z,s.tk [0,0,0]⟩
  refine .exit ?_
  cases h
  exact ⟨by simp,z,sb z,s.tk [0,0,0]⟩
 intro x E W hJ
 obtain ⟨rfl,hE,s⟩:=hJ
 refine ⟨_,hE.sub,?_⟩
 cases h
 exact .g (.q z (.q z (.qn z (.ret (aa (vs:=[_,_]) v11 (rt z (rt z rn)) z (s.tk [2]))))))
def pW (w:World) (r:(List ab)×Bool):Env->World->Prop:=Fin Tryz.prog Tryz.f10 No w (λs:Hd=>.tuple #[sv s,.bool r.2]) (λs=>[ac (sv s) 62 5 ah r.1]) .ret
theorem pj {a0:List ab} {a1:Int} {v_0:Hd} {w:World} {r:(List ab)×Bool} (h:bI a0 a1=some r) (q_0:RO w v_0 62 5 ah a0):CL 10 #[sv v_0,vi a1] w (Ret No w (λs:Hd=>.tuple #[sv s,.bool r.2]) (λs=>[ac (sv s) 62 5 ah r.1])):=by
 unfold bI at h
 refine aw func10 z z ?_
 have s:=Sep.start w
 refine .g (.q z (.qn z (.seq (.g (.q z (bv h λy1 hy1 h=>.c (.cO s func31 (bU hy1 (s.keep q_0)) z z ?_)))))))
 intro W s
 refine .q z (.q z (.cu 3 17 ((!y1)||(decide (a1<0))) s ?_ ?_))
 ·refine .both (!y1) (λb=>?_) (λb=>?_)
  ·exact .xx b z (.xx b z (.s (pkt b z z z) z (.nil (ck 3 s z (kK b)))))
  have hg1:=b
  exact .g hg1 (.q z (.g hg1 (.q z (.s (pkf hg1 z z z) z (.nil (ck 3 s z (jT hg1)))))))
 intro W s
 refine .q z (.cu 3 21 (((!y1)||(decide (a1<0)))||(decide (a1>4))) s ?_ ?_)
 ·refine .both ((!y1)||(decide (a1<0))) (λb=>?_) (λb=>?_)
  ·exact .xx b z (.xx b z (.s (pkt b z z z) z (.nil (ck 3 s z (kK b)))))
  have hg2:=b
  exact .g hg2 (.q z (.g hg2 (.q z (.s (pkf hg2 z z z) z (.nil (ck 3 s z (jT hg2)))))))
 intro W s
 refine .nil ?_
 refine .cs z h ?_ ?_ <;> intro h
 ·refine .g (.q z (.qn z (.ret ?_)))
  have s:=s.nilv 62 5 ah
  cases h
  exact aa (vs:=[_,_]) lN (rt z (rt z rn)) z (s.tk [0])
 refine .skip (.g (.q z (bv h λy2 hy2 h=>.c (.cV s func32 (aU hy2 (s.keep q_0)) z z ?_))))
 intro v1 W s
 refine .qn z (.seq (.g (.q z (.qn z (.block (bv h λy3 hy3 h=>?_))))))
 refine .via (.iter (λs1 E' W'=>∃ (v4:Hd),ao E' [(6,(sv v4)),(24,vi a1),(25,vi s1.2)]/\Sep No w W' [ac (sv v4) 62 5 ah s1.1]) (λy4 x E' W'=>(match y4 with | .inl o1=>x=.ret/\pW w o1 E' W' | .inr o2=>x=.exit 0/\∃ (v5:Hd),ao E' [(6,(sv v5))]/\Sep No w W' [ac (sv v5) 62 5 ah o2])) hy3 ⟨v1,sb rfl,s.tk [0]⟩ ?_) ?_
 ·intro s1 y5 E W h hI
  obtain ⟨v3,hE,s⟩:=hI
  refine CW.sub hE ?_
  unfold bu at h
  refine .g (.qn z (.seq ?_))
  refine .cs z h ?_ ?_ <;> intro h
  ·refine .skip (.seq (.block (.g (.c (.lfn u63 t38 s z z z z ?_)))))
   intro g1 W s
   have s:Sep _ _ _ [.box g1 38 [.func (.func 33) #[] #[],.func (.func 34) #[] #[],.func (.func 35) #[] #[],.func (.func 36) #[] #[],.func (.func 37) #[] #[]],ac (sv v3) 62 5 ah s1.1]:=id s
   refine .s (len u63 z z) z (.qn z (.block (.rounds 6 (.step (.g (.qn z (.seq (.cond z (λb=>?_) (λb=>?_)))))))))
   ·refine .skip (.seq (.block (.g (.s (ixs (by decide) u63 t38 z z z) z (.s (ld t38 s z z z z z) z (.qn z (.g (.q z (.q z (bv h λy6 hy6 h=>.c (.callv (vs:=[sv v3]) (cap:=#[]) s ⟨_,func33,z,by kernel_rfl⟩ (sE hy6 s.p1.lv) z z z ?_)))))))))))
    rintro v6 W s
    refine .q z (.q z (.q z (.q z (.qn z (.seq (.g (.q z (.q z (.nil ?_)))))))))
    refine .cs z h ?_ ?_ <;> intro h
    ·refine .g (.q z (.qn z (.ret ?_)))
     have s:=s.nilv 62 5 ah
     cases h
     exact ⟨by simp,z,aa (vs:=[_,_]) lN (rt z (rt z rn)) z (s.tk [0])⟩
    refine .skip (.region (.q z (.qn z (.region (.q z (.qn z (.step (.g (.qn z (.seq (.cond z (λb=>?_) (λb=>?_))))))))))))
    ·refine .skip (.seq (.block (.g (.s (ixs (by decide) u63 t38 z z z) z (.s (ld t38 s.p1 z z z z z) z (.qn z (.g (.q z (.q z (bv h λy7 hy7 h=>.c (.callv (vs:=[sv v6]) (cap:=#[]) s ⟨_,func34,z,by kernel_rfl⟩ (sG hy7 s.lv) z z z ?_)))))))))))
     rintro v7 W s
     refine .q z (.q z (.q z (.q z (.qn z (.seq (.g (.q z (.q z (.nil ?_)))))))))
     refine .cs z h ?_ ?_ <;> intro h
     ·refine .g (.q z (.qn z (.ret ?_)))
      have s:=s.nilv 62 5 ah
      cases h
      exact ⟨by simp,z,aa (vs:=[_,_]) lN (rt z (rt z rn)) z (s.tk [0])⟩
     refine .skip (.region (.q z (.qn z (.region (.q z (.qn z (.step (.g (.qn z (.seq (.cond z (λb=>?_) (λb=>?_))))))))))))
     ·refine .skip (.seq (.block (.g (.s (ixs (by decide) u63 t38 z z z) z (.s (ld t38 s.p2 z z z z z) z (.qn z (.g (.q z (.q z (bv h λy8 hy8 h=>.c (.callv (vs:=[sv v7]) (cap:=#[]) s ⟨_,func35,z,by kernel_rfl⟩ (sH hy8 s.lv) z z z ?_)))))))))))
      rintro v8 W s
      refine .q z (.q z (.q z (.q z (.qn z (.seq (.g (.q z (.q z (.nil ?_)))))))))
      refine .cs z h ?_ ?_ <;> intro h
      ·refine .g (.q z (.qn z (.ret ?_)))
       have s:=s.nilv 62 5 ah
       cases h
       exact ⟨by simp,z,aa (vs:=[_,_]) lN (rt z (rt z rn)) z (s.tk [0])⟩
      refine .skip (.region (.q z (.qn z (.region (.q z (.qn z (.step (.g (.qn z (.seq (.cond z (λb=>?_) (λb=>?_))))))))))))
      ·refine .skip (.seq (.block (.g (.s (ixs (by decide) u63 t38 z z z) z (.s (ld t38 s.p3 z z z z z) z (.qn z (.g (.q z (.q z (bv h λy9 hy9 h=>.c (.callv (vs:=[sv v8]) (cap:=#[]) s ⟨_,func36,z,by kernel_rfl⟩ (sI hy9 s.lv) z z z ?_)))))))))))
       rintro v9 W s
       refine .q z (.q z (.q z (.q z (.qn z (.seq (.g (.q z (.q z (.nil ?_)))))))))
       refine .cs z h ?_ ?_ <;> intro h
       ·refine .g (.q z (.qn z (.ret ?_)))
        have s:=s.nilv 62 5 ah
        cases h
        exact ⟨by simp,z,aa (vs:=[_,_]) lN (rt z (rt z rn)) z (s.tk [0])⟩
       refine .skip (.region (.q z (.qn z (.region (.q z (.qn z (.step (.g (.qn z (.seq (.cond z (λb=>?_) (λb=>?_))))))))))))
       ·refine .skip (.seq (.block (.g (.s (ixs (by decide) u63 t38 z z z) z (.s (ld t38 s.p4 z z z z z) z (.qn z (.g (.q z (.q z (bv h λy10 hy10 h=>.c (.callv (vs:=[sv v9]) (cap:=#[]) s ⟨_,func37,z,by kernel_rfl⟩ (pV hy10 s.lv) z z z ?_)))))))))))
        rintro v10 W s
        refine .q z (.q z (.q z (.q z (.qn z (.seq (.g (.q z (.q z (.nil ?_)))))))))
        refine .cs z h ?_ ?_ <;> intro h
        ·refine .g (.q z (.qn z (.ret ?_)))
         have s:=s.nilv 62 5 ah
         cases h
         exact ⟨by simp,z,aa (vs:=[_,_]) lN (rt z (rt z rn)) z (s.tk [0])⟩
        refine .skip (.region (.q z (.qn z (.region (.q z (.qn z (.step (.g (.qn z (.seq (.cond z (λb=>?_) (λb=>?_))))))))))))
        ·exact absurd b (by decide)
        refine .exit (.region (.q z (.q z (.nil ?_))))
        cases h
        exact ⟨z,v10,sb z,s.tk [0]⟩
       exact absurd b (by decide)
      exact absurd b (by decide)
     exact absurd b (by decide)
    exact absurd b (by decide)
   exact absurd b (by decide)
  refine .exit ?_
  cases h
  exact ⟨by simp,z,v3,sb z,s.tk [0]⟩
 intro x E W hJ
 rcases y3 with o3 | o4
 ·have h:=bQ h
  obtain ⟨rfl,hF⟩:=hJ
  refine ⟨_,λ_ _ h=>h,?_⟩
  cases h
  exact hF
 have h:=bR h
 obtain ⟨rfl,v11,hE,s⟩:=hJ
 refine ⟨_,hE.sub,?_⟩
 cases h
 exact .g (.q z (.q z (.qn z (.ret (aa (vs:=[_,_]) v11 (rt z (rt z rn)) z (s.tk [0]))))))
def qQ (w:World) (r:(List (List ab))×Bool):Env->World->Prop:=Fin Tryz.prog Tryz.f25 No w (λs:Hd=>.tuple #[sv s,.bool r.2]) (λs=>[ac (sv s) 33 1 (λ(l:List ab)=>D.row 62 5 (l.map ah)) r.1]) .ret
theorem pX {a0:List (List ab)} {a1:Int} {v_0:Hd} {w:World} {r:(List (List ab))×Bool} (h:cX a0 a1=some r) (q_0:RO w v_0 33 1 (λ(l:List ab)=>D.row 62 5 (l.map ah)) a0):CL 25 #[sv v_0,vi a1] w (Ret No w (λs:Hd=>.tuple #[sv s,.bool r.2]) (λs=>[ac (sv s) 33 1 (λ(l:List ab)=>D.row 62 5 (l.map ah)) r.1])):=by
 unfold cX at h
 refine aw func25 z z ?_
 have s:=Sep.start w
 refine .g (.q z (.qn z (.seq (.g (.q z (.s (aD (s.keep q_0) u29 z z) z (.q z (.q z (.cu 4 18 ((decide ((a0.length:Int)<1))||(decide ((a0.length:Int)>3))) s ?_ ?_)))))))))
 ·refine .both (decide ((a0.length:Int)<1)) (λb=>?_) (λb=>?_)
  ·exact .xx b z (.xx b z (.xx b z (.s (pkt b z z z) z (.nil (ck 4 s z (kK b))))))
  have hg1:=b
  exact .g hg1 (.q z (.g hg1 (.s (aD (s.keep q_0) u29 z z) z (.g hg1 (.q z (.s (pkf hg1 z z z) z (.nil (ck 4 s z (jT hg1)))))))))
 intro W s
 refine .nil ?_
 refine .cs z h ?_ ?_ <;> intro h
 ·refine .g (.q z (.qn z (.ret ?_)))
  have s:=s.nilv 33 1 (λ(l:List ab)=>D.row 62 5 (l.map ah))
  cases h
  exact aa (vs:=[_,_]) lN (rt z (rt z rn)) z (s.tk [0])
 refine .skip (.g (.qn z (.seq (.g (.q z (.s (aD (s.keep q_0) u29 z z) z (.qn z (.block ?_))))))))
 have s:=s.nilv 33 1 (λ(l:List ab)=>D.row 62 5 (l.map ah))
 refine bv h λy1 hy1 h=>?_
 refine .via (.iter (λs1 E' W'=>∃ (v3:Hd),ao E' [(1,vi a1),(6,(sv v3)),(19,(sv v_0)),(20,vi (a0.length:Int)),(21,vi s1.2)]/\Sep No w W' [ac (sv v3) 33 1 (λ(l:List ab)=>D.row 62 5 (l.map ah)) s1.1]) (λy2 x E' W'=>(match y2 with | .inl o1=>x=.ret/\qQ w o1 E' W' | .inr o2=>x=.exit 0/\∃ (v4:Hd),ao E' [(6,(sv v4))]/\Sep No w W' [ac (sv v4) 33 1 (λ(l:List ab)=>D.row 62 5 (l.map ah)) o2])) hy1 ⟨lN,sb rfl,s.tk [0]⟩ ?_) ?_
 ·intro s1 y3 E W h hI
  obtain ⟨v2,hE,s⟩:=hI
  refine CW.sub hE ?_
  unfold cM at h
  refine .g (.qn z (.seq ?_))
  refine .cs z h ?_ ?_ <;> intro h
  ·refine .skip (.seq (.block (.g (bv h λx1 hx1 h=>?_))))
   obtain ⟨k1,hd,hck1⟩:=RV.el2 q_0 hx1
   obtain ⟨v5,k1,rfl,q5,hd1⟩:=bf q_0 hd
   obtain rfl:=gc q_0 hd1
   refine .s (ixv (s.keep q_0) hx1 u29 t33 z z z) z (.s (lde (hck1 _ s.agree) t33 z z z z z) z (.qn z (.g (.q z (.q z (bv h λy4 hy4 h=>.c (.cV s func10 (pj hy4 (s.keep (q5 _ q_0))) z z ?_)))))))
   intro v6 W s
   refine .q z (.q z (.q z (.q z (.qn z (.seq (.g (.q z (.q z (.nil ?_)))))))))
   refine .cs z h ?_ ?_ <;> intro h
   ·refine .g (.q z (.qn z (.ret ?_)))
    have s:=s.nilv 33 1 (λ(l:List ab)=>D.row 62 5 (l.map ah))
    cases h
    exact ⟨by simp,z,aa (vs:=[_,_]) lN (rt z (rt z rn)) z (s.tk [0])⟩
   refine .skip (.region (.q z (.q z (.c (.lg (L1:=[ac (sv v6) 62 5 ah y4.1]) [y4.1] (λ(l:List ab)=>D.row 62 5 (l.map ah)) u29 t33 (s.to [0,0]) z z z (.row (.nil)) ?_ z (λ_=>z))))))
   intro v7 W s
   refine bv h λr1 hr1 h=>.c (.appv hr1 (s.to [1,0]) u29 t33 z z z ?_)
   intro v8 W s
   refine .qn z (.region (.q z (.q z (.nil ?_))))
   cases h
   exact ⟨z,v8,sb z,s.tk [0]⟩
  refine .exit ?_
  cases h
  exact ⟨by simp,z,v2,sb z,s.tk [0]⟩
 intro x E W hJ
 rcases y1 with o3 | o4
 ·have h:=bQ h
  obtain ⟨rfl,hF⟩:=hJ
  refine ⟨_,λ_ _ h=>h,?_⟩
  cases h
  exact hF
 have h:=bR h
 obtain ⟨rfl,v9,hE,s⟩:=hJ
 refine ⟨_,hE.sub,?_⟩
 cases h
 exact .g (.q z (.q z (.qn z (.ret (aa (vs:=[_,_]) v9 (rt z (rt z rn)) z (s.tk [0]))))))
def rE (w:World) (r:(List (List ab))×Bool):Env->World->Prop:=Fin Tryz.prog Tryz.f6 No w (λs:Hd=>.tuple #[sv s,.bool r.2]) (λs=>[ac (sv s) 33 1 (λ(l:List ab)=>D.row 62 5 (l.map ah)) r.1]) .ret
theorem nh {k:Nat} {a0:aJ} {a1:Int} {aC:Hd} {az:Hd} {w:World} {r:(List (List ab))×Bool} (h:cR k a0 a1=some r) (bi:RO w aC 3 1 (D.int .i64) a0.Rooms) (ay:RO w az 36 1 (λ(l:List ae)=>D.row 80 8 (l.map aL)) a0.Tasks):CL 6 #[.agg #[sv aC,sv az],vi a1] w (Ret No w (λs:Hd=>.tuple #[sv s,.bool r.2]) (λs=>[ac (sv s) 33 1 (λ(l:List ab)=>D.row 62 5 (l.map ah)) r.1])):=by
 unfold cR at h
 refine aw func6 z z ?_
 have s:=Sep.start w
 refine .g (.c (.box s z z ?_))
 intro g1 W s
 refine .q z (.qn z (.g (.s (ld t26 s z z z z z) z (bv h λy1 hy1 h=>.c (.cV s func24 (n9 hy1 (s.keep bi) (s.keep ay)) z z ?_)))))
 intro v1 W s
 refine .q z (.q z (.q z (.q z (.qn z (.seq (.g (.q z (.q z (.nil ?_)))))))))
 refine .cs z h ?_ ?_ <;> intro h
 ·refine .g (.q z (.qn z (.ret ?_)))
  have s:=s.nilv 33 1 (λ(l:List ab)=>D.row 62 5 (l.map ah))
  cases h
  exact aa (vs:=[_,_]) lN (rt z (rt z rn)) z (s.tk [0])
 refine .skip (.g (.q z (.q z (bv h λy2 hy2 h=>.c (.cV s func25 (pX hy2 s.lv) z z ?_)))))
 intro v2 W s
 refine .q z (.q z (.q z (.q z (.qn z (.seq (.g (.q z (.q z (.nil ?_)))))))))
 refine .cs z h ?_ ?_ <;> intro h
 ·refine .g (.q z (.qn z (.ret ?_)))
  have s:=s.nilv 33 1 (λ(l:List ab)=>D.row 62 5 (l.map ah))
  cases h
  exact aa (vs:=[_,_]) lN (rt z (rt z rn)) z (s.tk [0])
 refine .skip (.seq (.g (.q z (.s (aD s.lv u29 z z) z (.qn z (.block (bv h λy3 hy3 h=>?_)))))))
 refine .via (.iter (λs1 E' W'=>ao E' [(6,(sv v2)),(25,(sv v2)),(26,vi (y2.1.length:Int)),(27,vi s1.1)]/\Sep No w W' [ac (sv v2) 33 1 (λ(l:List ab)=>D.row 62 5 (l.map ah)) s1.2,ac (sv v1) 33 1 (λ(l:List ab)=>D.row 62 5 (l.map ah)) y1.1,.box g1 26 [sv aC,sv az]]) (λy4 x E' W'=>(match y4 with | .inl o1=>x=.ret/\rE w o1 E' W' | .inr o2=>x=.exit 0/\ao E' [(6,(sv v2))]/\Sep No w W' [ac (sv v2) 33 1 (λ(l:List ab)=>D.row 62 5 (l.map ah)) o2,ac (sv v1) 33 1 (λ(l:List ab)=>D.row 62 5 (l.map ah)) y1.1,.box g1 26 [sv aC,sv az]])) hy3 ⟨sb rfl,s.tk [0,0,0]⟩ ?_) ?_
 ·intro s1 y5 E W h hI
  obtain ⟨hE,s⟩:=hI
  refine CW.sub hE ?_
  unfold kN at h
  refine .g (.qn z (.seq ?_))
  refine .cs z h ?_ ?_ <;> intro h
  ·refine .skip (.seq (.block (.g (.q z (bv h λx1 hx1 h=>.s (ixv s.lv hx1 u29 t33 z z z) z ?_)))))
   obtain ⟨k1,s⟩:=Sep.ov s hx1
   obtain ⟨v3,k1,rfl,s⟩:=s.ow
   obtain ⟨rfl,s⟩:=s.oN
   refine .s (lde (s.p1.hcellsv) t33 z z z z z) z (.q z (.qn z (.g (.q z (.q z (.q z (bv h λy6 hy6 h=>.c (.cV s func11 (ro hy6 s.lv) z z ?_))))))))
   intro v4 W s
   refine .q z (.q z (.q z (.s (ixh s.p2 hx1 u29 t33 z z z) z (.c (.sthv s.p2 t33 z z z ?_)))))
   intro W s
   refine .qn z (.g (.q z (.q z (.nil ?_))))
   refine .cs z h ?_ ?_ <;> intro h
   ·refine .g (.q z (.qn z (.ret ?_)))
    have s:=s.nilv 33 1 (λ(l:List ab)=>D.row 62 5 (l.map ah))
    cases h
    exact ⟨by simp,z,aa (vs:=[_,_]) lN (rt z (rt z rn)) z (s.tk [0])⟩
   refine .skip (.region (.q z (.q z (.nil ?_))))
   have s:=Sep.gat (ds:=[.row 62 5 (y6.1.map ah)]) (cs:=[sv v4]) (L1:=[ac (sv v4) 62 5 ah y6.1]) (.row (.nil)) (s.to [1,0,0,0,0])
   have s:Sep _ _ _ [ac (sv v2) 33 1 (λ(l:List ab)=>D.row 62 5 (l.map ah)) (s1.2.set (Int.toNat s1.1) y6.1),ac (sv v3) 62 5 ah x1,ac (sv v1) 33 1 (λ(l:List ab)=>D.row 62 5 (l.map ah)) y1.1,.box g1 26 [sv aC,sv az]]:=s.bv
   cases h
   exact ⟨z,sb z,s.tk [0,1,1]⟩
  refine .exit ?_
  cases h
  exact ⟨by simp,z,sb z,s.tk [0,0,0]⟩
 intro x E W hJ
 rcases y3 with o3 | o4
 ·have h:=bQ h
  obtain ⟨rfl,hF⟩:=hJ
  refine ⟨_,λ_ _ h=>h,?_⟩
  cases h
  exact hF
 have h:=bR h
 obtain ⟨rfl,hE,s⟩:=hJ
 refine ⟨_,hE.sub,?_⟩
 cases h
 exact .g (.q z (.q z (.qn z (.ret (aa (vs:=[_,_]) v2 (rt z (rt z rn)) z (s.tk [0]))))))
theorem bJ {a0:Int} {a1:Int} {a2:Int} {w:World} {r:Bool} (h:bh a0 a1 a2=some r):CL 55 #[vi a0,vi a1,vi a2] w (RU w (.bool r)):=by
 unfold bh at h
 refine aw func55 z z ?_
 have s:=Sep.start w
 refine .g (.qn z (.g (.q z (.q z (.q z (.q z (.cu 4 14 ((decide (a0>=a1))&&(decide (a0<=a2))) s ?_ ?_)))))))
 ·refine .both (decide (a0>=a1)) (λb=>?_) (λb=>?_)
  ·have hg1:=b
   exact .g hg1 (.q z (.g hg1 (.q z (.g hg1 (.q z (.s (pkt hg1 z z z) z (.nil (ck 4 s z (bc hg1)))))))))
  exact .xx b z (.xx b z (.xx b z (.s (pkf b z z z) z (.nil (ck 4 s z (be b))))))
 intro W s
 cases h
 exact .qn z (.ret (aa () (rt z rn) z (s.to [])))
def tI (w:World) (r:Bool):Env->World->Prop:=Fin Tryz.prog Tryz.f84 No w (λs:Unit=>.bool r) (λs=>[]) .ret
theorem sJ {a0:List Int} {v_0:Hd} {w:World} {r:Bool} (h:j5 a0=some r) (q_0:RO w v_0 3 1 (D.int .i64) a0):CL 84 #[sv v_0] w (RU w (.bool r)):=by
 unfold j5 at h
 refine aw func84 z z ?_
 have s:=Sep.start w
 refine .g (.qn z (.seq (.g (.qn z (.block (bv h λy1 hy1 h=>?_))))))
 refine .via (.iter (λs1 E' W'=>ao E' [(0,(sv v_0)),(3,vi s1)]/\Sep No w W' []) (λy2 x E' W'=>(match y2 with | .inl o1=>x=.ret/\tI w o1 E' W' | .inr o2=>x=.exit 0/\ao E' [(0,(sv v_0))]/\Sep No w W' [])) hy1 ⟨sb rfl,s.to [] rfl⟩ ?_) ?_
 ·intro s1 y3 E W h hI
  obtain ⟨hE,s⟩:=hI
  refine CW.sub hE ?_
  unfold jx at h
  refine .seq (.g (.q z (.q z (.s (aD (s.keep q_0) u23 z z) z (.q z (.nil ?_))))))
  refine .cs z h ?_ ?_ <;> intro h
  ·refine .skip (.seq (.block (.g (.q z (.q z (bv h λx1 hx1 h=>.s (ixv (s.keep q_0) hx1 u23 t3 z z z) z (.s (lde (RV.flat (s.keep q_0) hx1 z) t3 z z z z z) z (bv h λy4 hy4 h=>.c (.cO s func55 (bJ hy4) z z ?_)))))))))
   intro W s
   refine .q z (.nil ?_)
   refine .cs z h ?_ ?_ <;> intro h
   ·refine .g (.qn z (.ret ?_))
    cases h
    exact ⟨by simp,z,aa (vs:=[_]) () (rt z rn) z (s.to [])⟩
   refine .skip (.region (.q z (.q z (.q z (.nil ?_)))))
   cases h
   exact ⟨z,sb z,s.to []⟩
  refine .exit ?_
  cases h
  exact ⟨by simp,z,sb z,s.to []⟩
 intro x E W hJ
 rcases y1 with o3 | o4
 ·have h:=bQ h
  obtain ⟨rfl,hF⟩:=hJ
  refine ⟨_,λ_ _ h=>h,?_⟩
  cases h
  exact hF
 have h:=bR h
 obtain ⟨rfl,hE,s⟩:=hJ
 refine ⟨_,hE.sub,?_⟩
 cases h
 exact .g (.q z (.s (aD (s.keep q_0) u23 z z) z (.q z (.qn z (.ret (aa () (rt z rn) z (s.to [])))))))
theorem gK {a0:ae} {a1:Bool} {al:Hd} {aE:Hd} {aF:Hd} {w:World} {r:Bool} (h:dV a0 a1=some r) (ak:RO w al 77 3 bB a0.Expr.Args) (aI:RO w aE 80 8 aL a0.Body) (aG:RO w aF 80 8 aL a0.Else):CL 168 #[.agg #[vi a0.Kind,vi a0.Var,vi a0.Box,vi a0.Expr.Op,vi a0.Expr.N,sv al,sv aE,sv aF],.bool a1] w (RU w (.bool r)):=by
 unfold dV at h
 refine aw func168 z z ?_
 have s:=Sep.start w
 refine .g (.c (.box s z z ?_))
 intro g1 W s
 refine .qn z (.seq (.g (.q z (.nil ?_))))
 refine .cs z h ?_ ?_ <;> intro h
 ·refine .g (.s (fa f80_1 z z z) z (.s (ld t3 s z z z z z) z (bv h λy1 hy1 h=>.c (.cO s func55 (bJ hy1) z z ?_))))
  intro W s
  obtain rfl:=o9 h
  exact .qn z (.ret (aa () (rt z rn) z (s.to [])))
 cases h
 exact .skip (.g (.s (fa f80_1 z z z) z (.s (ld t3 s z z z z z) z (.q z (.qn z (.ret (aa () (rt z rn) z (s.to []))))))))
theorem gL {a0:ae} {a1:Bool} {al:Hd} {aE:Hd} {aF:Hd} {w:World} {r:Bool} (h:dW a0 a1=some r) (ak:RO w al 77 3 bB a0.Expr.Args) (aI:RO w aE 80 8 aL a0.Body) (aG:RO w aF 80 8 aL a0.Else):CL 169 #[.agg #[vi a0.Kind,vi a0.Var,vi a0.Box,vi a0.Expr.Op,vi a0.Expr.N,sv al,sv aE,sv aF],.bool a1] w (RU w (.bool r)):=by
 unfold dW at h
 refine aw func169 z z ?_
 have s:=Sep.start w
 refine .g (.c (.box s z z ?_))
 intro g1 W s
 refine .qn z (.seq (.g (.q z (.nil ?_))))
 refine .cs z h ?_ ?_ <;> intro h
 ·refine .g (.s (fa f80_2 z z z) z (.s (ld t3 s z z z z z) z (bv h λy1 hy1 h=>.c (.cO s func55 (bJ hy1) z z ?_))))
  intro W s
  obtain rfl:=o9 h
  exact .qn z (.ret (aa () (rt z rn) z (s.to [])))
 cases h
 exact .skip (.g (.s (fa f80_2 z z z) z (.s (ld t3 s z z z z z) z (.q z (.qn z (.ret (aa () (rt z rn) z (s.to []))))))))
theorem mD {a0:Int} {w:World} {r:Bool} (h:dP a0=some r):CL 126 #[vi a0] w (RU w (.bool r)):=by
 unfold dP at h
 refine aw func126 z z ?_
 have s:=Sep.start w
 refine .g (.qn z (.g (.q z (bv h λy1 hy1 h=>.c (.cO s func55 (bJ hy1) z z ?_)))))
 intro W s
 obtain rfl:=o9 h
 exact .qn z (.ret (aa () (rt z rn) z (s.to [])))
def nz (F:Expr->Int->Option (Bool)):Prop:=∀ {a0:Expr} {a1:Int} {aP:Hd} {w:World} {r:Bool} (h:F a0 a1=some r) (ar:RO w aP 77 3 bB a0.Args) , CL 183 #[.agg #[vi a0.Op,vi a0.N,sv aP],vi a1] w (RU w (.bool r))
theorem ym {k:Nat} {mp:Expr->Int->Option (Bool)} (rF:nz mp):nz (fu k mp):=by
 intro a0 a1 aP w r h ar
 unfold fu at h
 refine aw func183 z z ?_
 have s:=Sep.start w
 refine .g (.c (.box s z z ?_))
 intro g1 W s
 refine .qn z (.seq (.g (.q z (.q z (.nil ?_)))))
 refine .cs z h ?_ ?_ <;> intro h
 ·obtain rfl:=o9 h
  exact .g (.qn z (.ret (aa () (rt z rn) z (s.to []))))
 refine .skip (.seq (.g (.s (fa f77_0 z z z) z (.s (ld t3 s z z z z z) z (.q z (.nil ?_))))))
 refine .cs z h ?_ ?_ <;> intro h
 ·refine .g (.s (fa f77_1 z z z) z (.s (ld t3 s z z z z z) z (bv h λy1 hy1 h=>.c (.cO s func55 (bJ hy1) z z ?_))))
  intro W s
  refine .q z (.cu 5 18 (y1&&((a0.Args.length:Int)==0)) s ?_ ?_)
  ·refine .both (y1) (λb=>?_) (λb=>?_)
   ·have hg1:=b
    exact .g hg1 (.s (fa f77_2 z z z) z (.g hg1 (.s (ld t75 s z z z z z) z (.g hg1 (.s (aD (s.keep ar) u75 z z) z (.g hg1 (.q z (.s (pkt hg1 z z z) z (.nil (ck 5 s z (bc hg1)))))))))))
   exact .xx b z (.xx b z (.xx b z (.xx b z (.s (pkf b z z z) z (.nil (ck 5 s z (be b)))))))
  intro W s
  cases h
  exact .qn z (.ret (aa () (rt z rn) z (s.to [])))
 refine .skip (.seq (.g (.s (fa f77_0 z z z) z (.s (ld t3 s z z z z z) z (.q z (.nil ?_))))))
 refine .cs z h ?_ ?_ <;> intro h
 ·refine .g (.s (fa f77_1 z z z) z (.s (ld t3 s z z z z z) z (bv h λy2 hy2 h=>.c (.cO s func55 (bJ hy2) z z ?_))))
  intro W s
  refine .q z (.cu 5 30 (y2&&((a0.Args.length:Int)==0)) s ?_ ?_)
  ·refine .both (y2) (λb=>?_) (λb=>?_)
   ·have hg2:=b
    exact .g hg2 (.s (fa f77_2 z z z) z (.g hg2 (.s (ld t75 s z z z z z) z (.g hg2 (.s (aD (s.keep ar) u75 z z) z (.g hg2 (.q z (.s (pkt hg2 z z z) z (.nil (ck 5 s z (bc hg2)))))))))))
   exact .xx b z (.xx b z (.xx b z (.xx b z (.s (pkf b z z z) z (.nil (ck 5 s z (be b)))))))
  intro W s
  cases h
  exact .qn z (.ret (aa () (rt z rn) z (s.to [])))
 refine .skip (.g (.s (fa f77_0 z z z) z (.s (ld t3 s z z z z z) z (bv h λy3 hy3 h=>.c (.cO s func126 (mD hy3) z z ?_)))))
 intro W s
 refine .q z (.cu 4 38 (y3&&(a0.N==0)) s ?_ ?_)
 ·refine .both (y3) (λb=>?_) (λb=>?_)
  ·have hg3:=b
   exact .g hg3 (.s (fa f77_1 z z z) z (.g hg3 (.s (ld t3 s z z z z z) z (.g hg3 (.q z (.s (pkt hg3 z z z) z (.nil (ck 4 s z (bc hg3)))))))))
  exact .xx b z (.xx b z (.xx b z (.s (pkf b z z z) z (.nil (ck 4 s z (be b))))))
 intro W s
 refine .q z (.cu 5 44 ((y3&&(a0.N==0))&&((a0.Args.length:Int)==2)) s ?_ ?_)
 ·refine .both (y3&&(a0.N==0)) (λb=>?_) (λb=>?_)
  ·have hg4:=b
   exact .g hg4 (.s (fa f77_2 z z z) z (.g hg4 (.s (ld t75 s z z z z z) z (.g hg4 (.s (aD (s.keep ar) u75 z z) z (.g hg4 (.q z (.s (pkt hg4 z z z) z (.nil (ck 5 s z (bc hg4)))))))))))
  exact .xx b z (.xx b z (.xx b z (.xx b z (.s (pkf b z z z) z (.nil (ck 5 s z (be b)))))))
 intro W s
 refine .q z (bv h λb1 hb1 h=>.cu 8 53 (b1) s ?_ ?_)
 ·refine .both ((y3&&(a0.N==0))&&((a0.Args.length:Int)==2)) (λb=>?_) (λb=>?_)
  ·have hg5:=b
   have h:=aW b hb1
   refine .g hg5 (.s (fa f77_2 z z z) z (.g hg5 (.s (ld t75 s z z z z z) z (bv h λx1 hx1 h=>?_))))
   obtain ⟨k1,hd,hck1⟩:=RV.el2 ar hx1
   have hd1:=dx (f9 _) hd
   obtain ⟨k1,rfl,hd2⟩:=aY ar z hd1
   obtain ⟨k1,rfl,hd3⟩:=aY ar z hd2
   obtain ⟨v1,k1,rfl,q1,hd4⟩:=bf ar hd3
   obtain rfl:=gc ar hd4
   refine .g hg5 (.s (ixv (s.keep ar) hx1 u75 t77 z z z) z (.g hg5 (.s (lde (hck1 _ s.agree) t77 z z z z z) z (.g hg5 (.q z (.g hg5 (.q z (bv h λy4 hy4 h=>.g hg5 (.c (.cO s func183 (rF hy4 (s.keep (q1 _ ar))) z z ?_))))))))))
   intro W s
   refine .s (pkt hg5 z z z) z ?_
   cases h
   exact .nil (ck 8 s)
  refine .xx b z (.xx b z (.xx b z (.xx b z (.xx b z (.xx b z (.xx b z ?_))))))
  cases aX b hb1
  exact .s (pkf b z z z) z (.nil (ck 8 s))
 intro W s
 refine .q z (bv h λb2 hb2 h=>.cu 8 62 (b2) s ?_ ?_)
 ·refine .both (b1) (λb=>?_) (λb=>?_)
  ·have hg6:=b
   have h:=aW b hb2
   refine .g hg6 (.s (fa f77_2 z z z) z (.g hg6 (.s (ld t75 s z z z z z) z (bv h λx2 hx2 h=>?_))))
   obtain ⟨k2,hd,hck2⟩:=RV.el2 ar hx2
   have hd1:=dx (f9 _) hd
   obtain ⟨k2,rfl,hd2⟩:=aY ar z hd1
   obtain ⟨k2,rfl,hd3⟩:=aY ar z hd2
   obtain ⟨v2,k2,rfl,q2,hd4⟩:=bf ar hd3
   obtain rfl:=gc ar hd4
   refine .g hg6 (.s (ixv (s.keep ar) hx2 u75 t77 z z z) z (.g hg6 (.s (lde (hck2 _ s.agree) t77 z z z z z) z (.g hg6 (.q z (.g hg6 (.q z (bv h λy5 hy5 h=>.g hg6 (.c (.cO s func183 (rF hy5 (s.keep (q2 _ ar))) z z ?_))))))))))
   intro W s
   refine .s (pkt hg6 z z z) z ?_
   cases h
   exact .nil (ck 8 s)
  refine .xx b z (.xx b z (.xx b z (.xx b z (.xx b z (.xx b z (.xx b z ?_))))))
  cases aX b hb2
  exact .s (pkf b z z z) z (.nil (ck 8 s))
 intro W s
 obtain rfl:=o9 h
 exact .qn z (.ret (aa () (rt z rn) z (s.to [])))
theorem sK (k:Nat):nz (kQ k):=by
  induction k with
  | zero=>exact by intro a0 a1 aP w r h ar; exact no h
  | succ k ih=>exact ym (k:=k) ih
theorem xl {k:Nat}:nz (kQ k):=(sK k)
theorem iI {k:Nat} {a0:Expr} {aP:Hd} {w:World} {r:Bool} (h:bK k a0=some r) (ar:RO w aP 77 3 bB a0.Args):CL 170 #[.agg #[vi a0.Op,vi a0.N,sv aP]] w (RU w (.bool r)):=by
 unfold bK at h
 refine aw func170 z z ?_
 have s:=Sep.start w
 refine .g (.c (.box s z z ?_))
 intro g1 W s
 refine .qn z (.g (.s (ld t77 s z z z z z) z (bv h λy1 hy1 h=>.c (.cO s func183 (xl hy1 (s.keep ar)) z z ?_))))
 intro W s
 obtain rfl:=o9 h
 exact .qn z (.ret (aa () (rt z rn) z (s.to [])))
theorem nT {a0:Expr} {aP:Hd} {w:World} {r:Bool} (h:fJ a0=some r) (ar:RO w aP 77 3 bB a0.Args):CL 182 #[.agg #[vi a0.Op,vi a0.N,sv aP]] w (RU w (.bool r)):=by
 unfold fJ at h
 refine aw func182 z z ?_
 have s:=Sep.start w
 refine .g (.c (.box s z z ?_))
 intro g1 W s
 refine .qn z (.g (.s (fa f77_0 z z z) z (.s (ld t3 s z z z z z) z (.q z (.q z (.cu 4 10 ((a0.Op==0)&&(a0.N==0)) s ?_ ?_))))))
 ·refine .both (a0.Op==0) (λb=>?_) (λb=>?_)
  ·have hg1:=b
   exact .g hg1 (.s (fa f77_1 z z z) z (.g hg1 (.s (ld t3 s z z z z z) z (.g hg1 (.q z (.s (pkt hg1 z z z) z (.nil (ck 4 s z (bc hg1)))))))))
  exact .xx b z (.xx b z (.xx b z (.s (pkf b z z z) z (.nil (ck 4 s z (be b))))))
 intro W s
 refine .q z (.cu 5 16 (((a0.Op==0)&&(a0.N==0))&&((a0.Args.length:Int)==0)) s ?_ ?_)
 ·refine .both ((a0.Op==0)&&(a0.N==0)) (λb=>?_) (λb=>?_)
  ·have hg2:=b
   exact .g hg2 (.s (fa f77_2 z z z) z (.g hg2 (.s (ld t75 s z z z z z) z (.g hg2 (.s (aD (s.keep ar) u75 z z) z (.g hg2 (.q z (.s (pkt hg2 z z z) z (.nil (ck 5 s z (bc hg2)))))))))))
  exact .xx b z (.xx b z (.xx b z (.xx b z (.s (pkf b z z z) z (.nil (ck 5 s z (be b)))))))
 intro W s
 cases h
 exact .qn z (.ret (aa () (rt z rn) z (s.to [])))
theorem rG {k:Nat} {a0:ae} {al:Hd} {aE:Hd} {aF:Hd} {w:World} {r:Bool} (h:dm k a0=some r) (ak:RO w al 77 3 bB a0.Expr.Args) (aI:RO w aE 80 8 aL a0.Body) (aG:RO w aF 80 8 aL a0.Else):CL 167 #[.agg #[vi a0.Kind,vi a0.Var,vi a0.Box,vi a0.Expr.Op,vi a0.Expr.N,sv al,sv aE,sv aF]] w (RU w (.bool r)):=by
 unfold dm at h
 refine aw func167 z z ?_
 have s:=Sep.start w
 refine .g (.c (.box s z z ?_))
 intro g1 W s
 refine .qn z (.seq (.g (.s (fa f80_4 z z z) z (.s (ld t36 s z z z z z) z (.s (aD (s.keep aI) u36 z z) z (.q z (.q z (.cu 5 12 ((decide ((a0.Body.length:Int)>0))||(decide ((a0.Else.length:Int)>0))) s ?_ ?_))))))))
 ·refine .both (decide ((a0.Body.length:Int)>0)) (λb=>?_) (λb=>?_)
  ·exact .xx b z (.xx b z (.xx b z (.xx b z (.s (pkt b z z z) z (.nil (ck 5 s z (kK b)))))))
  have hg1:=b
  exact .g hg1 (.s (fa f80_5 z z z) z (.g hg1 (.s (ld t36 s z z z z z) z (.g hg1 (.s (aD (s.keep aG) u36 z z) z (.g hg1 (.q z (.s (pkf hg1 z z z) z (.nil (ck 5 s z (jT hg1)))))))))))
 intro W s
 refine .nil ?_
 refine .cs z h ?_ ?_ <;> intro h
 ·obtain rfl:=o9 h
  exact .g (.qn z (.ret (aa () (rt z rn) z (s.to []))))
 refine .skip (.seq (.g (.s (fa f80_0 z z z) z (.s (ld t3 s z z z z z) z (.nil (.block (.g (.q z (.q z (.nil ?_))))))))))
 refine .cs z h ?_ ?_ <;> intro h
 ·refine .g (.s (ld t80 s z z z z z) z (bv h λy1 hy1 h=>.c (.cO s func168 (gK hy1 (s.keep ak) (s.keep aI) (s.keep aG)) z z ?_)))
  intro W s
  refine .q z (bv h λb1 hb1 h=>.cu 3 22 (b1) s ?_ ?_)
  ·refine .both (y1) (λb=>?_) (λb=>?_)
   ·have hg2:=b
    have h:=aW b hb1
    refine .g hg2 (.s (ld t80 s z z z z z) z (bv h λy2 hy2 h=>.g hg2 (.c (.cO s func169 (gL hy2 (s.keep ak) (s.keep aI) (s.keep aG)) z z ?_))))
    intro W s
    refine .s (pkt hg2 z z z) z ?_
    cases h
    exact .nil (ck 3 s)
   refine .xx b z (.xx b z ?_)
   cases aX b hb1
   exact .s (pkf b z z z) z (.nil (ck 3 s))
  intro W s
  refine .q z (bv h λb2 hb2 h=>.cu 4 27 (b2) s ?_ ?_)
  ·refine .both (b1) (λb=>?_) (λb=>?_)
   ·have hg3:=b
    have h:=aW b hb2
    refine .g hg3 (.s (fa f80_3 z z z) z (.g hg3 (.s (ld t77 s z z z z z) z (bv h λy3 hy3 h=>.g hg3 (.c (.cO s func170 (iI hy3 (s.keep ak)) z z ?_))))))
    intro W s
    refine .s (pkt hg3 z z z) z ?_
    cases h
    exact .nil (ck 4 s)
   refine .xx b z (.xx b z (.xx b z ?_))
   cases aX b hb2
   exact .s (pkf b z z z) z (.nil (ck 4 s))
  intro W s
  obtain rfl:=o9 h
  exact .qn z (.ret (aa () (rt z rn) z (s.to [])))
 refine .g (.q z (.q z (.nil ?_)))
 refine .cs z h ?_ ?_ <;> intro h
 ·refine .g (.s (ld t80 s z z z z z) z (bv h λy4 hy4 h=>.c (.cO s func168 (gK hy4 (s.keep ak) (s.keep aI) (s.keep aG)) z z ?_)))
  intro W s
  refine .q z (bv h λb3 hb3 h=>.cu 3 35 (b3) s ?_ ?_)
  ·refine .both (y4) (λb=>?_) (λb=>?_)
   ·have hg4:=b
    have h:=aW b hb3
    refine .g hg4 (.s (ld t80 s z z z z z) z (bv h λy5 hy5 h=>.g hg4 (.c (.cO s func169 (gL hy5 (s.keep ak) (s.keep aI) (s.keep aG)) z z ?_))))
    intro W s
    refine .s (pkt hg4 z z z) z ?_
    cases h
    exact .nil (ck 3 s)
   refine .xx b z (.xx b z ?_)
   cases aX b hb3
   exact .s (pkf b z z z) z (.nil (ck 3 s))
  intro W s
  refine .q z (bv h λb4 hb4 h=>.cu 4 40 (b4) s ?_ ?_)
  ·refine .both (b3) (λb=>?_) (λb=>?_)
   ·have hg5:=b
    have h:=aW b hb4
    refine .g hg5 (.s (fa f80_3 z z z) z (.g hg5 (.s (ld t77 s z z z z z) z (bv h λy6 hy6 h=>.g hg5 (.c (.cO s func170 (iI hy6 (s.keep ak)) z z ?_))))))
    intro W s
    refine .s (pkt hg5 z z z) z ?_
    cases h
    exact .nil (ck 4 s)
   refine .xx b z (.xx b z (.xx b z ?_))
   cases aX b hb4
   exact .s (pkf b z z z) z (.nil (ck 4 s))
  intro W s
  obtain rfl:=o9 h
  exact .qn z (.ret (aa () (rt z rn) z (s.to [])))
 refine .g (.q z (.q z (.nil ?_)))
 refine .cs z h ?_ ?_ <;> intro h
 ·refine .g (.s (ld t80 s z z z z z) z (bv h λy7 hy7 h=>.c (.cO s func168 (gK hy7 (s.keep ak) (s.keep aI) (s.keep aG)) z z ?_)))
  intro W s
  refine .q z (bv h λb5 hb5 h=>.cu 3 48 (b5) s ?_ ?_)
  ·refine .both (y7) (λb=>?_) (λb=>?_)
   ·have hg6:=b
    have h:=aW b hb5
    refine .g hg6 (.s (ld t80 s z z z z z) z (bv h λy8 hy8 h=>.g hg6 (.c (.cO s func169 (gL hy8 (s.keep ak) (s.keep aI) (s.keep aG)) z z ?_))))
    intro W s
    refine .s (pkt hg6 z z z) z ?_
    cases h
    exact .nil (ck 3 s)
   refine .xx b z (.xx b z ?_)
   cases aX b hb5
   exact .s (pkf b z z z) z (.nil (ck 3 s))
  intro W s
  refine .q z (bv h λb6 hb6 h=>.cu 4 53 (b6) s ?_ ?_)
  ·refine .both (b5) (λb=>?_) (λb=>?_)
   ·have hg7:=b
    have h:=aW b hb6
    refine .g hg7 (.s (fa f80_3 z z z) z (.g hg7 (.s (ld t77 s z z z z z) z (bv h λy9 hy9 h=>.g hg7 (.c (.cO s func182 (nT hy9 (s.keep ak)) z z ?_))))))
    intro W s
    refine .s (pkt hg7 z z z) z ?_
    cases h
    exact .nil (ck 4 s)
   refine .xx b z (.xx b z (.xx b z ?_))
   cases aX b hb6
   exact .s (pkf b z z z) z (.nil (ck 4 s))
  intro W s
  obtain rfl:=o9 h
  exact .qn z (.ret (aa () (rt z rn) z (s.to [])))
 refine .g (.q z (.q z (.nil ?_)))
 refine .cs z h ?_ ?_ <;> intro h
 ·refine .g (.s (ld t80 s z z z z z) z (bv h λy10 hy10 h=>.c (.cO s func168 (gK hy10 (s.keep ak) (s.keep aI) (s.keep aG)) z z ?_)))
  intro W s
  refine .q z (bv h λb7 hb7 h=>.cu 3 61 (b7) s ?_ ?_)
  ·refine .both (y10) (λb=>?_) (λb=>?_)
   ·have hg8:=b
    have h:=aW b hb7
    refine .g hg8 (.s (ld t80 s z z z z z) z (bv h λy11 hy11 h=>.g hg8 (.c (.cO s func169 (gL hy11 (s.keep ak) (s.keep aI) (s.keep aG)) z z ?_))))
    intro W s
    refine .s (pkt hg8 z z z) z ?_
    cases h
    exact .nil (ck 3 s)
   refine .xx b z (.xx b z ?_)
   cases aX b hb7
   exact .s (pkf b z z z) z (.nil (ck 3 s))
  intro W s
  refine .q z (bv h λb8 hb8 h=>.cu 4 66 (b8) s ?_ ?_)
  ·refine .both (b7) (λb=>?_) (λb=>?_)
   ·have hg9:=b
    have h:=aW b hb8
    refine .g hg9 (.s (fa f80_3 z z z) z (.g hg9 (.s (ld t77 s z z z z z) z (bv h λy12 hy12 h=>.g hg9 (.c (.cO s func182 (nT hy12 (s.keep ak)) z z ?_))))))
    intro W s
    refine .s (pkt hg9 z z z) z ?_
    cases h
    exact .nil (ck 4 s)
   refine .xx b z (.xx b z (.xx b z ?_))
   cases aX b hb8
   exact .s (pkf b z z z) z (.nil (ck 4 s))
  intro W s
  obtain rfl:=o9 h
  exact .qn z (.ret (aa () (rt z rn) z (s.to [])))
 refine .g (.q z (.q z (.nil ?_)))
 refine .cs z h ?_ ?_ <;> intro h
 ·refine .g (.s (ld t80 s z z z z z) z (bv h λy13 hy13 h=>.c (.cO s func168 (gK hy13 (s.keep ak) (s.keep aI) (s.keep aG)) z z ?_)))
  intro W s
  refine .q z (bv h λb9 hb9 h=>.cu 3 74 (b9) s ?_ ?_)
  ·refine .both (y13) (λb=>?_) (λb=>?_)
   ·have hg10:=b
    have h:=aW b hb9
    refine .g hg10 (.s (ld t80 s z z z z z) z (bv h λy14 hy14 h=>.g hg10 (.c (.cO s func169 (gL hy14 (s.keep ak) (s.keep aI) (s.keep aG)) z z ?_))))
    intro W s
    refine .s (pkt hg10 z z z) z ?_
    cases h
    exact .nil (ck 3 s)
   refine .xx b z (.xx b z ?_)
   cases aX b hb9
   exact .s (pkf b z z z) z (.nil (ck 3 s))
  intro W s
  refine .q z (bv h λb10 hb10 h=>.cu 4 79 (b10) s ?_ ?_)
  ·refine .both (b9) (λb=>?_) (λb=>?_)
   ·have hg11:=b
    have h:=aW b hb10
    refine .g hg11 (.s (fa f80_3 z z z) z (.g hg11 (.s (ld t77 s z z z z z) z (bv h λy15 hy15 h=>.g hg11 (.c (.cO s func170 (iI hy15 (s.keep ak)) z z ?_))))))
    intro W s
    refine .s (pkt hg11 z z z) z ?_
    cases h
    exact .nil (ck 4 s)
   refine .xx b z (.xx b z (.xx b z ?_))
   cases aX b hb10
   exact .s (pkf b z z z) z (.nil (ck 4 s))
  intro W s
  obtain rfl:=o9 h
  exact .qn z (.ret (aa () (rt z rn) z (s.to [])))
 obtain rfl:=o9 h
 exact .skip (.g (.qn z (.ret (aa () (rt z rn) z (s.to [])))))
def gM (F:List ae->Int->Option (Bool)):Prop:=∀ {a0:List ae} {a1:Int} {v_0:Hd} {w:World} {r:Bool} (h:F a0 a1=some r) (q_0:RO w v_0 80 8 aL a0) , CL 117 #[sv v_0,vi a1] w (RU w (.bool r))
def mT (F:ae->Int->Option (Bool)):Prop:=∀ {a0:ae} {a1:Int} {al:Hd} {aE:Hd} {aF:Hd} {w:World} {r:Bool} (h:F a0 a1=some r) (ak:RO w al 77 3 bB a0.Expr.Args) (aI:RO w aE 80 8 aL a0.Body) (aG:RO w aF 80 8 aL a0.Else) , CL 138 #[.agg #[vi a0.Kind,vi a0.Var,vi a0.Box,vi a0.Expr.Op,vi a0.Expr.N,sv al,sv aE,sv aF],vi a1] w (RU w (.bool r))
def sL (w:World) (r:Bool):Env->World->Prop:=Fin Tryz.prog Tryz.f117 No w (λs:Unit=>.bool r) (λs=>[]) .ret
theorem sM {k:Nat} {bN:List ae->Int->Option (Bool)} {dg:ae->Int->Option (Bool)} (lD:gM bN) (qr:mT dg):gM (cY k bN dg):=by
 intro a0 a1 v_0 w r h q_0
 unfold cY at h
 refine aw func117 z z ?_
 have s:=Sep.start w
 refine .g (.qn z (.seq (.g (.qn z (.block (bv h λy1 hy1 h=>?_))))))
 refine .via (.iter (λs1 E' W'=>ao E' [(0,(sv v_0)),(1,vi a1),(5,vi s1)]/\Sep No w W' []) (λy2 x E' W'=>(match y2 with | .inl o1=>x=.ret/\sL w o1 E' W' | .inr o2=>x=.exit 0/\ao E' []/\Sep No w W' [])) hy1 ⟨sb rfl,s.to [] rfl⟩ ?_) ?_
 ·intro s1 y3 E W h hI
  obtain ⟨hE,s⟩:=hI
  refine CW.sub hE ?_
  unfold iB at h
  refine .seq (.g (.q z (.q z (.s (aD (s.keep q_0) u36 z z) z (.q z (.nil ?_))))))
  refine .cs z h ?_ ?_ <;> intro h
  ·refine .skip (.seq (.block (.g (.q z (.q z (bv h λx1 hx1 h=>?_))))))
   obtain ⟨k1,hd,hck1⟩:=RV.el2 q_0 hx1
   have hd1:=dx (np _) hd
   obtain ⟨k1,rfl,hd2⟩:=aY q_0 z hd1
   obtain ⟨k1,rfl,hd3⟩:=aY q_0 z hd2
   obtain ⟨k1,rfl,hd4⟩:=aY q_0 z hd3
   have hd5:=dx (f9 _) hd4
   obtain ⟨k1,rfl,hd6⟩:=aY q_0 z hd5
   obtain ⟨k1,rfl,hd7⟩:=aY q_0 z hd6
   obtain ⟨v1,k1,rfl,q1,hd8⟩:=bf q_0 hd7
   obtain ⟨v2,k1,rfl,q2,hd9⟩:=bf q_0 hd8
   obtain ⟨v3,k1,rfl,q3,hd10⟩:=bf q_0 hd9
   obtain rfl:=gc q_0 hd10
   refine .s (ixv (s.keep q_0) hx1 u36 t80 z z z) z (.s (lde (hck1 _ s.agree) t80 z z z z z) z (.q z (bv h λy4 hy4 h=>.c (.cO s func138 (qr hy4 (s.keep (q1 _ q_0)) (s.keep (q2 _ q_0)) (s.keep (q3 _ q_0))) z z ?_))))
   intro W s
   refine .q z (.nil ?_)
   refine .cs z h ?_ ?_ <;> intro h
   ·refine .g (.qn z (.ret ?_))
    cases h
    exact ⟨by simp,z,aa (vs:=[_]) () (rt z rn) z (s.to [])⟩
   refine .skip (.region (.q z (.q z (.q z (.nil ?_)))))
   cases h
   exact ⟨z,sb z,s.to []⟩
  refine .exit ?_
  cases h
  exact ⟨by simp,z,sb z,s.to []⟩
 intro x E W hJ
 rcases y1 with o3 | o4
 ·have h:=bQ h
  obtain ⟨rfl,hF⟩:=hJ
  refine ⟨_,λ_ _ h=>h,?_⟩
  cases h
  exact hF
 have h:=bR h
 obtain ⟨rfl,hE,s⟩:=hJ
 refine ⟨_,hE.sub,?_⟩
 obtain rfl:=o9 h
 exact .g (.qn z (.ret (aa () (rt z rn) z (s.to []))))
theorem xm {k:Nat} {bN:List ae->Int->Option (Bool)} {dg:ae->Int->Option (Bool)} (lD:gM bN) (qr:mT dg):mT (gW k bN dg):=by
 intro a0 a1 al aE aF w r h ak aI aG
 unfold gW at h
 refine aw func138 z z ?_
 have s:=Sep.start w
 refine .g (.c (.box s z z ?_))
 intro g1 W s
 refine .qn z (.seq (.g (.s (fa f80_0 z z z) z (.s (ld t3 s z z z z z) z (.q z (.q z (.cu 4 12 ((a0.Kind !=2)&&(a0.Kind !=3)) s ?_ ?_)))))))
 ·refine .both (a0.Kind !=2) (λb=>?_) (λb=>?_)
  ·have hg1:=b
   exact .g hg1 (.s (fa f80_0 z z z) z (.g hg1 (.s (ld t3 s z z z z z) z (.g hg1 (.q z (.s (pkt hg1 z z z) z (.nil (ck 4 s z (bc hg1)))))))))
  exact .xx b z (.xx b z (.xx b z (.s (pkf b z z z) z (.nil (ck 4 s z (be b))))))
 intro W s
 refine .nil ?_
 refine .cs z h ?_ ?_ <;> intro h
 ·refine .g (.s (ld t80 s z z z z z) z (bv h λy1 hy1 h=>.c (.cO s func167 (rG hy1 (s.keep ak) (s.keep aI) (s.keep aG)) z z ?_)))
  intro W s
  obtain rfl:=o9 h
  exact .qn z (.ret (aa () (rt z rn) z (s.to [])))
 refine .skip (.seq (.g (.q z (.q z (.q z (.cu 10 27 ((decide (a1<1))||((a0.Kind==3)&&(decide ((a0.Else.length:Int)>0)))) s ?_ ?_))))))
 ·refine .both (decide (a1<1)) (λb=>?_) (λb=>?_)
  ·exact .xx b z (.xx b z (.xx b z (.xx b z (.xu (.xu (.xu (.xu (.xx b z (.s (pkt b z z z) z (.nil (ck 10 s z (kK b))))))))))))
  have hg2:=b
  refine .g hg2 (.s (fa f80_0 z z z) z (.g hg2 (.s (ld t3 s z z z z z) z (.g hg2 (.q z (.g hg2 (.q z (.cu 5 26 ((a0.Kind==3)&&(decide ((a0.Else.length:Int)>0))) s ?_ ?_))))))))
  ·refine .both (a0.Kind==3) (λb=>?_) (λb=>?_)
   ·have hg3:=b
    exact .g hg3 (.s (fa f80_5 z z z) z (.g hg3 (.s (ld t36 s z z z z z) z (.g hg3 (.s (aD (s.keep aG) u36 z z) z (.g hg3 (.q z (.g hg2 (.s (pkt hg3 z z z) z (.nil (ck 5 s z (bc hg3))))))))))))
   exact .xx b z (.xx b z (.xx b z (.xx b z (.g hg2 (.s (pkf b z z z) z (.nil (ck 5 s z (be b))))))))
  intro W s
  exact .s (pkf hg2 z z z) z (.nil (ck 6 s z (jT hg2)))
 intro W s
 refine .nil ?_
 refine .cs z h ?_ ?_ <;> intro h
 ·obtain rfl:=o9 h
  exact .g (.qn z (.ret (aa () (rt z rn) z (s.to []))))
 refine .skip (.g (.s (ld t80 s z z z z z) z (bv h λy2 hy2 h=>.c (.cO s func168 (gK hy2 (s.keep ak) (s.keep aI) (s.keep aG)) z z ?_))))
 intro W s
 refine .q z (bv h λb1 hb1 h=>.cu 3 33 (b1) s ?_ ?_)
 ·refine .both (y2) (λb=>?_) (λb=>?_)
  ·have hg4:=b
   have h:=aW b hb1
   refine .g hg4 (.s (ld t80 s z z z z z) z (bv h λy3 hy3 h=>.g hg4 (.c (.cO s func169 (gL hy3 (s.keep ak) (s.keep aI) (s.keep aG)) z z ?_))))
   intro W s
   refine .s (pkt hg4 z z z) z ?_
   cases h
   exact .nil (ck 3 s)
  refine .xx b z (.xx b z ?_)
  cases aX b hb1
  exact .s (pkf b z z z) z (.nil (ck 3 s))
 intro W s
 refine .q z (bv h λb2 hb2 h=>.cu 4 38 (b2) s ?_ ?_)
 ·refine .both (b1) (λb=>?_) (λb=>?_)
  ·have hg5:=b
   have h:=aW b hb2
   refine .g hg5 (.s (fa f80_3 z z z) z (.g hg5 (.s (ld t77 s z z z z z) z (bv h λy4 hy4 h=>.g hg5 (.c (.cO s func170 (iI hy4 (s.keep ak)) z z ?_))))))
   intro W s
   refine .s (pkt hg5 z z z) z ?_
   cases h
   exact .nil (ck 4 s)
  refine .xx b z (.xx b z (.xx b z ?_))
  cases aX b hb2
  exact .s (pkf b z z z) z (.nil (ck 4 s))
 intro W s
 refine .q z (bv h λb3 hb3 h=>.cu 6 45 (b3) s ?_ ?_)
 ·refine .both (b2) (λb=>?_) (λb=>?_)
  ·have hg6:=b
   have h:=aW b hb3
   refine .g hg6 (.s (fa f80_4 z z z) z (.g hg6 (.s (ld t36 s z z z z z) z (.g hg6 (.q z (.g hg6 (.q z (bv h λy5 hy5 h=>.g hg6 (.c (.cO s func117 (lD hy5 (s.keep aI)) z z ?_))))))))))
   intro W s
   refine .s (pkt hg6 z z z) z ?_
   cases h
   exact .nil (ck 6 s)
  refine .xx b z (.xx b z (.xx b z (.xx b z (.xx b z ?_))))
  cases aX b hb3
  exact .s (pkf b z z z) z (.nil (ck 6 s))
 intro W s
 refine .q z (bv h λb4 hb4 h=>.cu 6 52 (b4) s ?_ ?_)
 ·refine .both (b3) (λb=>?_) (λb=>?_)
  ·have hg7:=b
   have h:=aW b hb4
   refine .g hg7 (.s (fa f80_5 z z z) z (.g hg7 (.s (ld t36 s z z z z z) z (.g hg7 (.q z (.g hg7 (.q z (bv h λy6 hy6 h=>.g hg7 (.c (.cO s func117 (lD hy6 (s.keep aG)) z z ?_))))))))))
   intro W s
   refine .s (pkt hg7 z z z) z ?_
   cases h
   exact .nil (ck 6 s)
  refine .xx b z (.xx b z (.xx b z (.xx b z (.xx b z ?_))))
  cases aX b hb4
  exact .s (pkf b z z z) z (.nil (ck 6 s))
 intro W s
 obtain rfl:=o9 h
 exact .qn z (.ret (aa () (rt z rn) z (s.to [])))
theorem oC (k:Nat):gM (br k)/\mT (m8 k):=by
  induction k with
  | zero=>exact ⟨by intro a0 a1 v_0 w r h q_0; exact no h,by intro a0 a1 al aE aF w r h ak aI aG; exact no h⟩
  | succ k ih=>exact ⟨sM (k:=k) ih.1 ih.2,xm (k:=k) ih.1 ih.2⟩
theorem rH {k:Nat}:gM (br k):=(oC k).1
theorem ni {k:Nat} {a0:List ae} {v_0:Hd} {w:World} {r:Bool} (h:cd k a0=some r) (q_0:RO w v_0 80 8 aL a0):CL 85 #[sv v_0] w (RU w (.bool r)):=by
 unfold cd at h
 refine aw func85 z z ?_
 have s:=Sep.start w
 refine .g (.qn z (.g (.q z (bv h λy1 hy1 h=>.c (.cO s func117 (rH hy1 (s.keep q_0)) z z ?_)))))
 intro W s
 refine .q z (bv h λb1 hb1 h=>.cu 4 9 (b1) s ?_ ?_)
 ·refine .both (y1) (λb=>?_) (λb=>?_)
  ·have hg1:=b
   have h:=aW b hb1
   refine .g hg1 (.q z (bv h λy2 hy2 h=>.g hg1 (.c (.cO s func116 (su hy2 (s.keep q_0)) z z ?_))))
   intro W s
   refine .g hg1 (.q z (.s (pkt hg1 z z z) z ?_))
   cases h
   exact .nil (ck 4 s)
  refine .xx b z (.xx b z (.xx b z ?_))
  cases aX b hb1
  exact .s (pkf b z z z) z (.nil (ck 4 s))
 intro W s
 obtain rfl:=o9 h
 exact .qn z (.ret (aa () (rt z rn) z (s.to [])))
def kH (F:List ae->Int->Option (Bool)):Prop:=∀ {a0:List ae} {a1:Int} {v_0:Hd} {w:World} {r:Bool} (h:F a0 a1=some r) (q_0:RO w v_0 80 8 aL a0) , CL 86 #[sv v_0,vi a1] w (RU w (.bool r))
def tJ (w:World) (r:Bool):Env->World->Prop:=Fin Tryz.prog Tryz.f86 No w (λs:Unit=>.bool r) (λs=>[]) .ret
theorem tK {k:Nat} {dE:List ae->Int->Option (Bool)} (nU:kH dE):kH (dF k dE):=by
 intro a0 a1 v_0 w r h q_0
 unfold dF at h
 refine aw func86 z z ?_
 have s:=Sep.start w
 refine .g (.qn z (.seq (.g (.qn z (.block (bv h λy1 hy1 h=>?_))))))
 refine .via (.iter (λs1 E' W'=>ao E' [(0,(sv v_0)),(1,vi a1),(5,vi s1)]/\Sep No w W' []) (λy2 x E' W'=>(match y2 with | .inl o1=>x=.ret/\tJ w o1 E' W' | .inr o2=>x=.exit 0/\ao E' []/\Sep No w W' [])) hy1 ⟨sb rfl,s.to [] rfl⟩ ?_) ?_
 ·intro s1 y3 E W h hI
  obtain ⟨hE,s⟩:=hI
  refine CW.sub hE ?_
  unfold lZ at h
  refine .seq (.g (.q z (.q z (.s (aD (s.keep q_0) u36 z z) z (.q z (.nil ?_))))))
  refine .cs z h ?_ ?_ <;> intro h
  ·refine .skip (.seq (.block (.g (.q z (.q z (bv h λx1 hx1 h=>?_))))))
   obtain ⟨k1,hd,hck1⟩:=RV.el2 q_0 hx1
   have hd1:=dx (np _) hd
   obtain ⟨k1,rfl,hd2⟩:=aY q_0 z hd1
   obtain ⟨k1,rfl,hd3⟩:=aY q_0 z hd2
   obtain ⟨k1,rfl,hd4⟩:=aY q_0 z hd3
   have hd5:=dx (f9 _) hd4
   obtain ⟨k1,rfl,hd6⟩:=aY q_0 z hd5
   obtain ⟨k1,rfl,hd7⟩:=aY q_0 z hd6
   obtain ⟨v1,k1,rfl,q1,hd8⟩:=bf q_0 hd7
   obtain ⟨v2,k1,rfl,q2,hd9⟩:=bf q_0 hd8
   obtain ⟨v3,k1,rfl,q3,hd10⟩:=bf q_0 hd9
   obtain rfl:=gc q_0 hd10
   refine .s (ixv (s.keep q_0) hx1 u36 t80 z z z) z (.s (lde (hck1 _ s.agree) t80 z z z z z) z (.c (.alloc t80 s ?_)))
   intro g1 W s
   refine .c (.st t80 s z z z ?_)
   intro W s
   refine .nil (.seq (.g (.s (fa f80_0 z z z) z (.s (ld t3 s z z z z z) z (.q z (.q z (.cu 4 24 ((x1.Kind==4)||(x1.Kind==5)) s ?_ ?_)))))))
   ·refine .both (x1.Kind==4) (λb=>?_) (λb=>?_)
    ·exact .xx b z (.xx b z (.xx b z (.s (pkt b z z z) z (.nil (ck 4 s z (kK b))))))
    have hg1:=b
    exact .g hg1 (.s (fa f80_0 z z z) z (.g hg1 (.s (ld t3 s z z z z z) z (.g hg1 (.q z (.s (pkf hg1 z z z) z (.nil (ck 4 s z (jT hg1)))))))))
   intro W s
   refine .q z (.cu 5 30 (((x1.Kind==4)||(x1.Kind==5))&&(decide (x1.Box>=a1))) s ?_ ?_)
   ·refine .both ((x1.Kind==4)||(x1.Kind==5)) (λb=>?_) (λb=>?_)
    ·have hg2:=b
     exact .g hg2 (.s (fa f80_2 z z z) z (.g hg2 (.s (ld t3 s z z z z z) z (.g hg2 (.q z (.g hg2 (.q z (.s (pkt hg2 z z z) z (.nil (ck 5 s z (bc hg2)))))))))))
    exact .xx b z (.xx b z (.xx b z (.xx b z (.s (pkf b z z z) z (.nil (ck 5 s z (be b)))))))
   intro W s
   refine .nil ?_
   refine .cs z h ?_ ?_ <;> intro h
   ·refine .g (.qn z (.ret ?_))
    cases h
    exact ⟨by simp,z,aa (vs:=[_]) () (rt z rn) z (s.to [])⟩
   refine .skip (.g (.s (fa f80_4 z z z) z (.s (ld t36 s z z z z z) z (.q z (bv h λy4 hy4 h=>.c (.cO s func86 (nU hy4 (s.keep (q2 _ q_0))) z z ?_))))))
   intro W s
   refine .q z (.q z (bv h λb1 hb1 h=>.cu 6 42 (b1) s ?_ ?_))
   ·refine .both (!y4) (λb=>?_) (λb=>?_)
    ·refine .xx b z (.xx b z (.xx b z (.xx b z (.xx b z ?_))))
     cases aW b hb1
     exact .s (pkt b z z z) z (.nil (ck 6 s))
    have hg3:=b
    have h:=aX b hb1
    refine .g hg3 (.s (fa f80_5 z z z) z (.g hg3 (.s (ld t36 s z z z z z) z (.g hg3 (.q z (bv h λy5 hy5 h=>.g hg3 (.c (.cO s func86 (nU hy5 (s.keep (q3 _ q_0))) z z ?_))))))))
    intro W s
    refine .g hg3 (.q z (.s (pkf hg3 z z z) z ?_))
    cases h
    exact .nil (ck 6 s)
   intro W s
   refine .nil ?_
   refine .cs z h ?_ ?_ <;> intro h
   ·refine .g (.qn z (.ret ?_))
    cases h
    exact ⟨by simp,z,aa (vs:=[_]) () (rt z rn) z (s.to [])⟩
   refine .skip (.region (.q z (.q z (.q z (.nil ?_)))))
   cases h
   exact ⟨z,sb z,s.to []⟩
  refine .exit ?_
  cases h
  exact ⟨by simp,z,sb z,s.to []⟩
 intro x E W hJ
 rcases y1 with o3 | o4
 ·have h:=bQ h
  obtain ⟨rfl,hF⟩:=hJ
  refine ⟨_,λ_ _ h=>h,?_⟩
  cases h
  exact hF
 have h:=bR h
 obtain ⟨rfl,hE,s⟩:=hJ
 refine ⟨_,hE.sub,?_⟩
 obtain rfl:=o9 h
 exact .g (.qn z (.ret (aa () (rt z rn) z (s.to []))))
theorem pm (k:Nat):kH (dX k):=by
  induction k with
  | zero=>exact by intro a0 a1 v_0 w r h q_0; exact no h
  | succ k ih=>exact tK (k:=k) ih
theorem sN {k:Nat}:kH (dX k):=(pm k)
def pY (w:World) (r:Bool):Env->World->Prop:=Fin Tryz.prog Tryz.f53 No w (λs:Unit=>.bool r) (λs=>[]) .ret
theorem pn {k:Nat} {a0:aJ} {aC:Hd} {az:Hd} {w:World} {r:Bool} (h:fw k a0=some r) (bi:RO w aC 3 1 (D.int .i64) a0.Rooms) (ay:RO w az 36 1 (λ(l:List ae)=>D.row 80 8 (l.map aL)) a0.Tasks):CL 53 #[.agg #[sv aC,sv az]] w (RU w (.bool r)):=by
 unfold fw at h
 refine aw func53 z z ?_
 have s:=Sep.start w
 refine .g (.c (.box s z z ?_))
 intro g1 W s
 refine .qn z (.seq (.g (.s (fa f26_0 z z z) z (.s (ld t23 s z z z z z) z (bv h λy1 hy1 h=>.c (.cO s func84 (sJ hy1 (s.keep bi)) z z ?_))))))
 intro W s
 refine .q z (.q z (bv h λb1 hb1 h=>.cu 6 14 (b1) s ?_ ?_))
 ·refine .both (!y1) (λb=>?_) (λb=>?_)
  ·refine .xx b z (.xx b z (.xx b z (.xx b z (.xx b z ?_))))
   cases aW b hb1
   exact .s (pkt b z z z) z (.nil (ck 6 s))
  have hg1:=b
  have h:=aX b hb1
  refine .g hg1 (.s (fa f26_1 z z z) z (.g hg1 (.s (ld t24 s z z z z z) z (.g hg1 (.s (aD (s.keep ay) u24 z z) z (bv h λy2 hy2 h=>.g hg1 (.c (.cO s func55 (bJ hy2) z z ?_))))))))
  intro W s
  refine .g hg1 (.q z (.s (pkf hg1 z z z) z ?_))
  cases h
  exact .nil (ck 6 s)
 intro W s
 refine .nil ?_
 refine .cs z h ?_ ?_ <;> intro h
 ·obtain rfl:=o9 h
  exact .g (.qn z (.ret (aa () (rt z rn) z (s.to []))))
 refine .skip (.seq (.g (.qn z (.block (bv h λy3 hy3 h=>?_)))))
 refine .via (.iter (λs1 E' W'=>ao E' [(1,Pt g1),(3,vi s1)]/\Sep No w W' [.box g1 26 [sv aC,sv az]]) (λy4 x E' W'=>(match y4 with | .inl o1=>x=.ret/\pY w o1 E' W' | .inr o2=>x=.exit 0/\ao E' []/\Sep No w W' [.box g1 26 [sv aC,sv az]])) hy3 ⟨sb rfl,s.tk [0]⟩ ?_) ?_
 ·intro s1 y5 E W h hI
  obtain ⟨hE,s⟩:=hI
  refine CW.sub hE ?_
  unfold fv at h
  refine .seq (.g (.q z (.s (fa f26_1 z z z) z (.s (ld t24 s z z z z z) z (.s (aD (s.keep ay) u24 z z) z (.q z (.nil ?_)))))))
  refine .cs z h ?_ ?_ <;> intro h
  ·refine .skip (.seq (.block (.seq (bv h λx1 hx1 h=>bv h λy6 hy6 h=>bv h λb2 hb2 h=>?_))))
   refine .via (R':=λx E' W'=>x=.normal/\ao E' [(1,Pt g1),(3,vi s1),(40,.bool b2)]/\Sep No w W' [.box g1 26 [sv aC,sv az]]) ?_ ?_
   ·refine .rk 19 s [0] T.mix ?_
    intro W s
    have t:=s.to [0]
    refine .ts' 0 z (λW t=>fa f26_1 z z z) t z (.ts' 1 z (λW t=>ld t24 t z z z z z) t z (.tp' 2 z z t ?_))
    obtain ⟨k1,hd,hck1⟩:=RV.el2 ay hx1
    obtain ⟨v1,k1,rfl,q1,hd1⟩:=bf ay hd
    obtain rfl:=gc ay hd1
    refine .ts' 3 z (λW t=>ixv (s.keep ay) hx1 u24 t36 z z z) t z (.ts' 4 z (λW t=>lde (hck1 _ t.agree) t36 z z z z z) t z (.by1 5 z (.cO s func85 (ni hy6 (s.keep (q1 _ ay))) z z ?_)))
    intro W s
    refine s.an [0] λt=>.tp' 6 z z t (.tp' 7 z z t (.both (!y6) (λb=>?_) (λb=>?_)))
    ·exact .off 8 z b t (.off 9 z b t (.off 10 z b t (.off 11 z b t (.off 12 z b t (.off 13 z b t (.off 14 z b t (.off 15 z b t (.off 16 z b t (.off 17 z b t (.ts' 18 z (λW t=>pkt b z z z) t z (.eqv 40 z (me (aW b hb2)) (.done (⟨z,sb z,s.tk [0]⟩)))) (by kernel_rfl) z z) (by kernel_rfl) z z) (by kernel_rfl) z z) (by kernel_rfl) z z) (by kernel_rfl) z z) (by kernel_rfl) z z) (by kernel_rfl) z z) (by kernel_rfl) z z) (by kernel_rfl) z z) (by kernel_rfl) z z
    have hg2:=b
    have h_b2:=aX b hb2
    refine .t1g 8 z hg2 (λW t=>fa f26_1 z z z) t (.t1g 9 z hg2 (λW t=>ld t24 t z z z z z) t (.t1g 10 z hg2 (λW t=>pr z) t (bv h_b2 λx2 hx2 h_b2=>?_) (by kernel_rfl) z z) (by kernel_rfl) z z) (by kernel_rfl) z z
    obtain ⟨k2,hd,hck2⟩:=RV.el2 ay hx2
    obtain ⟨v2,k2,rfl,q2,hd1⟩:=bf ay hd
    obtain rfl:=gc ay hd1
    refine .t1g 11 z hg2 (λW t=>ixv (s.keep ay) hx2 u24 t36 z z z) t (.t1g 12 z hg2 (λW t=>lde (hck2 _ t.agree) t36 z z z z z) t (.t1g 13 z hg2 (λW t=>fa f26_0 z z z) t (.t1g 14 z hg2 (λW t=>ld t23 t z z z z z) t (.t1g 15 z hg2 (λW t=>aD (s.keep bi) u23 z z) t (bv h_b2 λy7 hy7 h_b2=>.by1 16 z (.gd hg2 (.cO s func86 (sN hy7 (s.keep (q2 _ ay))) z z ?_))) (by kernel_rfl) z z) (by kernel_rfl) z z) (by kernel_rfl) z z) (by kernel_rfl) z z) (by kernel_rfl) z z
    intro W s
    refine s.an [0] λt=>?_
    exact .t1g 17 z hg2 (λW t=>pr z) t (.ts' 18 z (λW t=>pkf hg2 z z z) t z (.eqv 40 z (me h_b2) (.done (⟨z,sb z,s.tk [0]⟩)))) (by kernel_rfl) z z
   intro x E W hJ
   obtain ⟨rfl,hE,s⟩:=hJ
   refine ⟨_,hE.sub,?_⟩
   refine .cs z h ?_ ?_ <;> intro h
   ·refine .g (.qn z (.ret ?_))
    cases h
    exact ⟨by simp,z,aa (vs:=[_]) () (rt z rn) z (s.to [])⟩
   refine .skip (.region (.q z (.q z (.q z (.nil ?_)))))
   cases h
   exact ⟨z,sb z,s.tk [0]⟩
  refine .exit ?_
  cases h
  exact ⟨by simp,z,sb z,s.tk [0]⟩
 intro x E W hJ
 rcases y3 with o3 | o4
 ·have h:=bQ h
  obtain ⟨rfl,hF⟩:=hJ
  refine ⟨_,λ_ _ h=>h,?_⟩
  cases h
  exact hF
 have h:=bR h
 obtain ⟨rfl,hE,s⟩:=hJ
 refine ⟨_,hE.sub,?_⟩
 obtain rfl:=o9 h
 exact .g (.qn z (.ret (aa () (rt z rn) z (s.to []))))
def lF (F:Expr->Int->Option ((List ab))):Prop:=∀ {a0:Expr} {a1:Int} {aP:Hd} {w:World} {r:(List ab)} (h:F a0 a1=some r) (ar:RO w aP 77 3 bB a0.Args) , CL 139 #[.agg #[vi a0.Op,vi a0.N,sv aP],vi a1] w (Ret No w (λs:Hd=>(sv s)) (λs=>[ac (sv s) 62 5 ah r]))
end
noncomputable section
theorem vf {k:Nat} {iZ:Expr->Int->Option ((List ab))} (oo:lF iZ):lF (eI k iZ):=by
 intro a0 a1 aP w r h ar
 unfold eI at h
 refine aw func139 z z ?_
 have s:=Sep.start w
 refine .g (.c (.box s z z ?_))
 intro g1 W s
 refine .qn z (.seq (.g (.s (fa f77_0 z z z) z (.s (ld t3 s z z z z z) z (.q z (.nil ?_))))))
 refine .cs z h ?_ ?_ <;> intro h
 ·refine .g (.q z (.s (fa f77_1 z z z) z (.s (ld t3 s z z z z z) z (.s (bs T.s62 z z) z (.c (.liv [(ab.mk 1 a1 0 0 a0.N)] ah u33 t62 s z z z z ?_ z (λ_=>z)))))))
  intro v1 W s
  cases h
  exact .qn z (.ret (aa v1 (rt z rn) z (s.tk [0])))
 refine .skip (.seq (.g (.s (fa f77_0 z z z) z (.s (ld t3 s z z z z z) z (.q z (.nil ?_))))))
 refine .cs z h ?_ ?_ <;> intro h
 ·refine .g (.q z (.s (fa f77_1 z z z) z (.s (ld t3 s z z z z z) z (.s (bs T.s62 z z) z (.c (.liv [(ab.mk 2 a1 a0.N 0 0)] ah u33 t62 s z z z z ?_ z (λ_=>z)))))))
  intro v2 W s
  cases h
  exact .qn z (.ret (aa v2 (rt z rn) z (s.tk [0])))
 refine .skip (.seq (.rk 15 s [0] T.mix ?_))
 intro W s
 have t:=s.to [0]
 refine .ts' 0 z (λW t=>fa f77_2 z z z) t z (.ts' 1 z (λW t=>ld t75 t z z z z z) t z (bv h λx1 hx1 h=>?_))
 obtain ⟨k1,hd,hck1⟩:=RV.el2 ar hx1
 have hd1:=dx (f9 _) hd
 obtain ⟨k1,rfl,hd2⟩:=aY ar z hd1
 obtain ⟨k1,rfl,hd3⟩:=aY ar z hd2
 obtain ⟨v3,k1,rfl,q1,hd4⟩:=bf ar hd3
 obtain rfl:=gc ar hd4
 refine .ts' 2 z (λW t=>ixv (s.keep ar) hx1 u75 t77 z z z) t z (.ts' 3 z (λW t=>lde (hck1 _ t.agree) t77 z z z z z) t z (.tp' 4 z z t (.ts' 6 z (λW t=>fa f77_2 z z z) t z (.ts' 7 z (λW t=>ld t75 t z z z z z) t z (bv h λx2 hx2 h=>?_)))))
 obtain ⟨k2,hd,hck2⟩:=RV.el2 ar hx2
 have hd1:=dx (f9 _) hd
 obtain ⟨k2,rfl,hd2⟩:=aY ar z hd1
 obtain ⟨k2,rfl,hd3⟩:=aY ar z hd2
 obtain ⟨v4,k2,rfl,q2,hd4⟩:=bf ar hd3
 obtain rfl:=gc ar hd4
 refine .ts' 8 z (λW t=>ixv (s.keep ar) hx2 u75 t77 z z z) t z (.ts' 9 z (λW t=>lde (hck2 _ t.agree) t77 z z z z z) t z (.tp' 10 z z t (.tp' 11 z z t (bv h λy1 hy1 h=>.by1 5 z (.cV s func139 (oo hy1 (s.keep (q1 _ ar))) z z ?_)))))
 intro v5 W s
 refine s.an [1] λt=>bv h λy2 hy2 h=>.by1 12 z (.cV s func139 (oo hy2 (s.keep (q2 _ ar))) z z ?_)
 intro v6 W s
 refine s.an [2] λt=>bv h λr1 hr1 h=>?_
 have hT0:=s.p1
 refine .by1 13 z (.av hr1 hT0 hT0.p1.lv (λ_=>z) u33 t62 z z z ?_)
 intro v7 W s
 refine s.an [2] λt=>.tp' 14 z z t (.done (.g (.q z (.q z (.q z (.q z (.q z (.s (fa f77_0 z z z) z (.s (ld t3 s.p2 z z z z z) z (.s (bs T.s62 z z) z (.c (.liv [(ab.mk 3 a1 a1 (w64 (a1+1)) a0.Op)] ah u33 t62 s z z z z ?_ z (λ_=>z)))))))))))))
 intro v8 W s
 refine bv h λr2 hr2 h=>?_
 have hT0:=s.p1
 refine .c (.av hr2 hT0 hT0.p1.lv (λ_=>z) u33 t62 z z z ?_)
 intro v9 W s
 obtain rfl:=o9 h
 exact .qn z (.ret (aa v9 (rt z rn) z (s.tk [0])))
theorem pZ (k:Nat):lF (ce k):=by
  induction k with
  | zero=>exact by intro a0 a1 aP w r h ar; exact no h
  | succ k ih=>exact vf (k:=k) ih
theorem mF {k:Nat}:lF (ce k):=(pZ k)
def eU (F:List ae->Int->Option ((List ab))):Prop:=∀ {a0:List ae} {a1:Int} {v_0:Hd} {w:World} {r:(List ab)} (h:F a0 a1=some r) (q_0:RO w v_0 80 8 aL a0) , CL 87 #[sv v_0,vi a1] w (Ret No w (λs:Hd=>(sv s)) (λs=>[ac (sv s) 62 5 ah r]))
def gN (F:ae->Int->Option ((List ab))):Prop:=∀ {a0:ae} {a1:Int} {al:Hd} {aE:Hd} {aF:Hd} {w:World} {r:(List ab)} (h:F a0 a1=some r) (ak:RO w al 77 3 bB a0.Expr.Args) (aI:RO w aE 80 8 aL a0.Body) (aG:RO w aF 80 8 aL a0.Else) , CL 118 #[.agg #[vi a0.Kind,vi a0.Var,vi a0.Box,vi a0.Expr.Op,vi a0.Expr.N,sv al,sv aE,sv aF],vi a1] w (Ret No w (λs:Hd=>(sv s)) (λs=>[ac (sv s) 62 5 ah r]))
def jP (F:ae->Int->Option ((List ab))):Prop:=∀ {a0:ae} {a1:Int} {al:Hd} {aE:Hd} {aF:Hd} {w:World} {r:(List ab)} (h:F a0 a1=some r) (ak:RO w al 77 3 bB a0.Expr.Args) (aI:RO w aE 80 8 aL a0.Body) (aG:RO w aF 80 8 aL a0.Else) , CL 140 #[.agg #[vi a0.Kind,vi a0.Var,vi a0.Box,vi a0.Expr.Op,vi a0.Expr.N,sv al,sv aE,sv aF],vi a1] w (Ret No w (λs:Hd=>(sv s)) (λs=>[ac (sv s) 62 5 ah r]))
def fd (F:ae->Int->Option ((List ab))):Prop:=∀ {a0:ae} {a1:Int} {al:Hd} {aE:Hd} {aF:Hd} {w:World} {r:(List ab)} (h:F a0 a1=some r) (ak:RO w al 77 3 bB a0.Expr.Args) (aI:RO w aE 80 8 aL a0.Body) (aG:RO w aF 80 8 aL a0.Else) , CL 141 #[.agg #[vi a0.Kind,vi a0.Var,vi a0.Box,vi a0.Expr.Op,vi a0.Expr.N,sv al,sv aE,sv aF],vi a1] w (Ret No w (λs:Hd=>(sv s)) (λs=>[ac (sv s) 62 5 ah r]))
theorem vg {k:Nat} {a6:List ae->Int->Option ((List ab))} {aZ:ae->Int->Option ((List ab))} {bq:ae->Int->Option ((List ab))} {a7:ae->Int->Option ((List ab))} (ff:eU a6) (kI:gN aZ) (mh:jP bq) (jQ:fd a7):eU (eJ k a6 aZ bq a7):=by
 intro a0 a1 v_0 w r h q_0
 unfold eJ at h
 refine aw func87 z z ?_
 have s:=Sep.start w
 refine .g (.qn z (.g (.c (.liv [] ah u33 t62 s z z z z ?_ z (λ_=>z)))))
 intro v1 W s
 refine .qn z (.seq (.g (.qn z (.block (bv h λy1 hy1 h=>?_)))))
 refine .via (.iter (λs1 E' W'=>∃ (v4:Hd),ao E' [(0,(sv v_0)),(1,vi a1),(5,(sv v4)),(6,vi s1.2)]/\Sep No w W' [ac (sv v4) 62 5 ah s1.1]) (λy2 x E' W'=>x=.exit 0/\∃ (v5:Hd),ao E' [(5,(sv v5))]/\Sep No w W' [ac (sv v5) 62 5 ah y2]) hy1 ⟨v1,sb z,s.tk [0]⟩ ?_) ?_
 ·intro s1 y3 E W h hI
  obtain ⟨v3,hE,s⟩:=hI
  refine CW.sub hE ?_
  unfold kx at h
  refine .seq (.g (.q z (.q z (.s (aD (s.keep q_0) u36 z z) z (.q z (.nil ?_))))))
  refine .cs z h ?_ ?_ <;> intro h
  ·refine .skip (.seq (.block (.region (.q z (.q z (.q z (bv h λx1 hx1 h=>?_)))))))
   obtain ⟨k1,hd,hck1⟩:=RV.el2 q_0 hx1
   have hd1:=dx (np _) hd
   obtain ⟨k1,rfl,hd2⟩:=aY q_0 z hd1
   obtain ⟨k1,rfl,hd3⟩:=aY q_0 z hd2
   obtain ⟨k1,rfl,hd4⟩:=aY q_0 z hd3
   have hd5:=dx (f9 _) hd4
   obtain ⟨k1,rfl,hd6⟩:=aY q_0 z hd5
   obtain ⟨k1,rfl,hd7⟩:=aY q_0 z hd6
   obtain ⟨v6,k1,rfl,q5,hd8⟩:=bf q_0 hd7
   obtain ⟨v7,k1,rfl,q6,hd9⟩:=bf q_0 hd8
   obtain ⟨v8,k1,rfl,q7,hd10⟩:=bf q_0 hd9
   obtain rfl:=gc q_0 hd10
   refine .s (ixv (s.keep q_0) hx1 u36 t80 z z z) z (.s (lde (hck1 _ s.agree) t80 z z z z z) z (.q z (.q z (.s (aD s.lv u33 z z) z (.q z (bv h λy4 hy4 h=>.c (.cV s func118 (kI hy4 (s.keep (q5 _ q_0)) (s.keep (q6 _ q_0)) (s.keep (q7 _ q_0))) z z ?_)))))))
   intro v9 W s
   refine bv h λr1 hr1 h=>?_
   have hT0:=s.p1
   refine .c (.av hr1 hT0 hT0.p1.lv (λ_=>z) u33 t62 z z z ?_)
   intro v10 W s
   refine .qn z (.region (.q z (.q z (.q z (.nil ?_)))))
   cases h
   exact ⟨z,v10,sb z,s.tk [0]⟩
  refine .exit ?_
  cases h
  exact ⟨by simp,z,v3,sb z,s.tk [0]⟩
 intro x E W hJ
 obtain ⟨rfl,v11,hE,s⟩:=hJ
 refine ⟨_,hE.sub,?_⟩
 obtain rfl:=o9 h
 exact .g (.q z (.qn z (.ret (aa v11 (rt z rn) z (s.tk [0])))))
theorem vh {k:Nat} {a6:List ae->Int->Option ((List ab))} {aZ:ae->Int->Option ((List ab))} {bq:ae->Int->Option ((List ab))} {a7:ae->Int->Option ((List ab))} (ff:eU a6) (kI:gN aZ) (mh:jP bq) (jQ:fd a7):gN (cG k a6 aZ bq a7):=by
 intro a0 a1 al aE aF w r h ak aI aG
 unfold cG at h
 refine aw func118 z z ?_
 have s:=Sep.start w
 refine .g (.c (.box s z z ?_))
 intro g1 W s
 refine .qn z (.g (.s (fa f80_3 z z z) z (.s (ld t77 s z z z z z) z (bv h λy1 hy1 h=>.c (.cV s func139 (mF hy1 (s.keep ak)) z z ?_)))))
 intro v1 W s
 refine .qn z (.seq (.g (.s (fa f80_0 z z z) z (.s (ld t3 s.p1 z z z z z) z (.nil (.block (.g (.q z (.q z (.nil ?_))))))))))
 refine .cs z h ?_ ?_ <;> intro h
 ·refine .g (.s (ld t80 s.p1 z z z z z) z (.q z (bv h λy2 hy2 h=>.c (.cV s func140 (mh hy2 (s.keep ak) (s.keep aI) (s.keep aG)) z z ?_))))
  intro v2 W s
  obtain rfl:=o9 h
  exact .qn z (.ret (aa v2 (rt z rn) z (s.tk [0])))
 refine .g (.q z (.q z (.nil ?_)))
 refine .cs z h ?_ ?_ <;> intro h
 ·refine .g (.s (ld t80 s.p1 z z z z z) z (.q z (bv h λy3 hy3 h=>.c (.cV s func141 (jQ hy3 (s.keep ak) (s.keep aI) (s.keep aG)) z z ?_))))
  intro v3 W s
  obtain rfl:=o9 h
  exact .qn z (.ret (aa v3 (rt z rn) z (s.tk [0])))
 refine .g (.q z (.q z (.nil ?_)))
 refine .cs z h ?_ ?_ <;> intro h
 ·refine .g (.q z (.s (fa f80_1 z z z) z (.s (ld t3 s.p1 z z z z z) z (.s (bs T.s62 z z) z (.c (.liv [(ab.mk 2 a0.Var 4 0 0)] ah u33 t62 s z z z z ?_ z (λ_=>z)))))))
  intro v4 W s
  refine bv h λr1 hr1 h=>?_
  have hT0:=s.p1
  refine .c (.av hr1 hT0 hT0.p1.lv (λ_=>z) u33 t62 z z z ?_)
  intro v5 W s
  obtain rfl:=o9 h
  exact .qn z (.ret (aa v5 (rt z rn) z (s.tk [0])))
 refine .g (.q z (.q z (.nil ?_)))
 refine .cs z h ?_ ?_ <;> intro h
 ·refine .g (.q z (.s (fa f80_2 z z z) z (.s (ld t3 s.p1 z z z z z) z (.s (bs T.s62 z z) z (.c (.liv [(ab.mk 6 0 4 0 a0.Box)] ah u33 t62 s z z z z ?_ z (λ_=>z)))))))
  intro v6 W s
  refine bv h λr2 hr2 h=>?_
  have hT0:=s.p1
  refine .c (.av hr2 hT0 hT0.p1.lv (λ_=>z) u33 t62 z z z ?_)
  intro v7 W s
  obtain rfl:=o9 h
  exact .qn z (.ret (aa v7 (rt z rn) z (s.tk [0])))
 refine .g (.q z (.q z (.nil ?_)))
 refine .cs z h ?_ ?_ <;> intro h
 ·refine .g (.q z (.s (bs T.s62 z z) z (.c (.liv [(ab.mk 9 0 4 0 0)] ah u33 t62 s z z z z ?_ z (λ_=>z)))))
  intro v8 W s
  refine bv h λr3 hr3 h=>?_
  have hT0:=s.p1
  refine .c (.av hr3 hT0 hT0.p1.lv (λ_=>z) u33 t62 z z z ?_)
  intro v9 W s
  obtain rfl:=o9 h
  exact .qn z (.ret (aa v9 (rt z rn) z (s.tk [0])))
 refine .g (.q z (.q z (.nil ?_)))
 refine .cs z h ?_ ?_ <;> intro h
 ·refine .g (.s (fa f80_1 z z z) z (.s (ld t3 s.p1 z z z z z) z (.s (fa f80_2 z z z) z (.s (ld t3 s.p1 z z z z z) z (.s (bs T.s62 z z) z (.c (.liv [(ab.mk 7 a0.Var 0 0 a0.Box)] ah u33 t62 s z z z z ?_ z (λ_=>z))))))))
  intro v10 W s
  cases h
  exact .qn z (.ret (aa v10 (rt z rn) z (s.tk [0])))
 refine .skip (.g (.s (bs T.s62 z z) z (.c (.liv [(ab.mk 8 0 0 0 0)] ah u33 t62 s z z z z ?_ z (λ_=>z)))))
 intro v11 W s
 cases h
 exact .qn z (.ret (aa v11 (rt z rn) z (s.tk [0])))
theorem xn {k:Nat} {a6:List ae->Int->Option ((List ab))} {aZ:ae->Int->Option ((List ab))} {bq:ae->Int->Option ((List ab))} {a7:ae->Int->Option ((List ab))} (ff:eU a6) (kI:gN aZ) (mh:jP bq) (jQ:fd a7):jP (gX k a6 aZ bq a7):=by
 intro a0 a1 al aE aF w r h ak aI aG
 unfold gX at h
 refine aw func140 z z ?_
 have s:=Sep.start w
 refine .g (.c (.box s z z ?_))
 intro g1 W s
 refine .qn z (.g (.s (fa f80_3 z z z) z (.s (ld t77 s z z z z z) z (bv h λy1 hy1 h=>.c (.cV s func139 (mF hy1 (s.keep ak)) z z ?_)))))
 intro v1 W s
 refine .qn z (.g (.s (fa f80_4 z z z) z (.s (ld t36 s.p1 z z z z z) z (.q z (.q z (.s (aD s.lv u33 z z) z (.q z (.q z (bv h λy2 hy2 h=>.c (.cV s func87 (ff hy2 (s.keep aI)) z z ?_))))))))))
 intro v2 W s
 refine .qn z (.g (.q z (.q z (.s (aD s.p1.lv u33 z z) z (.q z (.q z (.q z (.s (aD s.lv u33 z z) z (.q z (.qn z (.seq (.g (.s (fa f80_5 z z z) z (.s (ld t36 s.p2 z z z z z) z (.s (aD (s.keep aG) u36 z z) z (.q z (.nil ?_)))))))))))))))))
 refine .cs z h ?_ ?_ <;> intro h
 ·refine .g (.q z (.q z (.s (bs T.s62 z z) z (.c (.liv [(ab.mk 5 0 4 0 (w64 ((w64 ((w64 (a1+(y1.length:Int)))+1))+(y2.length:Int))))] ah u33 t62 s z z z z ?_ z (λ_=>z))))))
  intro v3 W s
  refine bv h λr1 hr1 h=>?_
  have hT0:=s.p2
  refine .c (.av hr1 hT0 hT0.p1.lv (λ_=>z) u33 t62 z z z ?_)
  intro v4 W s
  refine .qn z (.g (.q z (.q z (bv h λr2 hr2 h=>?_))))
  have hT0:=s
  refine .c (.av hr2 hT0 hT0.p2.lv (λ_=>z) u33 t62 z z z ?_)
  intro v5 W s
  obtain rfl:=o9 h
  exact .qn z (.ret (aa v5 (rt z rn) z (s.tk [0])))
 refine .skip (.g (.s (fa f80_5 z z z) z (.s (ld t36 s.p2 z z z z z) z (.q z (.q z (bv h λy3 hy3 h=>.c (.cV s func87 (ff hy3 (s.keep aG)) z z ?_)))))))
 intro v6 W s
 refine .qn z (.g (.q z (.q z (.q z (.s (bs T.s62 z z) z (.c (.liv [(ab.mk 5 0 4 0 (w64 ((w64 ((w64 ((w64 (a1+(y1.length:Int)))+1))+(y2.length:Int)))+1)))] ah u33 t62 s z z z z ?_ z (λ_=>z))))))))
 intro v7 W s
 refine bv h λr3 hr3 h=>?_
 have hT0:=s.p3
 refine .c (.av hr3 hT0 hT0.p1.lv (λ_=>z) u33 t62 z z z ?_)
 intro v8 W s
 refine .qn z (.g (.q z (.q z (bv h λr4 hr4 h=>?_))))
 have hT0:=s
 refine .c (.av hr4 hT0 hT0.p3.lv (λ_=>z) u33 t62 z z z ?_)
 intro v9 W s
 refine .qn z (.g (.q z (.q z (.q z (.q z (.s (aD s.p2.lv u33 z z) z (.q z (.s (bs T.s62 z z) z (.c (.liv [(ab.mk 4 0 0 0 (w64 ((w64 ((w64 ((w64 ((w64 (a1+(y1.length:Int)))+1))+(y2.length:Int)))+1))+(y3.length:Int))))] ah u33 t62 s z z z z ?_ z (λ_=>z)))))))))))
 intro v10 W s
 refine bv h λr5 hr5 h=>?_
 have hT0:=s.p1
 refine .c (.av hr5 hT0 hT0.p1.lv (λ_=>z) u33 t62 z z z ?_)
 intro v11 W s
 refine .qn z (.g (.q z (.q z (bv h λr6 hr6 h=>?_))))
 have hT0:=s
 refine .c (.av hr6 hT0 hT0.p3.lv (λ_=>z) u33 t62 z z z ?_)
 intro v12 W s
 obtain rfl:=o9 h
 exact .qn z (.ret (aa v12 (rt z rn) z (s.tk [0])))
theorem tL {k:Nat} {a6:List ae->Int->Option ((List ab))} {aZ:ae->Int->Option ((List ab))} {bq:ae->Int->Option ((List ab))} {a7:ae->Int->Option ((List ab))} (ff:eU a6) (kI:gN aZ) (mh:jP bq) (jQ:fd a7):fd (dG k a6 aZ bq a7):=by
 intro a0 a1 al aE aF w r h ak aI aG
 unfold dG at h
 refine aw func141 z z ?_
 have s:=Sep.start w
 refine .g (.c (.box s z z ?_))
 intro g1 W s
 refine .qn z (.g (.s (fa f80_3 z z z) z (.s (ld t77 s z z z z z) z (bv h λy1 hy1 h=>.c (.cV s func139 (mF hy1 (s.keep ak)) z z ?_)))))
 intro v1 W s
 refine .qn z (.g (.s (fa f80_4 z z z) z (.s (ld t36 s.p1 z z z z z) z (.q z (.q z (.s (aD s.lv u33 z z) z (.q z (.q z (bv h λy2 hy2 h=>.c (.cV s func87 (ff hy2 (s.keep aI)) z z ?_))))))))))
 intro v2 W s
 refine .qn z (.g (.q z (.q z (.q z (.s (aD s.p1.lv u33 z z) z (.q z (.q z (.q z (.s (aD s.lv u33 z z) z (.q z (.q z (.s (bs T.s62 z z) z (.c (.liv [(ab.mk 5 0 4 0 (w64 ((w64 ((w64 ((w64 (a1+(y1.length:Int)))+1))+(y2.length:Int)))+1)))] ah u33 t62 s z z z z ?_ z (λ_=>z)))))))))))))))
 intro v3 W s
 refine bv h λr1 hr1 h=>?_
 have hT0:=s.p2
 refine .c (.av hr1 hT0 hT0.p1.lv (λ_=>z) u33 t62 z z z ?_)
 intro v4 W s
 refine .qn z (.g (.q z (.q z (bv h λr2 hr2 h=>?_))))
 have hT0:=s
 refine .c (.av hr2 hT0 hT0.p2.lv (λ_=>z) u33 t62 z z z ?_)
 intro v5 W s
 refine .qn z (.g (.q z (.q z (.s (bs T.s62 z z) z (.c (.liv [(ab.mk 4 0 0 0 a1)] ah u33 t62 s z z z z ?_ z (λ_=>z)))))))
 intro v6 W s
 refine bv h λr3 hr3 h=>?_
 have hT0:=s.p1
 refine .c (.av hr3 hT0 hT0.p1.lv (λ_=>z) u33 t62 z z z ?_)
 intro v7 W s
 obtain rfl:=o9 h
 exact .qn z (.ret (aa v7 (rt z rn) z (s.tk [0])))
theorem p8 (k:Nat):eU (bA k)/\gN (bO k)/\jP (fK k)/\fd (co k):=by
  induction k with
  | zero=>exact ⟨by intro a0 a1 v_0 w r h q_0; exact no h,by intro a0 a1 al aE aF w r h ak aI aG; exact no h,by intro a0 a1 al aE aF w r h ak aI aG; exact no h,by intro a0 a1 al aE aF w r h ak aI aG; exact no h⟩
  | succ k ih=>exact ⟨vg (k:=k) ih.1 ih.2.1 ih.2.2.1 ih.2.2.2,vh (k:=k) ih.1 ih.2.1 ih.2.2.1 ih.2.2.2,xn (k:=k) ih.1 ih.2.1 ih.2.2.1 ih.2.2.2,tL (k:=k) ih.1 ih.2.1 ih.2.2.1 ih.2.2.2⟩
theorem tM {k:Nat}:eU (bA k):=(p8 k).1
theorem qa {k:Nat} {a0:List ae} {v_0:Hd} {w:World} {r:(List ab)×Bool} (h:cl k a0=some r) (q_0:RO w v_0 80 8 aL a0):CL 54 #[sv v_0] w (Ret No w (λs:Hd=>.tuple #[sv s,.bool r.2]) (λs=>[ac (sv s) 62 5 ah r.1])):=by
 unfold cl at h
 refine aw func54 z z ?_
 have s:=Sep.start w
 refine .g (.q z (.qn z (.seq (.g (.q z (bv h λy1 hy1 h=>.c (.cO s func85 (ni hy1 (s.keep q_0)) z z ?_)))))))
 intro W s
 refine .q z (.nil ?_)
 refine .cs z h ?_ ?_ <;> intro h
 ·refine .g (.c (.liv [] ah u33 t62 s z z z z ?_ z (λ_=>z)))
  intro v1 W s
  cases h
  exact .q z (.qn z (.ret (aa (vs:=[_,_]) v1 (rt z (rt z rn)) z (s.tk [0]))))
 refine .skip (.g (.q z (bv h λy2 hy2 h=>.c (.cV s func87 (tM hy2 (s.keep q_0)) z z ?_))))
 intro v2 W s
 refine .s (bs T.s62 z z) z (.c (.liv [(ab.mk 10 0 0 0 0)] ah u33 t62 s z z z z ?_ z (λ_=>z)))
 intro v3 W s
 refine bv h λr1 hr1 h=>?_
 have hT0:=s.p1
 refine .c (.av hr1 hT0 hT0.p1.lv (λ_=>z) u33 t62 z z z ?_)
 intro v4 W s
 cases h
 exact .q z (.qn z (.ret (aa (vs:=[_,_]) v4 (rt z (rt z rn)) z (s.tk [0]))))
theorem ob {k:Nat} {a0:aJ} {aC:Hd} {az:Hd} {w:World} {r:(List (List ab))×Bool} (h:cN k a0=some r) (bi:RO w aC 3 1 (D.int .i64) a0.Rooms) (ay:RO w az 36 1 (λ(l:List ae)=>D.row 80 8 (l.map aL)) a0.Tasks):CL 26 #[.agg #[sv aC,sv az]] w (Ret No w (λs:Hd=>.tuple #[sv s,.bool r.2]) (λs=>[ac (sv s) 33 1 (λ(l:List ab)=>D.row 62 5 (l.map ah)) r.1])):=by
 unfold cN at h
 refine aw func26 z z ?_
 have s:=Sep.start w
 refine .g (.c (.box s z z ?_))
 intro g1 W s
 refine .q z (.qn z (.g (.c (.lg (L1:=[]) [] (λ(l:List ab)=>D.row 62 5 (l.map ah)) u29 t33 (s.to [0]) z z z (.nil) ?_ z (λ_=>z)))))
 intro v1 W s
 refine .qn z (.seq (.g (.s (ld t26 s.p1 z z z z z) z (bv h λy1 hy1 h=>.c (.cO s func53 (pn hy1 (s.keep bi) (s.keep ay)) z z ?_)))))
 intro W s
 refine .q z (.nil ?_)
 refine .cs z h ?_ ?_ <;> intro h
 ·cases h
  exact .g (.q z (.q z (.qn z (.ret (aa (vs:=[_,_]) v1 (rt z (rt z rn)) z (s.tk [0]))))))
 refine .skip (.seq (.g (.qn z (.block (bv h λy2 hy2 h=>?_)))))
 refine .via (.iter (λs1 E' W'=>∃ (v4:Hd),ao E' [(1,Pt g1),(4,(sv v4)),(5,vi s1.2)]/\Sep No w W' [.box g1 26 [sv aC,sv az],ac (sv v4) 33 1 (λ(l:List ab)=>D.row 62 5 (l.map ah)) s1.1]) (λy3 x E' W'=>x=.exit 0/\∃ (v5:Hd),ao E' [(4,(sv v5))]/\Sep No w W' [.box g1 26 [sv aC,sv az],ac (sv v5) 33 1 (λ(l:List ab)=>D.row 62 5 (l.map ah)) y3]) hy2 ⟨v1,sb z,s.tk [1,0]⟩ ?_) ?_
 ·intro s1 y4 E W h hI
  obtain ⟨v3,hE,s⟩:=hI
  refine CW.sub hE ?_
  unfold dQ at h
  refine .seq (.g (.q z (.s (fa f26_1 z z z) z (.s (ld t24 s z z z z z) z (.s (aD (s.keep ay) u24 z z) z (.q z (.nil ?_)))))))
  refine .cs z h ?_ ?_ <;> intro h
  ·refine .skip (.seq (.block (.g (.s (fa f26_1 z z z) z (.s (ld t24 s z z z z z) z (.q z (bv h λx1 hx1 h=>?_)))))))
   obtain ⟨k1,hd,hck1⟩:=RV.el2 ay hx1
   obtain ⟨v6,k1,rfl,q5,hd1⟩:=bf ay hd
   obtain rfl:=gc ay hd1
   refine .s (ixv (s.keep ay) hx1 u24 t36 z z z) z (.s (lde (hck1 _ s.agree) t36 z z z z z) z (bv h λy5 hy5 h=>.c (.cV s func54 (qa hy5 (s.keep (q5 _ ay))) z z ?_)))
   intro v7 W s
   refine .q z (.q z (.q z (.q z (.qn z (.region (.q z (.q z (.c (.lg (L1:=[ac (sv v7) 62 5 ah y5.1]) [y5.1] (λ(l:List ab)=>D.row 62 5 (l.map ah)) u29 t33 (s.to [0,0,0]) z z z (.row (.nil)) ?_ z (λ_=>z))))))))))
   intro v8 W s
   refine bv h λr1 hr1 h=>.c (.appv hr1 (s.to [2,0,0]) u29 t33 z z z ?_)
   intro v9 W s
   refine .qn z (.region (.q z (.q z (.q z (.nil ?_)))))
   cases h
   exact ⟨z,v9,sb z,s.tk [1,0]⟩
  refine .exit ?_
  cases h
  exact ⟨by simp,z,v3,sb z,s.tk [0,0]⟩
 intro x E W hJ
 obtain ⟨rfl,v10,hE,s⟩:=hJ
 refine ⟨_,hE.sub,?_⟩
 cases h
 exact .g (.q z (.q z (.qn z (.ret (aa (vs:=[_,_]) v10 (rt z (rt z rn)) z (s.tk [1]))))))
theorem nj {a0:Int} {a1:Bool} {w:World} {r:Bool} (h:i3 a0 a1=some r):CL 151 #[vi a0,.bool a1] w (RU w (.bool r)):=by
 unfold i3 at h
 refine aw func151 z z ?_
 have s:=Sep.start w
 refine .g (.qn z (.seq (.g (.q z (.nil ?_)))))
 refine .cs z h ?_ ?_ <;> intro h
 ·refine .g (.q z (bv h λy1 hy1 h=>.c (.cO s func55 (bJ hy1) z z ?_)))
  intro W s
  obtain rfl:=o9 h
  exact .qn z (.ret (aa () (rt z rn) z (s.to [])))
 cases h
 exact .skip (.g (.q z (.q z (.qn z (.ret (aa () (rt z rn) z (s.to [])))))))
theorem ch {a0:ab} {a1:Bool} {a2:Bool} {a3:Bool} {w:World} {r:Bool} (h:bP a0 a1 a2 a3=some r):CL 124 #[.agg #[vi a0.Op,vi a0.Dst,vi a0.A,vi a0.B,vi a0.N],.bool a1,.bool a2,.bool a3] w (RU w (.bool r)):=by
 unfold bP at h
 refine aw func124 z z ?_
 have s:=Sep.start w
 refine .g (.c (.box s z z ?_))
 intro g1 W s
 refine .qn z (.g (.s (fa f62_1 z z z) z (.s (ld t3 s z z z z z) z (.q z (bv h λy1 hy1 h=>.c (.cO s func151 (nj hy1) z z ?_))))))
 intro W s
 refine .q z (bv h λb1 hb1 h=>.cu 5 18 (b1) s ?_ ?_)
 ·refine .both (y1) (λb=>?_) (λb=>?_)
  ·have hg1:=b
   have h:=aW b hb1
   refine .g hg1 (.s (fa f62_2 z z z) z (.g hg1 (.s (ld t3 s z z z z z) z (.g hg1 (.q z (bv h λy2 hy2 h=>.g hg1 (.c (.cO s func151 (nj hy2) z z ?_))))))))
   intro W s
   refine .s (pkt hg1 z z z) z ?_
   cases h
   exact .nil (ck 5 s)
  refine .xx b z (.xx b z (.xx b z (.xx b z ?_)))
  cases aX b hb1
  exact .s (pkf b z z z) z (.nil (ck 5 s))
 intro W s
 refine .q z (bv h λb2 hb2 h=>.cu 5 24 (b2) s ?_ ?_)
 ·refine .both (b1) (λb=>?_) (λb=>?_)
  ·have hg2:=b
   have h:=aW b hb2
   refine .g hg2 (.s (fa f62_3 z z z) z (.g hg2 (.s (ld t3 s z z z z z) z (.g hg2 (.q z (bv h λy3 hy3 h=>.g hg2 (.c (.cO s func151 (nj hy3) z z ?_))))))))
   intro W s
   refine .s (pkt hg2 z z z) z ?_
   cases h
   exact .nil (ck 5 s)
  refine .xx b z (.xx b z (.xx b z (.xx b z ?_)))
  cases aX b hb2
  exact .s (pkf b z z z) z (.nil (ck 5 s))
 intro W s
 obtain rfl:=o9 h
 exact .qn z (.ret (aa () (rt z rn) z (s.to [])))
theorem lG {a0:Int} {w:World} {r:Bool} (h:bL a0=some r):CL 125 #[vi a0] w (RU w (.bool r)):=by
 unfold bL at h
 refine aw func125 z z ?_
 have s:=Sep.start w
 refine .g (.qn z (.g (.q z (bv h λy1 hy1 h=>.c (.cO s func55 (bJ hy1) z z ?_)))))
 intro W s
 obtain rfl:=o9 h
 exact .qn z (.ret (aa () (rt z rn) z (s.to [])))
theorem lH {a0:ab} {a1:Int} {w:World} {r:Bool} (h:eK a0 a1=some r):CL 89 #[.agg #[vi a0.Op,vi a0.Dst,vi a0.A,vi a0.B,vi a0.N],vi a1] w (RU w (.bool r)):=by
 unfold eK at h
 refine aw func89 z z ?_
 have s:=Sep.start w
 refine .g (.c (.box s z z ?_))
 intro g1 W s
 refine .qn z (.seq (.g (.s (fa f62_0 z z z) z (.s (ld t3 s z z z z z) z (.nil (.block (.g (.q z (.q z (.nil ?_))))))))))
 refine .cs z h ?_ ?_ <;> intro h
 ·refine .g (.s (ld t62 s z z z z z) z (bv h λy1 hy1 h=>.c (.cO s func124 (ch hy1) z z ?_)))
  intro W s
  refine .q z (bv h λb1 hb1 h=>.cu 4 15 (b1) s ?_ ?_)
  ·refine .both (y1) (λb=>?_) (λb=>?_)
   ·have hg1:=b
    have h:=aW b hb1
    refine .g hg1 (.s (fa f62_4 z z z) z (.g hg1 (.s (ld t3 s z z z z z) z (bv h λy2 hy2 h=>.g hg1 (.c (.cO s func125 (lG hy2) z z ?_))))))
    intro W s
    refine .s (pkt hg1 z z z) z ?_
    cases h
    exact .nil (ck 4 s)
   refine .xx b z (.xx b z (.xx b z ?_))
   cases aX b hb1
   exact .s (pkf b z z z) z (.nil (ck 4 s))
  intro W s
  obtain rfl:=o9 h
  exact .qn z (.ret (aa () (rt z rn) z (s.to [])))
 refine .g (.q z (.q z (.nil ?_)))
 refine .cs z h ?_ ?_ <;> intro h
 ·refine .g (.s (ld t62 s z z z z z) z (bv h λy3 hy3 h=>.c (.cO s func124 (ch hy3) z z ?_)))
  intro W s
  refine .q z (.cu 4 24 (y3&&(a0.N==0)) s ?_ ?_)
  ·refine .both (y3) (λb=>?_) (λb=>?_)
   ·have hg2:=b
    exact .g hg2 (.s (fa f62_4 z z z) z (.g hg2 (.s (ld t3 s z z z z z) z (.g hg2 (.q z (.s (pkt hg2 z z z) z (.nil (ck 4 s z (bc hg2)))))))))
   exact .xx b z (.xx b z (.xx b z (.s (pkf b z z z) z (.nil (ck 4 s z (be b))))))
  intro W s
  cases h
  exact .qn z (.ret (aa () (rt z rn) z (s.to [])))
 refine .g (.q z (.q z (.nil ?_)))
 refine .cs z h ?_ ?_ <;> intro h
 ·refine .g (.s (ld t62 s z z z z z) z (bv h λy4 hy4 h=>.c (.cO s func124 (ch hy4) z z ?_)))
  intro W s
  refine .q z (bv h λb2 hb2 h=>.cu 4 33 (b2) s ?_ ?_)
  ·refine .both (y4) (λb=>?_) (λb=>?_)
   ·have hg3:=b
    have h:=aW b hb2
    refine .g hg3 (.s (fa f62_4 z z z) z (.g hg3 (.s (ld t3 s z z z z z) z (bv h λy5 hy5 h=>.g hg3 (.c (.cO s func126 (mD hy5) z z ?_))))))
    intro W s
    refine .s (pkt hg3 z z z) z ?_
    cases h
    exact .nil (ck 4 s)
   refine .xx b z (.xx b z (.xx b z ?_))
   cases aX b hb2
   exact .s (pkf b z z z) z (.nil (ck 4 s))
  intro W s
  obtain rfl:=o9 h
  exact .qn z (.ret (aa () (rt z rn) z (s.to [])))
 refine .g (.q z (.q z (.nil ?_)))
 refine .cs z h ?_ ?_ <;> intro h
 ·refine .g (.s (ld t62 s z z z z z) z (bv h λy6 hy6 h=>.c (.cO s func124 (ch hy6) z z ?_)))
  intro W s
  refine .q z (.cu 4 42 (y6&&(decide (a0.N>=0))) s ?_ ?_)
  ·refine .both (y6) (λb=>?_) (λb=>?_)
   ·have hg4:=b
    exact .g hg4 (.s (fa f62_4 z z z) z (.g hg4 (.s (ld t3 s z z z z z) z (.g hg4 (.q z (.s (pkt hg4 z z z) z (.nil (ck 4 s z (bc hg4)))))))))
   exact .xx b z (.xx b z (.xx b z (.s (pkf b z z z) z (.nil (ck 4 s z (be b))))))
  intro W s
  refine .q z (.cu 5 48 ((y6&&(decide (a0.N>=0)))&&(decide (a0.N<a1))) s ?_ ?_)
  ·refine .both (y6&&(decide (a0.N>=0))) (λb=>?_) (λb=>?_)
   ·have hg5:=b
    exact .g hg5 (.s (fa f62_4 z z z) z (.g hg5 (.s (ld t3 s z z z z z) z (.g hg5 (.q z (.g hg5 (.q z (.s (pkt hg5 z z z) z (.nil (ck 5 s z (bc hg5)))))))))))
   exact .xx b z (.xx b z (.xx b z (.xx b z (.s (pkf b z z z) z (.nil (ck 5 s z (be b)))))))
  intro W s
  cases h
  exact .qn z (.ret (aa () (rt z rn) z (s.to [])))
 refine .g (.q z (.q z (.nil ?_)))
 refine .cs z h ?_ ?_ <;> intro h
 ·refine .g (.s (ld t62 s z z z z z) z (bv h λy7 hy7 h=>.c (.cO s func124 (ch hy7) z z ?_)))
  intro W s
  refine .q z (.cu 4 57 (y7&&(decide (a0.N>=0))) s ?_ ?_)
  ·refine .both (y7) (λb=>?_) (λb=>?_)
   ·have hg6:=b
    exact .g hg6 (.s (fa f62_4 z z z) z (.g hg6 (.s (ld t3 s z z z z z) z (.g hg6 (.q z (.s (pkt hg6 z z z) z (.nil (ck 4 s z (bc hg6)))))))))
   exact .xx b z (.xx b z (.xx b z (.s (pkf b z z z) z (.nil (ck 4 s z (be b))))))
  intro W s
  refine .q z (.cu 5 63 ((y7&&(decide (a0.N>=0)))&&(decide (a0.N<a1))) s ?_ ?_)
  ·refine .both (y7&&(decide (a0.N>=0))) (λb=>?_) (λb=>?_)
   ·have hg7:=b
    exact .g hg7 (.s (fa f62_4 z z z) z (.g hg7 (.s (ld t3 s z z z z z) z (.g hg7 (.q z (.g hg7 (.q z (.s (pkt hg7 z z z) z (.nil (ck 5 s z (bc hg7)))))))))))
   exact .xx b z (.xx b z (.xx b z (.xx b z (.s (pkf b z z z) z (.nil (ck 5 s z (be b)))))))
  intro W s
  cases h
  exact .qn z (.ret (aa () (rt z rn) z (s.to [])))
 refine .g (.q z (.q z (.nil ?_)))
 refine .cs z h ?_ ?_ <;> intro h
 ·refine .g (.s (ld t62 s z z z z z) z (bv h λy8 hy8 h=>.c (.cO s func124 (ch hy8) z z ?_)))
  intro W s
  refine .q z (bv h λb3 hb3 h=>.cu 4 72 (b3) s ?_ ?_)
  ·refine .both (y8) (λb=>?_) (λb=>?_)
   ·have hg8:=b
    have h:=aW b hb3
    refine .g hg8 (.s (fa f62_4 z z z) z (.g hg8 (.s (ld t3 s z z z z z) z (bv h λy9 hy9 h=>.g hg8 (.c (.cO s func55 (bJ hy9) z z ?_))))))
    intro W s
    refine .s (pkt hg8 z z z) z ?_
    cases h
    exact .nil (ck 4 s)
   refine .xx b z (.xx b z (.xx b z ?_))
   cases aX b hb3
   exact .s (pkf b z z z) z (.nil (ck 4 s))
  intro W s
  obtain rfl:=o9 h
  exact .qn z (.ret (aa () (rt z rn) z (s.to [])))
 refine .g (.q z (.q z (.nil ?_)))
 refine .cs z h ?_ ?_ <;> intro h
 ·refine .g (.s (ld t62 s z z z z z) z (bv h λy10 hy10 h=>.c (.cO s func124 (ch hy10) z z ?_)))
  intro W s
  refine .q z (bv h λb4 hb4 h=>.cu 4 81 (b4) s ?_ ?_)
  ·refine .both (y10) (λb=>?_) (λb=>?_)
   ·have hg9:=b
    have h:=aW b hb4
    refine .g hg9 (.s (fa f62_4 z z z) z (.g hg9 (.s (ld t3 s z z z z z) z (bv h λy11 hy11 h=>.g hg9 (.c (.cO s func55 (bJ hy11) z z ?_))))))
    intro W s
    refine .s (pkt hg9 z z z) z ?_
    cases h
    exact .nil (ck 4 s)
   refine .xx b z (.xx b z (.xx b z ?_))
   cases aX b hb4
   exact .s (pkf b z z z) z (.nil (ck 4 s))
  intro W s
  obtain rfl:=o9 h
  exact .qn z (.ret (aa () (rt z rn) z (s.to [])))
 refine .g (.q z (.q z (.nil ?_)))
 refine .cs z h ?_ ?_ <;> intro h
 ·refine .g (.s (ld t62 s z z z z z) z (bv h λy12 hy12 h=>.c (.cO s func124 (ch hy12) z z ?_)))
  intro W s
  refine .q z (.cu 4 90 (y12&&(a0.N==0)) s ?_ ?_)
  ·refine .both (y12) (λb=>?_) (λb=>?_)
   ·have hg10:=b
    exact .g hg10 (.s (fa f62_4 z z z) z (.g hg10 (.s (ld t3 s z z z z z) z (.g hg10 (.q z (.s (pkt hg10 z z z) z (.nil (ck 4 s z (bc hg10)))))))))
   exact .xx b z (.xx b z (.xx b z (.s (pkf b z z z) z (.nil (ck 4 s z (be b))))))
  intro W s
  cases h
  exact .qn z (.ret (aa () (rt z rn) z (s.to [])))
 refine bv h λy13 hy13 h=>?_
 refine .seq (CW.via (R':=λx E' W'=>x=.normal/\ao E' [(2,Pt g1),(91,.bool y13)]/\Sep No w W' [.box g1 62 [vi a0.Op,vi a0.Dst,vi a0.A,vi a0.B,vi a0.N]]) ?_ ?_)
 ·have h:=hy13
  refine .g (.q z (.q z (.nil ?_)))
  refine .cs z h ?_ ?_ <;> intro h
  ·refine .skip ?_
   cases h
   exact ⟨z,sb z,s.tk [0]⟩
  refine .region (.q z (.q z (.nil ?_)))
  cases h
  exact ⟨z,sb z,s.tk [0]⟩
 intro x E W hJ
 obtain ⟨rfl,hE,s⟩:=hJ
 refine ⟨_,hE.sub,?_⟩
 refine .cs z h ?_ ?_ <;> intro h
 ·refine .g (.s (ld t62 s z z z z z) z (bv h λy14 hy14 h=>.c (.cO s func124 (ch hy14) z z ?_)))
  intro W s
  refine .q z (.cu 4 100 (y14&&(a0.N==0)) s ?_ ?_)
  ·refine .both (y14) (λb=>?_) (λb=>?_)
   ·have hg11:=b
    exact .g hg11 (.s (fa f62_4 z z z) z (.g hg11 (.s (ld t3 s z z z z z) z (.g hg11 (.q z (.s (pkt hg11 z z z) z (.nil (ck 4 s z (bc hg11)))))))))
   exact .xx b z (.xx b z (.xx b z (.s (pkf b z z z) z (.nil (ck 4 s z (be b))))))
  intro W s
  cases h
  exact .qn z (.ret (aa () (rt z rn) z (s.to [])))
 obtain rfl:=o9 h
 exact .skip (.g (.qn z (.ret (aa () (rt z rn) z (s.to [])))))
def sO (w:World) (r:Bool):Env->World->Prop:=Fin Tryz.prog Tryz.f57 No w (λs:Unit=>.bool r) (λs=>[]) .ret
theorem bg {a0:List ab} {v_0:Hd} {w:World} {r:Bool} (h:aO a0=some r) (q_0:RO w v_0 62 5 ah a0):CL 57 #[sv v_0] w (RU w (.bool r)):=by
 unfold aO at h
 refine aw func57 z z ?_
 have s:=Sep.start w
 refine .g (.qn z (.g (.q z (.s (aD (s.keep q_0) u33 z z) z (.qn z (.seq (.g (.q z (bv h λy1 hy1 h=>.c (.cO s func55 (bJ hy1) z z ?_))))))))))
 intro W s
 refine .q z (.nil ?_)
 refine .cs z h ?_ ?_ <;> intro h
 ·obtain rfl:=o9 h
  exact .g (.qn z (.ret (aa () (rt z rn) z (s.to []))))
 refine .skip (.seq (.g (.qn z (.block (bv h λy2 hy2 h=>?_)))))
 refine .via (.iter (λs1 E' W'=>ao E' [(0,(sv v_0)),(3,vi (a0.length:Int)),(4,vi s1)]/\Sep No w W' []) (λy3 x E' W'=>(match y3 with | .inl o1=>x=.ret/\sO w o1 E' W' | .inr o2=>x=.exit 0/\ao E' [(0,(sv v_0)),(3,vi (a0.length:Int))]/\Sep No w W' [])) hy2 ⟨sb rfl,s.to [] rfl⟩ ?_) ?_
 ·intro s1 y4 E W h hI
  obtain ⟨hE,s⟩:=hI
  refine CW.sub hE ?_
  unfold la at h
  refine .seq (.g (.q z (.q z (.q z (.nil ?_)))))
  refine .cs z h ?_ ?_ <;> intro h
  ·refine .skip (.seq (.block (.g (.q z (.q z (bv h λx1 hx1 h=>.s (ixv (s.keep q_0) hx1 u33 t62 z z z) z (.s (lde (RV.flat (s.keep q_0) hx1 z) t62 z z z z z) z (.q z (bv h λy5 hy5 h=>.c (.cO s func89 (lH hy5) z z ?_))))))))))
   intro W s
   refine .q z (.nil ?_)
   refine .cs z h ?_ ?_ <;> intro h
   ·refine .g (.qn z (.ret ?_))
    cases h
    exact ⟨by simp,z,aa (vs:=[_]) () (rt z rn) z (s.to [])⟩
   refine .skip (.region (.q z (.q z (.q z (.nil ?_)))))
   cases h
   exact ⟨z,sb z,s.to []⟩
  refine .exit ?_
  cases h
  exact ⟨by simp,z,sb z,s.to []⟩
 intro x E W hJ
 rcases y2 with o3 | o4
 ·have h:=bQ h
  obtain ⟨rfl,hF⟩:=hJ
  refine ⟨_,λ_ _ h=>h,?_⟩
  cases h
  exact hF
 have h:=bR h
 obtain ⟨rfl,hE,s⟩:=hJ
 refine ⟨_,hE.sub,?_⟩
 refine .g (.q z (.q z (.q z (bv h λx2 hx2 h=>.s (ixv (s.keep q_0) hx2 u33 t62 z z z) z (.s (fe f62_0 z z z) z (.s (lde (RV.flat (s.keep q_0) hx2 z) t3 z z z z z) z (.q z (.q z (bv h λb1 hb1 h=>.cu 8 37 (b1) s ?_ ?_)))))))))
 ·refine .both (x2.Op==10) (λb=>?_) (λb=>?_)
  ·refine .xx b z (.xx b z (.xx b z (.xx b z (.xx b z (.xx b z (.xx b z ?_))))))
   cases aW b hb1
   exact .s (pkt b z z z) z (.nil (ck 8 s))
  have hg1:=b
  have h:=aX b hb1
  refine .g hg1 (.q z (.g hg1 (.q z (.g hg1 (.q z (bv h λx3 hx3 h=>.g hg1 (.s (ixv (s.keep q_0) hx3 u33 t62 z z z) z (.g hg1 (.s (fe f62_0 z z z) z (.g hg1 (.s (lde (RV.flat (s.keep q_0) hx3 z) t3 z z z z z) z (.g hg1 (.q z (.s (pkf hg1 z z z) z ?_))))))))))))))
  cases h
  exact .nil (ck 8 s)
 intro W s
 obtain rfl:=o9 h
 exact .qn z (.ret (aa () (rt z rn) z (s.to [])))
theorem kJ {a0:List ab} {a1:Int} {v_0:Hd} {w:World} {r:(List Int)} (h:dh a0 a1=some r) (q_0:RO w v_0 62 5 ah a0):CL 153 #[sv v_0,vi a1] w (Ret No w (λs:Hd=>(sv s)) (λs=>[ac (sv s) 3 1 (D.int .i64) r])):=by
 unfold dh at h
 refine aw func153 z z ?_
 have s:=Sep.start w
 refine .g (.qn z (.g (.q z (.q z (bv h λx1 hx1 h=>.s (ixv (s.keep q_0) hx1 u33 t62 z z z) z (.s (lde (RV.flat (s.keep q_0) hx1 z) t62 z z z z z) z (.c (.alloc t62 s ?_))))))))
 intro g1 W s
 refine .c (.st t62 s z z z ?_)
 intro W s
 refine .nil (.seq (.block (.g (.s (fa f62_0 z z z) z (.s (ld t3 s z z z z z) z (.q z (.q z (.nil ?_))))))))
 refine .cs z h ?_ ?_ <;> intro h
 ·refine .g (.c (.liv [] (D.int .i64) u23 t3 s z z z z ?_ z (λ_=>z)))
  intro v1 W s
  cases h
  exact .qn z (.ret (aa v1 (rt z rn) z (s.tk [0])))
 refine .g (.s (fa f62_0 z z z) z (.s (ld t3 s z z z z z) z (.q z (.q z (.nil ?_)))))
 refine .cs z h ?_ ?_ <;> intro h
 ·refine .g (.s (fa f62_4 z z z) z (.s (ld t3 s z z z z z) z (.c (.liv [x1.N] (D.int .i64) u23 t3 s z z z z ?_ z (λ_=>z)))))
  intro v2 W s
  cases h
  exact .qn z (.ret (aa v2 (rt z rn) z (s.tk [0])))
 refine .g (.s (fa f62_0 z z z) z (.s (ld t3 s z z z z z) z (.q z (.q z (.cu 6 32 ((x1.Op==5)&&(decide (x1.N<(w64 (a1+1))))) s ?_ ?_)))))
 ·refine .both (x1.Op==5) (λb=>?_) (λb=>?_)
  ·have hg1:=b
   exact .g hg1 (.s (fa f62_4 z z z) z (.g hg1 (.s (ld t3 s z z z z z) z (.g hg1 (.q z (.g hg1 (.q z (.g hg1 (.q z (.s (pkt hg1 z z z) z (.nil (ck 6 s z (bc hg1)))))))))))))
  exact .xx b z (.xx b z (.xx b z (.xx b z (.xx b z (.s (pkf b z z z) z (.nil (ck 6 s z (be b))))))))
 intro W s
 refine .q z (.nil ?_)
 refine .cs z h ?_ ?_ <;> intro h
 ·refine .g (.s (fa f62_4 z z z) z (.s (ld t3 s z z z z z) z (.q z (.q z (.c (.liv [x1.N,w64 (a1+1)] (D.int .i64) u23 t3 s z z z z ?_ z (λ_=>z)))))))
  intro v3 W s
  cases h
  exact .qn z (.ret (aa v3 (rt z rn) z (s.tk [0])))
 refine .g (.s (fa f62_0 z z z) z (.s (ld t3 s z z z z z) z (.q z (.q z (.cu 6 48 ((x1.Op==5)&&(decide (x1.N>(w64 (a1+1))))) s ?_ ?_)))))
 ·refine .both (x1.Op==5) (λb=>?_) (λb=>?_)
  ·have hg2:=b
   exact .g hg2 (.s (fa f62_4 z z z) z (.g hg2 (.s (ld t3 s z z z z z) z (.g hg2 (.q z (.g hg2 (.q z (.g hg2 (.q z (.s (pkt hg2 z z z) z (.nil (ck 6 s z (bc hg2)))))))))))))
  exact .xx b z (.xx b z (.xx b z (.xx b z (.xx b z (.s (pkf b z z z) z (.nil (ck 6 s z (be b))))))))
 intro W s
 refine .q z (.nil ?_)
 refine .cs z h ?_ ?_ <;> intro h
 ·refine .g (.q z (.q z (.s (fa f62_4 z z z) z (.s (ld t3 s z z z z z) z (.c (.liv [w64 (a1+1),x1.N] (D.int .i64) u23 t3 s z z z z ?_ z (λ_=>z)))))))
  intro v4 W s
  cases h
  exact .qn z (.ret (aa v4 (rt z rn) z (s.tk [0])))
 refine .skip (.g (.q z (.q z (.c (.liv [w64 (a1+1)] (D.int .i64) u23 t3 s z z z z ?_ z (λ_=>z))))))
 intro v5 W s
 cases h
 exact .qn z (.ret (aa v5 (rt z rn) z (s.tk [0])))
theorem sP {a0:List ab} {a1:List ai} {a2:Int} {v_0:Hd} {v_1:Hd} {w:World} {r:(List Int)} (h:fL a0 a1 a2=some r) (q_0:RO w v_0 62 5 ah a0) (q_1:RO w v_1 90 2 aV a1):CL 184 #[sv v_0,sv v_1,vi a2] w (Ret No w (λs:Hd=>(sv s)) (λs=>[ac (sv s) 3 1 (D.int .i64) r])):=by
 unfold fL at h
 refine aw func184 z z ?_
 have s:=Sep.start w
 refine .g (.qn z (.g (.q z (.q z (bv h λx1 hx1 h=>.s (ixv (s.keep q_0) hx1 u33 t62 z z z) z (.s (lde (RV.flat (s.keep q_0) hx1 z) t62 z z z z z) z (.c (.alloc t62 s ?_))))))))
 intro g1 W s
 refine .c (.st t62 s z z z ?_)
 intro W s
 refine .nil (.seq (.g (.s (fa f62_0 z z z) z (.s (ld t3 s z z z z z) z (.q z (.q z (bv h λb1 hb1 h=>.cu 8 23 (b1) s ?_ ?_)))))))
 ·refine .both (x1.Op !=5) (λb=>?_) (λb=>?_)
  ·refine .xx b z (.xx b z (.xx b z (.xx b z (.xx b z (.xx b z (.xx b z ?_))))))
   cases aW b hb1
   exact .s (pkt b z z z) z (.nil (ck 8 s))
  have hg1:=b
  have h:=aX b hb1
  refine .g hg1 (.q z (.g hg1 (.s (fa f62_2 z z z) z (.g hg1 (.s (ld t3 s z z z z z) z (bv h λx2 hx2 h=>.g hg1 (.s (ixv (s.keep q_1) hx2 u166 t90 z z z) z (.g hg1 (.s (fe f90_0 z z z) z (.g hg1 (.s (lde (RV.flat (s.keep q_1) hx2 z) t3 z z z z z) z (.g hg1 (.q z (.s (pkf hg1 z z z) z ?_))))))))))))))
  cases h
  exact .nil (ck 8 s)
 intro W s
 refine .nil ?_
 refine .cs z h ?_ ?_ <;> intro h
 ·refine .g (.q z (.q z (bv h λy1 hy1 h=>.c (.cV s func153 (kJ hy1 (s.keep q_0)) z z ?_))))
  intro v1 W s
  obtain rfl:=o9 h
  exact .qn z (.ret (aa v1 (rt z rn) z (s.tk [0])))
 refine .skip (.seq (.g (.q z (.s (fa f62_2 z z z) z (.s (ld t3 s z z z z z) z (bv h λx3 hx3 h=>.s (ixv (s.keep q_1) hx3 u166 t90 z z z) z (.s (fe f90_1 z z z) z (.s (lde (RV.flat (s.keep q_1) hx3 z) t3 z z z z z) z (.q z (.nil ?_))))))))))
 refine .cs z h ?_ ?_ <;> intro h
 ·refine .g (.s (fa f62_4 z z z) z (.s (ld t3 s z z z z z) z (.c (.liv [x1.N] (D.int .i64) u23 t3 s z z z z ?_ z (λ_=>z)))))
  intro v2 W s
  cases h
  exact .qn z (.ret (aa v2 (rt z rn) z (s.tk [0])))
 refine .skip (.g (.q z (.q z (.c (.liv [w64 (a2+1)] (D.int .i64) u23 t3 s z z z z ?_ z (λ_=>z))))))
 intro v3 W s
 cases h
 exact .qn z (.ret (aa v3 (rt z rn) z (s.tk [0])))
theorem po {a0:Bool} {w:World} {r:Int} (h:kR a0=some r):CL 195 #[.bool a0] w (RU w (.int .i64 r)):=by
 unfold kR at h
 refine aw func195 z z ?_
 have s:=Sep.start w
 refine .g (.qn z (.seq (.g (.q z (.nil ?_)))))
 refine .cs z h ?_ ?_ <;> intro h
 ·cases h
  exact .g (.qn z (.ret (aa () (rt z rn) z (s.to []))))
 cases h
 exact .skip (.g (.qn z (.ret (aa () (rt z rn) z (s.to [])))))
theorem lI {a0:Int} {w:World} {r:Int} (h:eX a0=some r):CL 197 #[vi a0] w (RU w (.int .i64 r)):=by
 unfold eX at h
 refine aw func197 z z ?_
 have s:=Sep.start w
 refine .g (.qn z (.g (.q z (.q z (.qn z (.seq (.g (.q z (.q z (.nil ?_))))))))))
 refine .cs z h ?_ ?_ <;> intro h
 ·cases h
  exact .g (.q z (.q z (.qn z (.ret (aa () (rt z rn) z (s.to []))))))
 refine .skip (.seq (.g (.q z (.q z (.nil ?_)))))
 refine .cs z h ?_ ?_ <;> intro h
 ·cases h
  exact .g (.q z (.q z (.qn z (.ret (aa () (rt z rn) z (s.to []))))))
 cases h
 exact .skip (.g (.q z (.qn z (.ret (aa () (rt z rn) z (s.to []))))))
theorem oq {a0:Int} {a1:Int} {a2:Bool} {w:World} {r:Int} (h:gY a0 a1 a2=some r):CL 196 #[vi a0,vi a1,.bool a2] w (RU w (.int .i64 r)):=by
 unfold gY at h
 refine aw func196 z z ?_
 have s:=Sep.start w
 refine .g (.qn z (.seq (.g (.q z (.nil ?_)))))
 refine .cs z h ?_ ?_ <;> intro h
 ·refine .g (.q z (.q z (.q z (bv h λd1 hd1 h=>.s (jt hd1 z z z) z (.qn z (.ret ?_))))))
  obtain rfl:=o9 h
  exact aa () (rt z rn) z (s.to [])
 refine .skip (.g (.q z (.q z (.q z (bv h λd2 hd2 h=>.s (jt hd2 z z z) z (bv h λy1 hy1 h=>.c (.cO s func197 (lI hy1) z z ?_)))))))
 intro W s
 obtain rfl:=o9 h
 exact .qn z (.ret (aa () (rt z rn) z (s.to [])))
theorem sQ {a0:Int} {a1:Int} {w:World} {r:Int} (h:j6 a0 a1=some r):CL 198 #[vi a0,vi a1] w (RU w (.int .i64 r)):=by
 unfold j6 at h
 refine aw func198 z z ?_
 have s:=Sep.start w
 refine .g (.qn z (.seq (.g (.q z (.q z (.nil ?_))))))
 refine .cs z h ?_ ?_ <;> intro h
 ·cases h
  exact .g (.qn z (.ret (aa () (rt z rn) z (s.to []))))
 refine .skip (.g (.q z (.q z (bv h λd1 hd1 h=>.s (dq hd1 z z z) z (bv h λy1 hy1 h=>.c (.cO s func197 (lI hy1) z z ?_))))))
 intro W s
 obtain rfl:=o9 h
 exact .qn z (.ret (aa () (rt z rn) z (s.to [])))
theorem sR {a0:Int} {a1:Int} {w:World} {r:Int} (h:j7 a0 a1=some r):CL 199 #[vi a0,vi a1] w (RU w (.int .i64 r)):=by
 unfold j7 at h
 refine aw func199 z z ?_
 have s:=Sep.start w
 refine .g (.qn z (.seq (.g (.q z (.q z (.nil ?_))))))
 refine .cs z h ?_ ?_ <;> intro h
 ·obtain rfl:=o9 h
  exact .g (.q z (.qn z (.ret (aa () (rt z rn) z (s.to [])))))
 refine .skip (.g (.q z (.q z (bv h λd1 hd1 h=>.s (dr hd1 z z z) z (.qn z (.ret ?_))))))
 obtain rfl:=o9 h
 exact aa () (rt z rn) z (s.to [])
theorem vQ {a0:Int} {a1:Int} {a2:Int} {w:World} {r:Int×Bool} (h:i4 a0 a1 a2=some r):CL 193 #[vi a0,vi a1,vi a2] w (RU w (.tuple #[vi r.1,.bool r.2])):=by
 unfold i4 at h
 refine aw func193 z z ?_
 have s:=Sep.start w
 refine .g (.q z (.qn z (.seq (.g (.q z (bv h λy1 hy1 h=>.c (.cO s func126 (mD hy1) z z ?_)))))))
 intro W s
 refine .q z (.q z (bv h λb1 hb1 h=>.cu 4 15 (b1) s ?_ ?_))
 ·refine .both (!y1) (λb=>?_) (λb=>?_)
  ·refine .xx b z (.xx b z (.xx b z ?_))
   cases aW b hb1
   exact .s (pkt b z z z) z (.nil (ck 4 s))
  have hg1:=b
  have h:=aX b hb1
  refine .g hg1 (.q z (bv h λy2 hy2 h=>.g hg1 (.c (.cO s func125 (lG hy2) z z ?_))))
  intro W s
  refine .g hg1 (.q z (.s (pkf hg1 z z z) z ?_))
  cases h
  exact .nil (ck 4 s)
 intro W s
 refine .q z (bv h λb2 hb2 h=>.cu 4 20 (b2) s ?_ ?_)
 ·refine .both (b1) (λb=>?_) (λb=>?_)
  ·refine .xx b z (.xx b z (.xx b z ?_))
   cases aW b hb2
   exact .s (pkt b z z z) z (.nil (ck 4 s))
  have hg2:=b
  have h:=aX b hb2
  refine .g hg2 (.q z (bv h λy3 hy3 h=>.g hg2 (.c (.cO s func125 (lG hy3) z z ?_))))
  intro W s
  refine .g hg2 (.q z (.s (pkf hg2 z z z) z ?_))
  cases h
  exact .nil (ck 4 s)
 intro W s
 refine .nil ?_
 refine .cs z h ?_ ?_ <;> intro h
 ·cases h
  exact .g (.q z (.qn z (.ret (aa (vs:=[_,_]) () (rt z (rt z rn)) z (s.to [])))))
 refine .skip (.seq (.g (.qn z (.block (.g (.q z (.q z (.nil ?_))))))))
 refine .cs z h ?_ ?_ <;> intro h
 ·cases h
  exact .g (.q z (.q z (.q z (.q z (.qn z (.ret (aa (vs:=[_,_]) () (rt z (rt z rn)) z (s.to []))))))))
 refine .g (.q z (.q z (.nil ?_)))
 refine .cs z h ?_ ?_ <;> intro h
 ·cases h
  exact .g (.q z (.q z (.q z (.q z (.qn z (.ret (aa (vs:=[_,_]) () (rt z (rt z rn)) z (s.to []))))))))
 refine .g (.q z (.q z (.nil ?_)))
 refine .cs z h ?_ ?_ <;> intro h
 ·cases h
  exact .g (.q z (.q z (.q z (.q z (.qn z (.ret (aa (vs:=[_,_]) () (rt z (rt z rn)) z (s.to []))))))))
 refine .g (.q z (.q z (.nil ?_)))
 refine .cs z h ?_ ?_ <;> intro h
 ·refine .g (.q z (.q z (.q z (bv h λy4 hy4 h=>.c (.cO s func195 (po hy4) z z ?_)))))
  intro W s
  cases h
  exact .q z (.qn z (.ret (aa (vs:=[_,_]) () (rt z (rt z rn)) z (s.to []))))
 refine .g (.q z (.q z (.nil ?_)))
 refine .cs z h ?_ ?_ <;> intro h
 ·refine .g (.q z (.q z (.q z (bv h λy5 hy5 h=>.c (.cO s func195 (po hy5) z z ?_)))))
  intro W s
  cases h
  exact .q z (.qn z (.ret (aa (vs:=[_,_]) () (rt z (rt z rn)) z (s.to []))))
 refine .g (.q z (.q z (.nil ?_)))
 refine .cs z h ?_ ?_ <;> intro h
 ·refine .g (.q z (.q z (bv h λy6 hy6 h=>.c (.cO s func196 (oq hy6) z z ?_))))
  intro W s
  cases h
  exact .q z (.qn z (.ret (aa (vs:=[_,_]) () (rt z (rt z rn)) z (s.to []))))
 refine .g (.q z (.q z (.nil ?_)))
 refine .cs z h ?_ ?_ <;> intro h
 ·refine .g (.q z (.q z (bv h λy7 hy7 h=>.c (.cO s func196 (oq hy7) z z ?_))))
  intro W s
  cases h
  exact .q z (.qn z (.ret (aa (vs:=[_,_]) () (rt z (rt z rn)) z (s.to []))))
 refine .g (.q z (.q z (.nil ?_)))
 refine .cs z h ?_ ?_ <;> intro h
 ·refine .g (.q z (.q z (.q z (bv h λy8 hy8 h=>.c (.cO s func197 (lI hy8) z z ?_)))))
  intro W s
  cases h
  exact .q z (.qn z (.ret (aa (vs:=[_,_]) () (rt z (rt z rn)) z (s.to []))))
 refine .g (.q z (.q z (.nil ?_)))
 refine .cs z h ?_ ?_ <;> intro h
 ·refine .g (.q z (.q z (.q z (bv h λy9 hy9 h=>.c (.cO s func197 (lI hy9) z z ?_)))))
  intro W s
  cases h
  exact .q z (.qn z (.ret (aa (vs:=[_,_]) () (rt z (rt z rn)) z (s.to []))))
 refine .g (.q z (.q z (.nil ?_)))
 refine .cs z h ?_ ?_ <;> intro h
 ·refine .g (.q z (.q z (.q z (bv h λy10 hy10 h=>.c (.cO s func197 (lI hy10) z z ?_)))))
  intro W s
  cases h
  exact .q z (.qn z (.ret (aa (vs:=[_,_]) () (rt z (rt z rn)) z (s.to []))))
 refine .g (.q z (.q z (.nil ?_)))
 refine .cs z h ?_ ?_ <;> intro h
 ·refine .g (.q z (.q z (bv h λy11 hy11 h=>.c (.cO s func198 (sQ hy11) z z ?_))))
  intro W s
  cases h
  exact .q z (.qn z (.ret (aa (vs:=[_,_]) () (rt z (rt z rn)) z (s.to []))))
 refine .skip (.g (.q z (.q z (bv h λy12 hy12 h=>.c (.cO s func199 (sR hy12) z z ?_)))))
 intro W s
 cases h
 exact .q z (.qn z (.ret (aa (vs:=[_,_]) () (rt z (rt z rn)) z (s.to []))))
theorem nA {a0:ab} {a1:ai} {a2:ai} {w:World} {r:ai} (h:bX a0 a1 a2=some r):CL 187 #[.agg #[vi a0.Op,vi a0.Dst,vi a0.A,vi a0.B,vi a0.N],.agg #[vi a1.Kind,vi a1.N],.agg #[vi a2.Kind,vi a2.N]] w (RU w (.agg #[vi r.Kind,vi r.N])):=by
 unfold bX at h
 refine aw func187 z z ?_
 have s:=Sep.start w
 refine .g (.c (.box s z z ?_))
 intro g1 W s
 refine .c (.box s z z ?_)
 intro g2 W s
 refine .c (.box s z z ?_)
 intro g3 W s
 refine .c (.alloc t90 s ?_)
 intro g4 W s
 refine .nil (.seq (.g (.s (fa f90_0 z z z) z (.s (ld t3 s.p2 z z z z z) z (.q z (.q z (.cu 4 16 ((a1.Kind !=1)||(a2.Kind !=1)) s ?_ ?_)))))))
 ·refine .both (a1.Kind !=1) (λb=>?_) (λb=>?_)
  ·exact .xx b z (.xx b z (.xx b z (.s (pkt b z z z) z (.nil (ck 4 s z (kK b))))))
  have hg1:=b
  exact .g hg1 (.s (fa f90_0 z z z) z (.g hg1 (.s (ld t3 s.p1 z z z z z) z (.g hg1 (.q z (.s (pkf hg1 z z z) z (.nil (ck 4 s z (jT hg1)))))))))
 intro W s
 refine .nil ?_
 refine .cs z h ?_ ?_ <;> intro h
 ·refine .g (.s (bs T.s90 z z) z (.c (.st t90 s z z z ?_)))
  intro W s
  cases h
  exact .nil (.ret (aa () (rc s t90 z rn z z) z (s.to [])))
 refine .skip (.g (.s (fa f62_4 z z z) z (.s (ld t3 s.p3 z z z z z) z (.s (fa f90_1 z z z) z (.s (ld t3 s.p2 z z z z z) z (.s (fa f90_1 z z z) z (.s (ld t3 s.p1 z z z z z) z (bv h λy1 hy1 h=>.c (.cO s func193 (vQ hy1) z z ?_)))))))))
 intro W s
 refine .q z (.q z (.q z (.q z (.qn z (.g (.q z (.s (bs T.s90 z z) z (.c (.st t90 s z z z ?_)))))))))
 intro W s
 cases h
 exact .nil (.ret (aa () (rc s t90 z rn z z) z (s.to [])))
theorem sS {a0:ab} {a1:List ai} {v_1:Hd} {w:World} {r:(List ai)} (h:fM a0 a1=some r) (q_1:RO w v_1 90 2 aV a1):CL 185 #[.agg #[vi a0.Op,vi a0.Dst,vi a0.A,vi a0.B,vi a0.N],sv v_1] w (Ret No w (λs:Hd=>(sv s)) (λs=>[ac (sv s) 90 2 aV r])):=by
 unfold fM at h
 refine aw func185 z z ?_
 have s:=Sep.start w
 refine .g (.c (.box s z z ?_))
 intro g1 W s
 refine .qn z (.g (.c (.liv [] aV u166 t90 s z z z z ?_ z (λ_=>z))))
 intro v1 W s
 refine .q z (bv h λr1 hr1 h=>.c (.av hr1 s (s.keep q_1) (λ_=>z) u166 t90 z z z ?_))
 intro v2 W s
 refine .qn z (.seq (.g (.s (fa f62_0 z z z) z (.s (ld t3 s.p1 z z z z z) z (.nil (.block (.g (.q z (.q z (.nil ?_))))))))))
 refine .cs z h ?_ ?_ <;> intro h
 ·refine .region (.q z (.s (fa f62_1 z z z) z (.s (ld t3 s.p1 z z z z z) z (.s (fa f62_4 z z z) z (.s (ld t3 s.p1 z z z z z) z (.s (bs T.s90 z z) z (bv h λx1 hx1 h=>.s (ixv s.lv hx1 u166 t90 z z z) z (bv h λr2 hr2 h=>.c (.sev hr2 hx1 s t90 z z z z z z ?_)))))))))
  intro W s
  obtain rfl:=o9 h
  exact .nil (.g (.q z (.qn z (.ret (aa v2 (rt z rn) z (s.tk [0]))))))
 refine .g (.q z (.q z (.nil ?_)))
 refine .cs z h ?_ ?_ <;> intro h
 ·refine .rk 9 s [0,0] T.mix ?_
  intro W s
  have t:=s.to [0,0]
  refine .tp' 0 z z t (.ts' 1 z (λW t=>fa f62_1 z z z) t z (.ts' 2 z (λW t=>ld t3 t.p1 z z z z z) t z (.tp' 3 z z t (.ts' 4 z (λW t=>fa f62_2 z z z) t z (.ts' 5 z (λW t=>ld t3 t.p1 z z z z z) t z (bv h λx2 hx2 h=>.ts' 6 z (λW t=>ixv (s.keep q_1) hx2 u166 t90 z z z) t z (.ts' 7 z (λW t=>lde (RV.flat (t.keep q_1) hx2 z) t90 z z z z z) t z (bv h λx3 hx3 h=>.ts' 8 z (λW t=>ixv s.lv hx3 u166 t90 z z z) t z (bv h λr3 hr3 h=>.by1 9 z (.sev hr3 hx3 s t90 z z z z z z ?_))))))))))
  intro W s
  refine ⟨λh=>absurd z h,?_⟩
  obtain rfl:=o9 h
  exact .done (.g (.q z (.qn z (.ret (aa v2 (rt z rn) z (s.tk [0]))))))
 refine .g (.q z (.q z (.nil ?_)))
 refine .cs z h ?_ ?_ <;> intro h
 ·refine .region (.q z (.s (fa f62_1 z z z) z (.s (ld t3 s.p1 z z z z z) z (.s (bs T.s90 z z) z (bv h λx4 hx4 h=>.s (ixv s.lv hx4 u166 t90 z z z) z (bv h λr4 hr4 h=>.c (.sev hr4 hx4 s t90 z z z z z z ?_)))))))
  intro W s
  obtain rfl:=o9 h
  exact .nil (.g (.q z (.qn z (.ret (aa v2 (rt z rn) z (s.tk [0]))))))
 refine .g (.q z (.q z (.nil ?_)))
 refine .cs z h ?_ ?_ <;> intro h
 ·refine .rk 16 s [0,0] T.mix ?_
  intro W s
  have t:=s.to [0,0]
  refine .tp' 0 z z t (.ts' 1 z (λW t=>fa f62_1 z z z) t z (.ts' 2 z (λW t=>ld t3 t.p1 z z z z z) t z (.ts' 3 z (λW t=>ld t62 t.p1 z z z z z) t z (.tp' 4 z z t (.ts' 5 z (λW t=>fa f62_2 z z z) t z (.ts' 6 z (λW t=>ld t3 t.p1 z z z z z) t z (bv h λx5 hx5 h=>.ts' 7 z (λW t=>ixv (s.keep q_1) hx5 u166 t90 z z z) t z (.ts' 8 z (λW t=>lde (RV.flat (t.keep q_1) hx5 z) t90 z z z z z) t z (.tp' 9 z z t (.ts' 10 z (λW t=>fa f62_3 z z z) t z (.ts' 11 z (λW t=>ld t3 t.p1 z z z z z) t z (bv h λx6 hx6 h=>.ts' 12 z (λW t=>ixv (s.keep q_1) hx6 u166 t90 z z z) t z (.ts' 13 z (λW t=>lde (RV.flat (t.keep q_1) hx6 z) t90 z z z z z) t z (bv h λy1 hy1 h=>.by1 14 z (.cO s func187 (nA hy1) z z ?_)))))))))))))))
  intro W s
  refine s.an [0,0] λt=>bv h λx7 hx7 h=>.ts' 15 z (λW t=>ixv s.lv hx7 u166 t90 z z z) t z (bv h λr5 hr5 h=>.by1 16 z (.sev hr5 hx7 s t90 z z z z z z ?_))
  intro W s
  refine ⟨λh=>absurd z h,?_⟩
  obtain rfl:=o9 h
  exact .done (.g (.q z (.qn z (.ret (aa v2 (rt z rn) z (s.tk [0]))))))
 obtain rfl:=o9 h
 exact .skip (.g (.q z (.qn z (.ret (aa v2 (rt z rn) z (s.tk [0]))))))
theorem ot {a0:ai} {a1:ai} {w:World} {r:ai} (h:gZ a0 a1=some r):CL 192 #[.agg #[vi a0.Kind,vi a0.N],.agg #[vi a1.Kind,vi a1.N]] w (RU w (.agg #[vi r.Kind,vi r.N])):=by
 unfold gZ at h
 refine aw func192 z z ?_
 have s:=Sep.start w
 refine .g (.c (.box s z z ?_))
 intro g1 W s
 refine .c (.box s z z ?_)
 intro g2 W s
 refine .c (.alloc t90 s ?_)
 intro g3 W s
 refine .nil (.seq (.g (.s (fa f90_0 z z z) z (.s (ld t3 s.p2 z z z z z) z (.q z (.nil ?_))))))
 refine .cs z h ?_ ?_ <;> intro h
 ·refine .g (.s (ld t90 s.p1 z z z z z) z (.c (.st t90 s z z z ?_)))
  intro W s
  obtain rfl:=o9 h
  exact .nil (.ret (aa () (rc s t90 z rn z z) z (s.to [])))
 refine .skip (.seq (.g (.s (fa f90_0 z z z) z (.s (ld t3 s.p1 z z z z z) z (.q z (.q z (.cu 4 16 ((a1.Kind==0)||((a0.Kind==a1.Kind)&&((a0.N==a1.N)&&true))) s ?_ ?_)))))))
 ·refine .both (a1.Kind==0) (λb=>?_) (λb=>?_)
  ·exact .xx b z (.xx b z (.xx b z (.s (pkt b z z z) z (.nil (ck 4 s z (kK b))))))
  have hg1:=b
  exact .g hg1 (.s (ld t90 s.p2 z z z z z) z (.g hg1 (.s (ld t90 s.p1 z z z z z) z (.g hg1 (.s (eqs T.e90 z z z z) z (.s (pkf hg1 z z z) z (.nil (ck 4 s z (jT hg1)))))))))
 intro W s
 refine .nil ?_
 refine .cs z h ?_ ?_ <;> intro h
 ·refine .g (.s (ld t90 s.p2 z z z z z) z (.c (.st t90 s z z z ?_)))
  intro W s
  obtain rfl:=o9 h
  exact .nil (.ret (aa () (rc s t90 z rn z z) z (s.to [])))
 refine .skip (.g (.s (bs T.s90 z z) z (.c (.st t90 s z z z ?_))))
 intro W s
 cases h
 exact .nil (.ret (aa () (rc s t90 z rn z z) z (s.to [])))
theorem sT {a0:List (List ai)} {a1:Int} {a2:List ai} {v_0:Hd} {v_2:Hd} {S:Nat->Prop} {w:World} {r:Bool×(List (List ai))} (h:fN a0 a1 a2=some r) (q_2:RV w (Old S w) (sv v_2) 90 2 aV a2) (hO:bG w [ac (sv v_0) 166 1 (λ(l:List ai)=>D.row 90 2 (l.map aV)) a0] S) (hlt:∀ b,S b->b<w.heap.size):CL 186 #[sv v_0,vi a1,sv v_2] w (Ret S w (λs:Unit=>.bool r.1) (λs=>[ac (sv v_0) 166 1 (λ(l:List ai)=>D.row 90 2 (l.map aV)) r.2])):=by
 unfold fN at h
 refine aw func186 z z ?_
 have s:=Sep.sm hO hlt
 refine .g (.qn z (.g (.qn z (.seq (.g (.qn z (.block (bv h λy1 hy1 h=>?_))))))))
 refine .via (.iter (λs1 E' W'=>ao E' [(0,(sv v_0)),(1,vi a1),(2,(sv v_2)),(7,.bool s1.1),(8,vi s1.2.1)]/\Sep S w W' [ac (sv v_0) 166 1 (λ(l:List ai)=>D.row 90 2 (l.map aV)) s1.2.2]) (λy2 x E' W'=>x=.exit 0/\ao E' [(7,.bool y2.1)]/\Sep S w W' [ac (sv v_0) 166 1 (λ(l:List ai)=>D.row 90 2 (l.map aV)) y2.2]) hy1 ⟨sb z,s.tk [0]⟩ ?_) ?_
 ·intro s1 y3 E W h hI
  obtain ⟨hE,s⟩:=hI
  refine CW.sub hE ?_
  unfold jy at h
  refine .seq (.g (.q z (.q z (.nil ?_))))
  refine .cs z h ?_ ?_ <;> intro h
  ·refine .skip (bv h λy4 hy4 h=>?_)
   refine .seq (CW.via (R':=λx E' W'=>x=.normal/\ao E' [(0,(sv v_0)),(1,vi a1),(2,(sv v_2)),(7,.bool y4.1),(8,vi s1.2.1)]/\Sep S w W' [ac (sv v_0) 166 1 (λ(l:List ai)=>D.row 90 2 (l.map aV)) y4.2]) ?_ ?_)
   ·have h:=hy4
    refine .block (.seq (bv h λx1 hx1 h=>?_))
    obtain ⟨k1,s⟩:=Sep.ov s hx1
    obtain ⟨v1,k1,rfl,s⟩:=s.ow
    obtain ⟨rfl,s⟩:=s.oN
    refine bv h λx4 hx4 h=>bv h λx5 hx5 h=>bv h λy6 hy6 h=>?_
    refine .via (R':=λx E' W'=>x=.normal/\∃ (g2:Nat),ao E' [(0,(sv v_0)),(1,vi a1),(2,(sv v_2)),(7,.bool s1.1),(8,vi s1.2.1),(9,Pt g2)]/\Sep S w W' [ac (sv v_0) 166 1 (λ(l:List ai)=>D.row 90 2 (l.map aV)) s1.2.2,.box g2 90 [vi y6.Kind,vi y6.N]]) ?_ ?_
    ·refine .rk 13 s [0,0] T.mix ?_
     intro W s
     have t:=s.to [0,0]
     refine .tp' 0 z z t (.tp' 1 z z t (.ts' 2 z (λW t=>ixh t.p1 hx1 u163 t166 z z z) t z (.ts' 3 z (λW t=>lde (t.p1.hcellsv) t166 z z z z z) t z (.tp' 4 z z t (.ts' 5 z (λW t=>ixv s.lv hx4 u166 t90 z z z) t z (.ts' 6 z (λW t=>lde (RV.flat t.lv hx4 z) t90 z z z z z) t z (.tp' 7 z z t (.tp' 8 z z t (.ts' 9 z (λW t=>ixv (s.keep q_2) hx5 u166 t90 z z z) t z (.ts' 10 z (λW t=>lde (RV.flat (t.keep q_2) hx5 z) t90 z z z z z) t z (.by [11,12] ⟨⟨_,z,?_⟩,⟨_,z,?_⟩,trivial⟩)))))))))))
     ·refine (.cO s func192 (ot hy6) z z ?_)
      intro W s
      refine s.an [0,0] λt=>.by1 12 z (.alloc t90 s ?_)
      intro g3 W s
      refine s.an [1,1] λt=>.by1 13 z (.st t90 s z z z ?_)
      intro W s
      refine ⟨λh=>absurd z h,?_⟩
      refine .done ?_
      have s:=Sep.gat (ds:=[.row 90 2 (x1.map aV)]) (cs:=[sv v1]) (L1:=[ac (sv v1) 90 2 aV x1]) (.row (.nil)) (s.to [1,1,0])
      have s:Sep _ _ _ [ac (sv v_0) 166 1 (λ(l:List ai)=>D.row 90 2 (l.map aV)) s1.2.2,.box g3 90 [vi y6.Kind,vi y6.N]]:=Sep.back0v hx1 s
      exact ⟨z,g3,sb z,s.tk [0,0]⟩
     refine (.alloc t90 s ?_)
     intro g4 W s
     refine s.an [1,1] λt=>.by1 11 z (.cO s func192 (ot hy6) z z ?_)
     intro W s
     refine s.an [1,1] λt=>.by1 13 z (.st t90 s z z z ?_)
     intro W s
     refine ⟨λh=>absurd z h,?_⟩
     refine .done ?_
     have s:=Sep.gat (ds:=[.row 90 2 (x1.map aV)]) (cs:=[sv v1]) (L1:=[ac (sv v1) 90 2 aV x1]) (.row (.nil)) (s.to [1,1,0])
     have s:Sep _ _ _ [ac (sv v_0) 166 1 (λ(l:List ai)=>D.row 90 2 (l.map aV)) s1.2.2,.box g4 90 [vi y6.Kind,vi y6.N]]:=Sep.back0v hx1 s
     exact ⟨z,g4,sb z,s.tk [0,0]⟩
    intro x E W hJ
    obtain ⟨rfl,g5,hE,s⟩:=hJ
    refine ⟨_,hE.sub,?_⟩
    refine .seq (bv h λx6 hx6 h=>?_)
    obtain ⟨k2,s⟩:=Sep.ov s hx6
    obtain ⟨v2,k2,rfl,s⟩:=s.ow
    obtain ⟨rfl,s⟩:=s.oN
    refine .rk 9 s [0,0,0] T.mix ?_
    intro W s
    have t:=s.to [0,0,0]
    refine .ts' 0 z (λW t=>ld t90 t.p2 z z z z z) t z (.tp' 1 z z t (.tp' 2 z z t (.ts' 3 z (λW t=>ixh t.p1 hx6 u163 t166 z z z) t z (.ts' 4 z (λW t=>lde (t.p1.hcellsv) t166 z z z z z) t z (.tp' 5 z z t (bv h λx8 hx8 h=>.ts' 6 z (λW t=>ixv s.lv hx8 u166 t90 z z z) t z (.ts' 7 z (λW t=>lde (RV.flat t.lv hx8 z) t90 z z z z z) t z (.ts' 8 z (λW t=>nes T.e90 z z z z) t z (.done ?_)))))))))
    refine .cs z h ?_ ?_ <;> intro h
    ·refine .seq (.rk 7 s [0,0,0] T.mix ?_)
     intro W s
     have t:=s.to [0,0,0]
     refine .tp' 0 z z t (.tp' 1 z z t (.ts' 2 z (λW t=>ixh t.p1 hx6 u163 t166 z z z) t z (.ts' 3 z (λW t=>lde (t.p1.hcellsv) t166 z z z z z) t z (.tp' 4 z z t (.ts' 5 z (λW t=>ld t90 t.p2 z z z z z) t z (bv h λx9 hx9 h=>.ts' 6 z (λW t=>ixv s.lv hx9 u166 t90 z z z) t z (bv h λr1 hr1 h=>.by1 7 z (.sev hr1 hx9 s t90 z z z z z z ?_))))))))
     intro W s
     refine ⟨λh=>absurd z h,?_⟩
     refine .done (.region (.q z (.nil ?_)))
     have s:=Sep.gat (ds:=[.row 90 2 (r1.map aV)]) (cs:=[sv v2]) (L1:=[ac (sv v2) 90 2 aV r1]) (.row (.nil)) (s.to [0,0,0])
     have s:Sep _ _ _ [ac (sv v_0) 166 1 (λ(l:List ai)=>D.row 90 2 (l.map aV)) (s1.2.2.set (Int.toNat a1) r1),.box g5 90 [vi y6.Kind,vi y6.N]]:=s.bv
     cases h
     exact ⟨z,sb z,s.tk [0]⟩
    refine .skip ?_
    have s:=Sep.gat (ds:=[.row 90 2 (x6.map aV)]) (cs:=[sv v2]) (L1:=[ac (sv v2) 90 2 aV x6]) (.row (.nil)) (s.to [0,0,0])
    have s:Sep _ _ _ [ac (sv v_0) 166 1 (λ(l:List ai)=>D.row 90 2 (l.map aV)) s1.2.2,.box g5 90 [vi y6.Kind,vi y6.N]]:=Sep.back0v hx6 s
    cases h
    exact ⟨z,sb z,s.tk [0]⟩
   intro x E W hJ
   obtain ⟨rfl,hE,s⟩:=hJ
   refine ⟨_,hE.sub,?_⟩
   refine .region (.q z (.q z (.q z (.nil ?_))))
   cases h
   exact ⟨z,sb z,s.tk [0]⟩
  refine .exit ?_
  cases h
  exact ⟨by simp,z,sb z,s.tk [0]⟩
 intro x E W hJ
 obtain ⟨rfl,hE,s⟩:=hJ
 refine ⟨_,hE.sub,?_⟩
 cases h
 exact .g (.q z (.qn z (.ret (aa () (rt z rn) z (s.tk [0])))))
theorem sU {a0:List ab} {a1:List (List ai)} {v_0:Hd} {v_1:Hd} {S:Nat->Prop} {w:World} {r:Bool×(List (List ai))} (h:fO a0 a1=some r) (q_0:RV w (Old S w) (sv v_0) 62 5 ah a0) (hO:bG w [ac (sv v_1) 166 1 (λ(l:List ai)=>D.row 90 2 (l.map aV)) a1] S) (hlt:∀ b,S b->b<w.heap.size):CL 171 #[sv v_0,sv v_1] w (Ret S w (λs:Unit=>.bool r.1) (λs=>[ac (sv v_1) 166 1 (λ(l:List ai)=>D.row 90 2 (l.map aV)) r.2])):=by
 unfold fO at h
 refine aw func171 z z ?_
 have s:=Sep.sm hO hlt
 refine .g (.qn z (.g (.qn z (.seq (.g (.qn z (.block (bv h λy1 hy1 h=>?_))))))))
 refine .via (.iter (λs1 E' W'=>ao E' [(0,(sv v_0)),(1,(sv v_1)),(5,.bool s1.1),(6,vi s1.2.1)]/\Sep S w W' [ac (sv v_1) 166 1 (λ(l:List ai)=>D.row 90 2 (l.map aV)) s1.2.2]) (λy2 x E' W'=>x=.exit 0/\ao E' [(5,.bool y2.1)]/\Sep S w W' [ac (sv v_1) 166 1 (λ(l:List ai)=>D.row 90 2 (l.map aV)) y2.2]) hy1 ⟨sb z,s.tk [0]⟩ ?_) ?_
 ·intro s1 y3 E W h hI
  obtain ⟨hE,s⟩:=hI
  refine CW.sub hE ?_
  unfold jA at h
  refine .seq (.g (.q z (.q z (.s (aD (s.keep q_0) u33 z z) z (.q z (.nil ?_))))))
  refine .cs z h ?_ ?_ <;> intro h
  ·refine .skip (bv h λy4 hy4 h=>?_)
   refine .seq (CW.via (R':=λx E' W'=>x=.normal/\ao E' [(0,(sv v_0)),(1,(sv v_1)),(5,.bool y4.1),(6,vi s1.2.1)]/\Sep S w W' [ac (sv v_1) 166 1 (λ(l:List ai)=>D.row 90 2 (l.map aV)) y4.2]) ?_ ?_)
   ·have h:=hy4
    refine .block (.seq (.g (.q z (.q z (bv h λx1 hx1 h=>.s (ixv s.lv hx1 u163 t166 z z z) z ?_)))))
    obtain ⟨k1,s⟩:=Sep.ov s hx1
    obtain ⟨v1,k1,rfl,s⟩:=s.ow
    obtain ⟨rfl,s⟩:=s.oN
    refine .s (lde (s.p1.hcellsv) t166 z z z z z) z (bv h λx2 hx2 h=>.s (ixv s.lv hx2 u166 t90 z z z) z (.s (fe f90_0 z z z) z (.s (lde (RV.flat s.lv hx2 z) t3 z z z z z) z (.q z (.nil ?_)))))
    refine .cs z h ?_ ?_ <;> intro h
    ·refine .exit ?_
     have s:=Sep.gat (ds:=[.row 90 2 (x1.map aV)]) (cs:=[sv v1]) (L1:=[ac (sv v1) 90 2 aV x1]) (.row (.nil)) (s.to [0,0])
     have s:Sep _ _ _ [ac (sv v_1) 166 1 (λ(l:List ai)=>D.row 90 2 (l.map aV)) s1.2.2]:=Sep.back0v hx1 s
     cases h
     exact ⟨z,sb z,s.tk [0]⟩
    refine .skip (.g (.q z (.q z (.q z (.s (ixh s.p1 hx1 u163 t166 z z z) z (.s (lde (s.p1.hcellsv) t166 z z z z z) z (.q z (bv h λy5 hy5 h=>.c (.cV s func184 (sP hy5 (s.keep q_0) s.lv) z z ?_)))))))))
    intro v2 W s
    refine .qn z (.seq (.rk 10 s [0,0,0] T.mix ?_))
    intro W s
    have t:=s.to [0,0,0]
    refine .tp' 0 z z t (.tp' 1 z z t (bv h λx3 hx3 h=>.ts' 2 z (λW t=>ixv (s.keep q_0) hx3 u33 t62 z z z) t z (.ts' 3 z (λW t=>lde (RV.flat (t.keep q_0) hx3 z) t62 z z z z z) t z (.tp' 4 z z t (.tp' 5 z z t (.ts' 6 z (λW t=>ixh t.p2 hx1 u163 t166 z z z) t z (.ts' 7 z (λW t=>lde (t.p2.hcellsv) t166 z z z z z) t z (bv h λy6 hy6 h=>.by1 8 z (.cV s func185 (sS hy6 s.p1.lv) z z ?_)))))))))
    intro v3 W s
    refine s.an [1,1,1] λt=>.tp' 9 z z t (.done (.g (.qn z (.block ?_))))
    have s:=Sep.gat (ds:=[.row 90 2 (x1.map aV)]) (cs:=[sv v1]) (L1:=[ac (sv v1) 90 2 aV x1]) (.row (.nil)) (s.to [2,2,0,0])
    have s:Sep _ _ _ [ac (sv v_1) 166 1 (λ(l:List ai)=>D.row 90 2 (l.map aV)) s1.2.2,ac (sv v3) 90 2 aV y6,ac (sv v2) 3 1 (D.int .i64) y5]:=Sep.back0v hx1 s
    refine bv h λy7 hy7 h=>?_
    refine .via (.iter (λs2 E' W'=>ao E' [(0,(sv v_0)),(1,(sv v_1)),(5,.bool s2.1),(6,vi s1.2.1),(7,(sv v2)),(8,(sv v3)),(9,vi s2.2.1)]/\Sep S w W' [ac (sv v_1) 166 1 (λ(l:List ai)=>D.row 90 2 (l.map aV)) s2.2.2,ac (sv v3) 90 2 aV y6,ac (sv v2) 3 1 (D.int .i64) y5]) (λy8 x E' W'=>x=.exit 2/\ao E' [(0,(sv v_0)),(1,(sv v_1)),(5,.bool y8.1),(6,vi s1.2.1)]/\Sep S w W' [ac (sv v_1) 166 1 (λ(l:List ai)=>D.row 90 2 (l.map aV)) y8.2,ac (sv v3) 90 2 aV y6,ac (sv v2) 3 1 (D.int .i64) y5]) hy7 ⟨sb z,s.tk [0,0,0]⟩ ?_) ?_
    ·intro s2 y9 E W h hI
     obtain ⟨hE,s⟩:=hI
     refine CW.sub hE ?_
     unfold jz at h
     refine .seq (.g (.q z (.q z (.s (aD s.p2.lv u23 z z) z (.qn z (.cond z (λb=>?_) (λb=>?_)))))))
     ·have h:=aW b h
      refine .skip (bv h λy10 hy10 h=>?_)
      refine .seq (CW.via (R':=λx E' W'=>x=.normal/\ao E' [(0,(sv v_0)),(1,(sv v_1)),(5,.bool y10.1),(6,vi s1.2.1),(7,(sv v2)),(8,(sv v3)),(9,vi s2.2.1)]/\Sep S w W' [ac (sv v_1) 166 1 (λ(l:List ai)=>D.row 90 2 (l.map aV)) y10.2,ac (sv v3) 90 2 aV y6,ac (sv v2) 3 1 (D.int .i64) y5]) ?_ ?_)
      ·have h:=hy10
       refine .block (.g (.q z (.q z (.q z (bv h λx4 hx4 h=>.s (ixv s.p2.lv hx4 u23 t3 z z z) z (.s (lde (RV.flat s.p2.lv hx4 z) t3 z z z z z) z (.q z (bv h λy11 hy11 h=>.c (.cS (L0:=[ac (sv v_1) 166 1 (λ(l:List ai)=>D.row 90 2 (l.map aV)) s2.2.2]) s func186 (λS h1 h2 h3=>(sT hy11 (h3.rdv (k:=0) z) h2 (zz h1))) z z ?_)))))))))
       rintro ⟨⟩ W s
       refine .nil ?_
       refine .cs z h ?_ ?_ <;> intro h
       ·refine .region (.q z (.nil ?_))
        cases h
        exact ⟨z,sb z,s.tk [0,0,0]⟩
       refine .skip ?_
       cases h
       exact ⟨z,sb z,s.tk [0,0,0]⟩
      intro x E W hJ
      obtain ⟨rfl,hE,s⟩:=hJ
      refine ⟨_,hE.sub,?_⟩
      refine .region (.q z (.q z (.q z (.nil ?_))))
      cases h
      exact ⟨z,sb z,s.tk [0,0,0]⟩
     have h:=aX b h
     refine .exit ?_
     cases h
     exact ⟨by simp,z,sb z,s.tk [0,0,0]⟩
    intro x E W hJ
    obtain ⟨rfl,hE,s⟩:=hJ
    refine ⟨_,hE.sub,?_⟩
    cases h
    exact ⟨z,sb z,s.tk [0]⟩
   intro x E W hJ
   obtain ⟨rfl,hE,s⟩:=hJ
   refine ⟨_,hE.sub,?_⟩
   refine .region (.q z (.q z (.q z (.nil ?_))))
   cases h
   exact ⟨z,sb z,s.tk [0]⟩
  refine .exit ?_
  cases h
  exact ⟨by simp,z,sb z,s.tk [0]⟩
 intro x E W hJ
 obtain ⟨rfl,hE,s⟩:=hJ
 refine ⟨_,hE.sub,?_⟩
 cases h
 exact .g (.q z (.qn z (.ret (aa () (rt z rn) z (s.tk [0])))))
theorem tN {a0:List ab} {v_0:Hd} {w:World} {r:(List (List ai))} (h:fy a0=some r) (q_0:RO w v_0 62 5 ah a0):CL 142 #[sv v_0] w (Ret No w (λs:Hd=>(sv s)) (λs=>[ac (sv s) 166 1 (λ(l:List ai)=>D.row 90 2 (l.map aV)) r])):=by
 unfold fy at h
 refine aw func142 z z ?_
 have s:=Sep.start w
 refine .g (.qn z (.g (.c (.lg (L1:=[]) [] (λ(l:List ai)=>D.row 90 2 (l.map aV)) u163 t166 (s.to []) z z z (.nil) ?_ z (λ_=>z)))))
 intro v1 W s
 refine .qn z (.seq (.g (.q z (bv h λy1 hy1 h=>.c (.cO s func57 (bg hy1 (s.keep q_0)) z z ?_)))))
 intro W s
 refine .qn z (.cond z (λb=>?_) (λb=>?_))
 ·have h:=aW b h
  cases h
  exact .g (.q z (.qn z (.ret (aa v1 (rt z rn) z (s.tk [0])))))
 have h:=aX b h
 refine .skip (.seq (.g (.qn z (.block (bv h λy2 hy2 h=>?_)))))
 refine .via (.iter (λs1 E' W'=>∃ (v4:Hd),ao E' [(0,(sv v_0)),(3,(sv v4)),(4,vi s1.2)]/\Sep No w W' [ac (sv v4) 166 1 (λ(l:List ai)=>D.row 90 2 (l.map aV)) s1.1]) (λy3 x E' W'=>x=.exit 0/\∃ (v5:Hd),ao E' [(0,(sv v_0)),(3,(sv v5))]/\Sep No w W' [ac (sv v5) 166 1 (λ(l:List ai)=>D.row 90 2 (l.map aV)) y3]) hy2 ⟨v1,sb z,s.tk [0]⟩ ?_) ?_
 ·intro s1 y4 E W h hI
  obtain ⟨v3,hE,s⟩:=hI
  refine CW.sub hE ?_
  unfold ky at h
  refine .seq (.g (.q z (.q z (.s (aD (s.keep q_0) u33 z z) z (.q z (.nil ?_))))))
  refine .cs z h ?_ ?_ <;> intro h
  ·refine .skip (.seq (.block (.region (.q z (bv h λr1 hr1 h=>.c (.mkv (ai.mk 0 0) aV hr1 u166 t90 s z z z z z (λ_=>z) ?_))))))
   intro v6 W s
   refine .c (.lg (L1:=[ac (sv v6) 90 2 aV r1]) [r1] (λ(l:List ai)=>D.row 90 2 (l.map aV)) u163 t166 (s.to [0,0]) z z z (.row (.nil)) ?_ z (λ_=>z))
   intro v7 W s
   refine bv h λr2 hr2 h=>.c (.appv hr2 (s.to [1,0]) u163 t166 z z z ?_)
   intro v8 W s
   refine .qn z (.region (.q z (.q z (.q z (.nil ?_)))))
   cases h
   exact ⟨z,v8,sb z,s.tk [0]⟩
  refine .exit ?_
  cases h
  exact ⟨by simp,z,v3,sb z,s.tk [0]⟩
 intro x E W hJ
 obtain ⟨rfl,v9,hE,s⟩:=hJ
 refine ⟨_,hE.sub,?_⟩
 refine .seq (.g (.qn z (.block (bv h λy5 hy5 h=>?_))))
 refine .via (.iter (λs2 E' W'=>ao E' [(0,(sv v_0)),(3,(sv v9)),(5,vi s2.1)]/\Sep No w W' [ac (sv v9) 166 1 (λ(l:List ai)=>D.row 90 2 (l.map aV)) s2.2]) (λy6 x E' W'=>x=.exit 2/\ao E' [(0,(sv v_0)),(3,(sv v9))]/\Sep No w W' [ac (sv v9) 166 1 (λ(l:List ai)=>D.row 90 2 (l.map aV)) y6]) hy5 ⟨sb z,s.tk [0]⟩ ?_) ?_
 ·intro s2 y7 E W h hI
  obtain ⟨hE,s⟩:=hI
  refine CW.sub hE ?_
  unfold kz at h
  refine .seq (.g (.q z (.q z (.nil ?_))))
  refine .cs z h ?_ ?_ <;> intro h
  ·refine .skip (.seq (.block (.region (.q z (bv h λx1 hx1 h=>.s (ixv s.lv hx1 u163 t166 z z z) z ?_)))))
   obtain ⟨k1,s⟩:=Sep.ov s hx1
   obtain ⟨v10,k1,rfl,s⟩:=s.ow
   obtain ⟨rfl,s⟩:=s.oN
   refine .s (lde (s.p1.hcellsv) t166 z z z z z) z (.q z (.s (bs T.s90 z z) z (bv h λx2 hx2 h=>.s (ixv s.lv hx2 u166 t90 z z z) z (bv h λr3 hr3 h=>.c (.sev hr3 hx2 s t90 z z z z z z ?_)))))
   intro W s
   refine .nil (.region (.q z (.q z (.q z (.nil ?_)))))
   have s:=Sep.gat (ds:=[.row 90 2 (r3.map aV)]) (cs:=[sv v10]) (L1:=[ac (sv v10) 90 2 aV r3]) (.row (.nil)) (s.to [0,0])
   have s:Sep _ _ _ [ac (sv v9) 166 1 (λ(l:List ai)=>D.row 90 2 (l.map aV)) (s2.2.set (Int.toNat 0) r3)]:=s.bv
   cases h
   exact ⟨z,sb z,s.tk [0]⟩
  refine .exit ?_
  cases h
  exact ⟨by simp,z,sb z,s.tk [0]⟩
 intro x E W hJ
 obtain ⟨rfl,hE,s⟩:=hJ
 refine ⟨_,hE.sub,?_⟩
 refine .seq (.block (bv h λy8 hy8 h=>?_))
 refine .via (.iter (λs3 E' W'=>ao E' [(0,(sv v_0)),(3,(sv v9))]/\Sep No w W' [ac (sv v9) 166 1 (λ(l:List ai)=>D.row 90 2 (l.map aV)) s3]) (λy9 x E' W'=>x=.exit 4/\ao E' [(3,(sv v9))]/\Sep No w W' [ac (sv v9) 166 1 (λ(l:List ai)=>D.row 90 2 (l.map aV)) y9]) hy8 ⟨sb z,s.tk [0]⟩ ?_) ?_
 ·intro s3 y10 E W h hI
  obtain ⟨hE,s⟩:=hI
  refine CW.sub hE ?_
  unfold kA at h
  refine .seq (.g (.q z (.q z (bv h λy11 hy11 h=>.c (.cS (L0:=[ac (sv v9) 166 1 (λ(l:List ai)=>D.row 90 2 (l.map aV)) s3]) s func171 (λS h1 h2 h3=>(sU hy11 (s.ks q_0 h1) h2 (zz h1))) z z ?_)))))
  rintro ⟨⟩ W s
  refine .nil ?_
  refine .cs z h ?_ ?_ <;> intro h
  ·refine .skip (.block (.skip ?_))
   cases h
   exact ⟨z,sb z,s.tk [0]⟩
  refine .exit ?_
  cases h
  exact ⟨by simp,z,sb z,s.tk [0]⟩
 intro x E W hJ
 obtain ⟨rfl,hE,s⟩:=hJ
 refine ⟨_,hE.sub,?_⟩
 obtain rfl:=o9 h
 exact .g (.q z (.qn z (.ret (aa v9 (rt z rn) z (s.tk [0])))))
theorem f7 {a0:ai} {a1:Int} {w:World} {r:Bool} (h:fP a0 a1=some r):CL 173 #[.agg #[vi a0.Kind,vi a0.N],vi a1] w (RU w (.bool r)):=by
 unfold fP at h
 refine aw func173 z z ?_
 have s:=Sep.start w
 refine .g (.c (.box s z z ?_))
 intro g1 W s
 refine .qn z (.g (.s (fa f90_0 z z z) z (.s (ld t3 s z z z z z) z (.q z (.q z (.cu 5 13 ((a0.Kind==1)&&(a0.N==a1)) s ?_ ?_))))))
 ·refine .both (a0.Kind==1) (λb=>?_) (λb=>?_)
  ·have hg1:=b
   exact .g hg1 (.s (fa f90_1 z z z) z (.g hg1 (.s (ld t3 s z z z z z) z (.g hg1 (.q z (.g hg1 (.q z (.s (pkt hg1 z z z) z (.nil (ck 5 s z (bc hg1)))))))))))
  exact .xx b z (.xx b z (.xx b z (.xx b z (.s (pkf b z z z) z (.nil (ck 5 s z (be b)))))))
 intro W s
 cases h
 exact .qn z (.ret (aa () (rt z rn) z (s.to [])))
def vR (w:World) (r:Bool):Env->World->Prop:=Fin Tryz.prog Tryz.f194 No w (λs:Unit=>.bool r) (λs=>[]) .ret
theorem vj {a0:List Int} {a1:Int} {v_0:Hd} {w:World} {r:Bool} (h:mq a0 a1=some r) (q_0:RO w v_0 3 1 (D.int .i64) a0):CL 194 #[sv v_0,vi a1] w (RU w (.bool r)):=by
 unfold mq at h
 refine aw func194 z z ?_
 have s:=Sep.start w
 refine .g (.qn z (.seq (.g (.qn z (.block (bv h λy1 hy1 h=>?_))))))
 refine .via (.iter (λs1 E' W'=>ao E' [(0,(sv v_0)),(1,vi a1),(5,vi s1)]/\Sep No w W' []) (λy2 x E' W'=>(match y2 with | .inl o1=>x=.ret/\vR w o1 E' W' | .inr o2=>x=.exit 0/\ao E' []/\Sep No w W' [])) hy1 ⟨sb rfl,s.to [] rfl⟩ ?_) ?_
 ·intro s1 y3 E W h hI
  obtain ⟨hE,s⟩:=hI
  refine CW.sub hE ?_
  unfold m9 at h
  refine .seq (.g (.q z (.q z (.s (aD (s.keep q_0) u23 z z) z (.q z (.nil ?_))))))
  refine .cs z h ?_ ?_ <;> intro h
  ·refine .skip (.seq (.block (.g (.q z (.q z (bv h λx1 hx1 h=>.s (ixv (s.keep q_0) hx1 u23 t3 z z z) z (.s (lde (RV.flat (s.keep q_0) hx1 z) t3 z z z z z) z (.q z (.q z (.nil ?_))))))))))
   refine .cs z h ?_ ?_ <;> intro h
   ·refine .g (.qn z (.ret ?_))
    cases h
    exact ⟨by simp,z,aa (vs:=[_]) () (rt z rn) z (s.to [])⟩
   refine .skip (.region (.q z (.q z (.q z (.nil ?_)))))
   cases h
   exact ⟨z,sb z,s.to []⟩
  refine .exit ?_
  cases h
  exact ⟨by simp,z,sb z,s.to []⟩
 intro x E W hJ
 rcases y1 with o3 | o4
 ·have h:=bQ h
  obtain ⟨rfl,hF⟩:=hJ
  refine ⟨_,λ_ _ h=>h,?_⟩
  cases h
  exact hF
 have h:=bR h
 obtain ⟨rfl,hE,s⟩:=hJ
 refine ⟨_,hE.sub,?_⟩
 obtain rfl:=o9 h
 exact .g (.qn z (.ret (aa () (rt z rn) z (s.to []))))
theorem lJ {a0:Int} {a1:List Int} {v_1:Hd} {w:World} {r:Bool} (h:fz a0 a1=some r) (q_1:RO w v_1 3 1 (D.int .i64) a1):CL 188 #[vi a0,sv v_1] w (RU w (.bool r)):=by
 unfold fz at h
 refine aw func188 z z ?_
 have s:=Sep.start w
 refine .g (.qn z (.g (.q z (.q z (bv h λy1 hy1 h=>.c (.cO s func194 (vj hy1 (s.keep q_1)) z z ?_))))))
 intro W s
 obtain rfl:=o9 h
 exact .qn z (.ret (aa () (rt z rn) z (s.to [])))
end

end Go.Proofs.YtmjebmhcbnkojaaGreat.N
